/- The other operations. -/
import Derived.Test.YtdojljjiekgapaaGreatDoorAbOps
set_option linter.unusedVariables false
set_option linter.unusedSimpArgs false
namespace Go.Ab
variable {P : Program} {τ : Tab} {μ : Mu} {H : Heap} {w : World}

/-! ### Filling -/
def setFrom (off : Nat) (vs : List (Value × Nat)) (cs : Array Value) : Array Value := vs.foldl (fun cs (c, j) => cs.setIfInBounds (off + j) c) cs
theorem setFrom_size (off : Nat) : ∀ (vs : List (Value × Nat)) (cs : Array Value), (setFrom off vs cs).size = cs.size
  | [], _ => rfl
  | (v, j) :: vs, cs => by
    show (setFrom off vs (cs.setIfInBounds (off + j) v)).size = _
    rw [setFrom_size off vs]; simp
theorem setFrom_get (off : Nat) : ∀ (vs : List Value) (j0 : Nat) (cs : Array Value) (p : Nat), off + j0 + vs.length ≤ cs.size →
    (setFrom off (vs.zipIdx j0) cs)[p]? = if off + j0 ≤ p ∧ p < off + j0 + vs.length then vs[p - (off + j0)]? else cs[p]?
  | [], j0, cs, p, _ => by
    have : ¬ (off + j0 ≤ p ∧ p < off + j0 + ([] : List Value).length) := by simp only [List.length_nil]; omega
    rw [if_neg this]; rfl
  | v :: vs, j0, cs, p, h => by
    simp only [List.length_cons] at h ⊢
    show (setFrom off (vs.zipIdx (j0 + 1)) (cs.setIfInBounds (off + j0) v))[p]? = _
    rw [setFrom_get off vs (j0 + 1) _ p (by simp; omega)]
    by_cases h1 : off + (j0 + 1) ≤ p ∧ p < off + (j0 + 1) + vs.length
    · rw [if_pos h1, if_pos (by omega), show p - (off + j0) = (p - (off + (j0 + 1))) + 1 by omega]
      simp
    · rw [if_neg h1]
      by_cases h2 : p = off + j0
      · subst h2
        rw [if_pos (by omega)]
        rw [Array.getElem?_setIfInBounds_self_of_lt (by omega), Nat.sub_self]; rfl
      · rw [if_neg (by omega), Array.getElem?_setIfInBounds_ne (by omega)]
theorem fill_cons (place : Nat → Option (Nat × Nat)) (cells : Array Value) (i : Nat) (v : Value) (rest : List (Nat × Value)) (off size : Nat) (hp : place i = some (off, size)) (hs : v.cells.size = size) (hf : off + size ≤ cells.size) :
    Instr.fill place cells ((i, v) :: rest) = Instr.fill place (setFrom off (v.cells.toList.zipIdx 0) cells) rest := by
  rw [Instr.fill]
  simp only [hp, hs, ne_eq, not_true_eq_false, decide_false, Bool.false_or]
  have : ¬ (off + size > cells.size) := by omega
  simp only [this, decide_false, Bool.false_eq_true, if_false]
  congr 1
  rw [← Array.foldl_toList, Array.toList_zipIdx]
  rfl
theorem setFrom_all {off : Nat} {cs ls : List Lf} {v : Value} {cells : Array Value} (hc : All2 (LRel μ) cs v.cells.toList) (hl : All2 (LRel μ) ls cells.toList) (hf : off + cs.length ≤ ls.length) :
    All2 (LRel μ) (putRow ls off cs) (setFrom off (v.cells.toList.zipIdx 0) cells).toList := by
  have hsz : ls.length = cells.size := by rw [hl.len]; simp
  have hcl : cs.length = v.cells.toList.length := hc.len
  refine ⟨by simp only [Array.length_toList, setFrom_size, putRow, List.length_append, List.length_take, List.length_drop]; omega, ?_⟩
  intro p a b ha hb
  rw [Array.getElem?_toList, setFrom_get off v.cells.toList 0 cells p (by omega)] at hb
  have hm : (ls.take off).length = off := by simp; omega
  rw [putRow, List.append_assoc] at ha
  by_cases h1 : p < off
  · rw [if_neg (by omega), ← Array.getElem?_toList] at hb
    rw [List.getElem?_append_left (by omega), List.getElem?_take] at ha
    simp only [h1, if_true] at ha
    exact hl.at_ p a b ha hb
  · rw [List.getElem?_append_right (by omega), hm] at ha
    by_cases h2 : p < off + cs.length
    · rw [if_pos (by omega)] at hb
      rw [List.getElem?_append_left (by omega)] at ha
      exact hc.at_ _ a b ha (by rw [← hb]; congr 1)
    · rw [if_neg (by omega), ← Array.getElem?_toList] at hb
      rw [List.getElem?_append_right (by omega), List.getElem?_drop] at ha
      exact hl.at_ p a b (by rw [← ha]; congr 1; omega) hb
theorem fill_sound (ρ : Operand → Value) (tm : List V) (hρ : ∀ x, VRel μ (ev tm x) (ρ x)) (offs : List (Nat × Nat)) (place : Nat → Option (Nat × Nat)) (hp : ∀ i, place i = offs[i]?) :
    ∀ (parts : List (Nat × Operand)) (l : List (Nat × Nat × List Lf)) (cells : Array Value) (ls ls' : List Lf), placesS tm offs parts = some l → All2 (LRel μ) ls cells.toList → fillL ls l = some ls' →
      ∃ cells', Instr.fill place cells (parts.map fun (i, x) => (i, ρ x)) = some cells' ∧ All2 (LRel μ) ls' cells'.toList
  | [], l, cells, ls, ls', h1, h2, h3 => by
    simp [placesS] at h1; subst h1
    simp [fillL] at h3; subst h3
    exact ⟨cells, rfl, h2⟩
  | (i, x) :: parts, l, cells, ls, ls', h1, h2, h3 => by
    unfold placesS at h1
    split at h1
    · rename_i o z cs l' ho hcs hl'
      injection h1 with h1
      subst h1
      unfold fillL at h3
      split at h3
      · rename_i hc
        have hcc := (hρ x).cells hcs
        have hsz : (ρ x).cells.size = z := by rw [← hc.1, hcc.len]; simp
        have hlc : ls.length = cells.size := by rw [h2.len]; simp
        rw [List.map_cons, fill_cons place cells i (ρ x) _ o z (by rw [hp, ho]) hsz (by omega)]
        exact fill_sound ρ tm hρ offs place hp parts l' _ _ ls' hl' (setFrom_all hcc h2 (by omega)) h3
      · cases h3
    · cases h1
theorem run_places (w : World) : ∀ (fs : List Field), (∀ f ∈ fs, ∃ i, P.info? f.type = some i) →
    (fs.mapM fun f => do pure (f.offset, ← sizeOf f.type) : Sem (List (Nat × Nat))).run P w = .ok (fs.map fun f => (f.offset, P.cellsOf f.type)) w
  | [], _ => by simp
  | f :: fs, h => by
    obtain ⟨i, hi⟩ := h f (by simp)
    have ih := run_places w fs fun g hg => h g (by simp [hg])
    rw [List.mapM_cons]
    simp only [Sem.run_bind, Sem.run_pure]
    rw [show (sizeOf f.type).run P w = .ok i.size w by simp [sizeOf, typeInfo, hi]]
    simp only [Result.andThen_ok, ih, List.map_cons, Program.cellsOf, hi, Option.map_some, Option.getD_some]
theorem build_sound (hτ : TabOk P τ) {t : Nat} (ρ : Operand → Value) (tm : List V) (hρ : ∀ x, VRel μ (ev tm x) (ρ x)) (parts : Array (Nat × Operand)) {v : V} (h : buildV τ tm t parts.toList = some v) (w : World) :
    ∃ cv, (Instr.build t (parts.map fun (i, x) => (i, ρ x))).run P w = .ok cv w ∧ VRel μ v cv := by
  unfold buildV at h
  split at h
  rotate_left
  · cases h
  rename_i ti hti
  have hty := hτ t ti hti
  obtain ⟨z, hz, hzc, _⟩ := run_zeroValue' hty w
  have hzr : All2 (LRel μ) ti.zero z.cells.toList := by rw [hzc]; exact hty.zero_rel
  have hkind := hty.kind
  have hmap : (parts.map fun (i, x) => (i, ρ x)).toList = parts.toList.map fun (i, x) => (i, ρ x) := by simp
  split at h
  · rename_i offs hk
    rw [hk] at hkind
    obtain ⟨fs, hu, hoffs, hinfo⟩ := hkind
    split at h
    rotate_left
    · cases h
    rename_i l hl
    cases hfill : fillL ti.zero l with
    | none => simp [hfill] at h
    | some ls' =>
      simp [hfill] at h
      subst h
      have hplaces : (fs.mapM fun f => do pure (f.offset, ← sizeOf f.type) : Sem (Array (Nat × Nat))).run P w = .ok offs.toArray w := by
        rw [Array.mapM_eq_mapM_toList]
        rw [Sem.run_map, run_places w fs.toList hinfo, hoffs]
        rfl
      obtain ⟨cells', hf', hr⟩ := fill_sound ρ tm hρ offs (offs.toArray[·]?) (fun i => by simp) parts.toList l z.cells ti.zero ls' hl hzr hfill
      refine ⟨.agg cells', ?_, ⟨cells'.toList, by simp, hr⟩⟩
      simp only [Instr.build, Sem.run_bind, hz, Result.andThen_ok, run_underlying hu, hplaces, hmap, hf', Sem.run_pure]
  · rename_i n e hk
    rw [hk] at hkind
    split at h
    rotate_left
    · cases h
    rename_i te hte
    have hte' := hτ e te hte
    split at h
    rotate_left
    · cases h
    rename_i l hl
    cases hfill : fillL ti.zero l with
    | none => simp [hfill] at h
    | some ls' =>
      simp [hfill] at h
      subst h
      have gen : ∀ (parts : List (Nat × Operand)) (l : List (Nat × Nat × List Lf)), placesS tm ((List.range n).map fun i => (i * te.size, te.size)) parts = some l → ∀ p ∈ parts, p.1 < n := by
        intro parts
        induction parts with
        | nil => intro l _ p hp; cases hp
        | cons q parts ih =>
          intro l hl p hp
          obtain ⟨i, x⟩ := q
          unfold placesS at hl
          split at hl
          · rename_i o z' cs l' ho hcs hl'
            rcases List.mem_cons.1 hp with rfl | hp
            · have := (List.getElem?_eq_some_iff.1 ho).1; simpa using this
            · exact ih l' hl' p hp
          · cases hl
      have fillSame : ∀ (ps : List (Nat × Value)) (cells : Array Value), (∀ p ∈ ps, p.1 < n) →
          Instr.fill (fun i => some (i * te.size, te.size)) cells ps = Instr.fill (fun i => ((List.range n).map fun i => (i * te.size, te.size))[i]?) cells ps := by
        intro ps
        induction ps with
        | nil => intro cells _; rfl
        | cons q ps ih =>
          intro cells hlt
          obtain ⟨i, v⟩ := q
          have hi : i < n := hlt (i, v) (by simp)
          rw [Instr.fill, Instr.fill]
          have : ((List.range n).map fun i => (i * te.size, te.size))[i]? = some (i * te.size, te.size) := by simp [hi]
          simp only [this]
          split
          · rfl
          · exact ih _ fun p hp => hlt p (by simp [hp])
      obtain ⟨cells', hf', hr⟩ := fill_sound ρ tm hρ _ (fun i => ((List.range n).map fun i => (i * te.size, te.size))[i]?) (fun i => rfl) parts.toList l z.cells ti.zero ls' hl hzr hfill
      rw [← fillSame _ _ (by
        intro p hp
        obtain ⟨q, hq, rfl⟩ := List.mem_map.1 hp
        exact gen _ l hl q hq)] at hf'
      refine ⟨.agg cells', ?_, ⟨cells'.toList, by simp, hr⟩⟩
      have hkind' : P.underlying t = some (.array n e) := hkind
      simp only [Instr.build, Sem.run_bind, hz, Result.andThen_ok, run_underlying hkind', run_sizeOf' hte', hmap, hf', Sem.run_pure]
  · cases h

/-! ### Rows made -/
theorem made_flat {ls : List Lf} {z : Array Value} (h : All2 (LRel μ) ls z.toList) {sz : Nat} (hs : ls.length = sz) (n : Nat) : Flat μ sz (List.replicate n ls) (madeCells z (n * sz)).toList where
  len := by simp [size_madeCells]
  row := fun r row hr => by rw [List.getElem?_replicate] at hr; split at hr <;> simp_all
  cell := fun r row hr k l hl => by
    rw [List.getElem?_replicate] at hr
    split at hr
    · rename_i hrn
      injection hr with hr
      subst hr
      obtain ⟨v, hv, hrel⟩ := h.get hl
      refine ⟨v, ?_, hrel⟩
      have hk : k < sz := by rw [← hs]; exact (List.getElem?_eq_some_iff.1 hl).1
      have hzs : z.size = sz := by rw [← Array.length_toList, ← h.len, hs]
      have hlt : r * sz + k < n * sz := by
        have : (r + 1) * sz ≤ n * sz := Nat.mul_le_mul_right _ hrn
        rw [Nat.add_mul, Nat.one_mul] at this
        omega
      have hmod : (r * sz + k) % sz = k := by rw [Nat.mul_comm, Nat.mul_add_mod]; exact Nat.mod_eq_of_lt hk
      rw [Array.getElem?_toList] at hv ⊢
      have hkz : k < z.size := by omega
      simp only [madeCells, Array.getElem?_map, Array.getElem?_range, hlt, if_true, Option.map_some, hzs, hmod]
      rw [← hv, Array.getElem?_eq_getElem hkz]
      simp [getElem!_pos, hkz]
    · cases hr
theorem fillRows_sound (ρ : Operand → Value) (tm : List V) (hρ : ∀ x, VRel μ (ev tm x) (ρ x)) (sz : Nat) (hsz : 0 < sz) :
    ∀ (parts : List (Nat × Operand)) (rows rows' : List (List Lf)) (cells : Array Value), Flat μ sz rows cells.toList → fillRows tm sz rows parts = some rows' →
      ∃ cells', Instr.fill (fun i => some (i * sz, sz)) cells (parts.map fun (i, x) => (i, ρ x)) = some cells' ∧ Flat μ sz rows' cells'.toList ∧ cells'.size = cells.size
  | [], rows, rows', cells, h1, h2 => by
    simp [fillRows] at h2; subst h2
    exact ⟨cells, rfl, h1, rfl⟩
  | (i, x) :: parts, rows, rows', cells, h1, h2 => by
    unfold fillRows at h2
    split at h2
    · rename_i cs hcs
      split at h2
      · rename_i hc
        have hcc := (hρ x).cells hcs
        have hxs : (ρ x).cells.size = sz := by rw [← hc.1, hcc.len]; simp
        have hcl : cells.size = rows.length * sz := by rw [← h1.len]; simp
        have hi : (i + 1) * sz ≤ rows.length * sz := Nat.mul_le_mul_right _ hc.2
        rw [Nat.add_mul, Nat.one_mul] at hi
        rw [List.map_cons, fill_cons _ cells i (ρ x) _ (i * sz) sz rfl hxs (by omega)]
        have hnew : Flat μ sz (rows.set i cs) (setFrom (i * sz) ((ρ x).cells.toList.zipIdx 0) cells).toList := by
          have hxl : (ρ x).cells.toList.length = sz := by simp [hxs]
          refine ⟨by simp [setFrom_size, hcl], ?_, ?_⟩
          · intro r row hr
            rw [List.getElem?_set] at hr
            split at hr
            · split at hr
              · injection hr with hr; rw [← hr]; exact hc.1
              · cases hr
            · exact h1.row r row hr
          · intro r row hr k l hl
            rw [Array.getElem?_toList, setFrom_get _ _ 0 cells _ (by omega)]
            rw [List.getElem?_set] at hr
            by_cases he : i = r
            · subst he
              simp only [if_true] at hr
              split at hr
              · injection hr with hr
                subst hr
                obtain ⟨v, hv, hrel⟩ := hcc.get hl
                have hk : k < sz := by rw [← hc.1]; exact (List.getElem?_eq_some_iff.1 hl).1
                refine ⟨v, ?_, hrel⟩
                rw [if_pos (by omega), ← hv]
                congr 1
                omega
              · cases hr
            · simp only [he, if_false] at hr
              obtain ⟨v, hv, hrel⟩ := h1.cell r row hr k l hl
              have hk : k < sz := by rw [← h1.row r row hr]; exact (List.getElem?_eq_some_iff.1 hl).1
              refine ⟨v, ?_, hrel⟩
              rw [if_neg ?_, ← Array.getElem?_toList]
              · exact hv
              · rcases Nat.lt_or_ge r i with hlt | hge
                · have : (r + 1) * sz ≤ i * sz := Nat.mul_le_mul_right _ hlt
                  rw [Nat.add_mul, Nat.one_mul] at this
                  omega
                · have : (i + 1) * sz ≤ r * sz := Nat.mul_le_mul_right _ (by omega)
                  rw [Nat.add_mul, Nat.one_mul] at this
                  omega
        obtain ⟨cells', hf, hfl, hsize⟩ := fillRows_sound ρ tm hρ sz hsz parts (rows.set i cs) rows' (setFrom (i * sz) ((ρ x).cells.toList.zipIdx 0) cells) hnew h2
        exact ⟨cells', hf, hfl, by rw [hsize, setFrom_size]⟩
      · cases h2
    · cases h2
theorem buildSlice_sound (hτ : TabOk P τ) (hR : Rel P μ H w) {t len : Nat} (ρ : Operand → Value) (tm : List V) (hρ : ∀ x, VRel μ (ev tm x) (ρ x)) (parts : Array (Nat × Operand)) {v : V} {H' : Heap} (h : buildSliceV τ tm H t len parts.toList = some (v, H')) :
    ∃ cv μ' w', (Instr.buildSlice t len (parts.map fun (i, x) => (i, ρ x))).run P w = .ok cv w' ∧ VRel μ' v cv ∧ Stp P μ H w μ' H' w' := by
  unfold buildSliceV at h
  cases hB : buildSliceR τ tm t len parts.toList with
  | none => rw [hB] at h; cases h
  | some rr =>
  rw [hB] at h
  simp only [Option.map_some] at h
  unfold buildSliceR at hB
  split at hB
  rotate_left
  · cases hB
  rename_i s1 s2 e s3 s4 hti
  have hkind := (hτ t _ hti).kind
  have hkind' : P.underlying t = some (.slice e) := hkind
  split at hB
  rotate_left
  · cases hB
  rename_i te hte
  have hte' := hτ e te hte
  split at hB
  rotate_left
  · cases hB
  rename_i hb
  cases hrows : fillRows tm te.size (List.replicate len te.zero) parts.toList with
  | none => rw [hrows] at hB; cases hB
  | some rows =>
  rw [hrows] at hB
  simp only [Option.map_some, Option.some.injEq] at hB
  subst hB
  injection h with h
  injection h with h1 h2
  subst h1 h2
  obtain ⟨z, hz, hzc, _⟩ := run_zeroValue' hte' w
  have hzr : All2 (LRel μ) te.zero z.cells.toList := by rw [hzc]; exact hte'.zero_rel
  have hmap : (parts.map fun (i, x) => (i, ρ x)).toList = parts.toList.map fun (i, x) => (i, ρ x) := by simp
  obtain ⟨cells', hf, hfl, hsize⟩ := fillRows_sound ρ tm hρ te.size hb.2 parts.toList _ rows (madeCells z.cells (len * te.size)) (made_flat hzr hte'.zlen len) hrows
  have hrl : rows.length = len := by
    have := hfl.len
    rw [Array.length_toList, hsize, size_madeCells] at this
    exact (Nat.eq_of_mul_eq_mul_right hb.2 this).symm
  refine ⟨.slice (some ⟨w.heap.size, 0, none⟩) len len, _, w.alloc (.cells cells' e), ?_, ?_, Stp.fresh hR w (.inl rfl) cells' e rows cells'.toList [] (by rw [hte'.size]; exact hfl) (by simp) (fun h => by rw [(hτ t _ hti).nw e rfl] at h; cases h)⟩
  · have hnb : ¬ (len * te.size > 2 ^ 24) := by have := hb.1; omega
    by_cases h0 : len * te.size = 0
    · have hlen0 : len = 0 := by
        rcases Nat.mul_eq_zero.1 h0 with h | h
        · exact h
        · omega
      simp only [Instr.buildSlice, Sem.run_bind, run_underlying hkind', Result.andThen_ok, run_sizeOf' hte', Sem.run_ite, if_neg hnb, Sem.run_pure, if_pos h0, hmap]
      rw [show (Array.map (fun x => (#[] : Array Value)[x % (#[] : Array Value).size]!) (Array.range (len * te.size))) = madeCells z.cells (len * te.size) by rw [h0]; simp [madeCells, Array.range_zero'], hf]
      rfl
    · simp only [Instr.buildSlice, Sem.run_bind, run_underlying hkind', Result.andThen_ok, run_sizeOf' hte', Sem.run_ite, if_neg hnb, Sem.run_pure, if_neg h0, hz, hmap]
      rw [show (Array.map (fun x => z.cells[x % z.cells.size]!) (Array.range (len * te.size))) = madeCells z.cells (len * te.size) from rfl, hf]
      rfl
  · refine ⟨_, _, len, upd_same _ _ _, rfl, Nat.le_refl _, (fun _ => by simp), (fun h => by cases h), fun _ => ⟨by simp [hrl], fun _ => ?_⟩⟩
    simp only [Nat.zero_add, hsize, size_madeCells, hte'.size]
    exact Nat.le_refl _
theorem makeSlice_sound (hτ : TabOk P τ) (hR : Rel P μ H w) {t : Nat} {x y : V} {xv yv : Value} (hx : VRel μ x xv) (hy : VRel μ y yv) {v : V} {H' : Heap} (h : makeSliceV τ H t x y = some (v, H')) :
    ∃ cv μ' w', (Instr.makeSlice t xv yv).run P w = .ok cv w' ∧ VRel μ' v cv ∧ Stp P μ H w μ' H' w' := by
  unfold makeSliceV at h
  cases hB : makeSliceR τ t x y with
  | none => rw [hB] at h; cases h
  | some rr =>
  rw [hB] at h
  simp only [Option.map_some] at h
  unfold makeSliceR at hB
  split at hB
  rotate_left
  · cases hB
  rename_i s1 s2 e s3 s4 n m hti
  have hkind' : P.underlying t = some (.slice e) := (hτ t _ hti).kind
  split at hB
  rotate_left
  · cases hB
  rename_i te hte
  have hte' := hτ e te hte
  split at hB
  rotate_left
  · cases hB
  rename_i hb
  simp only [Option.some.injEq] at hB
  subst hB
  obtain ⟨rfl, h0, hby, h63, hsz⟩ := hb
  injection h with h
  injection h with h1 h2
  subst h1 h2
  obtain ⟨i, z, hi, hsize, hbytes, hzero, hzc, _⟩ := hte'.info
  have hzr : All2 (LRel μ) te.zero z.cells.toList := by rw [hzc]; exact hte'.zero_rel
  have hx' : xv = .int .i64 n := hx
  have hy' : yv = .int .i64 n := hy
  subst hx' hy'
  have hrun := run_make (P := P) w t e i z hkind' hi hzero .i64 .i64 n n h0 (Int.le_refl _) (by rw [hbytes, Int.mul_comm]; exact hby) h63
  rw [hsize] at hrun
  have hfl := made_flat hzr hte'.zlen n.toNat
  refine ⟨_, _, _, hrun, ?_, Stp.fresh hR w (.inl rfl) _ e _ _ [] (by rw [hte'.size]; exact hfl) (by simp) (fun h => by rw [(hτ t _ hti).nw e rfl] at h; cases h)⟩
  refine ⟨_, _, _, upd_same _ _ _, rfl, Nat.le_refl _, (fun _ => by simp), (fun h => by cases h), fun _ => ⟨by simp, fun _ => ?_⟩⟩
  simp only [Nat.zero_add, size_madeCells, hte'.size]
  exact Nat.le_refl _
end Go.Ab
