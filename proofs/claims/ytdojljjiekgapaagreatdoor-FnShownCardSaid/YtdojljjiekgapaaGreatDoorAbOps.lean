/- One operation: what the abstract run answers is what the machine answers. Conditions: the table of types is the program's. -/
import Derived.Test.YtdojljjiekgapaaGreatDoorAbMem
set_option linter.unusedVariables false
set_option linter.unusedSimpArgs false
namespace Go.Ab
variable {P : Program} {τ : Tab} {μ : Mu} {H : Heap} {w : World}

def lfVal : Lf → Value
  | .b x => .bool x
  | .i k n => .int k n
  | .s x => .string x
  | .p none => .pointer none
  | .sl none _ => .slice none 0 0
  | _ => undef
theorem lfOf_rel {v : Value} {l : Lf} (h : lfOf v = some l) : LRel μ l v := by
  unfold lfOf at h
  split at h <;> first
    | (injection h with h; subst h; first | rfl | exact ⟨rfl, rfl⟩)
    | cases h
theorem lfsOf_rel : ∀ {vs : List Value} {ls : List Lf}, lfsOf vs = some ls → All2 (LRel μ) ls vs
  | [], ls, h => by simp [lfsOf] at h; subst h; exact All2.nil
  | v :: vs, ls, h => by
    unfold lfsOf at h
    split at h
    · rename_i l ls' hl hls; injection h with h; subst h; exact All2.cons (lfOf_rel hl) (lfsOf_rel hls)
    · cases h
theorem ofVal_rel (v : Value) : VRel μ (ofVal v) v := by
  unfold ofVal
  split
  · split
    · rename_i cs _ l hl; exact ⟨cs.toList, by simp, lfsOf_rel hl⟩
    · trivial
  · split
    · rename_i l hl; exact lfOf_rel hl
    · trivial
def KindOk (P : Program) (t : Nat) : TK → Prop
  | .int k => P.underlying t = some (.int k)
  | .bool => P.underlying t = some .bool
  | .str => P.underlying t = some .string
  | .slice e => P.underlying t = some (.slice e)
  | .array n e => P.underlying t = some (.array n e)
  | .struct offs => ∃ fs, P.underlying t = some (.struct fs) ∧ (fs.toList.map fun f => (f.offset, P.cellsOf f.type)) = offs ∧ ∀ f ∈ fs.toList, ∃ i, P.info? f.type = some i
  | .other => ∃ d, P.underlying t = some d ∧ d.isRow = false
def EqOk (P : Program) (t : Nat) (ti : TI) : Prop := (∀ l ∈ ti.zero, l.sh ≠ .o) ∧ P.eqGuardType P.depth t = false ∧
  ∀ (w : World) (xs ys : List Lf), xs.map Lf.sh = ti.zero.map Lf.sh → ys.map Lf.sh = ti.zero.map Lf.sh →
    (Op.equal t (.agg (xs.map lfVal).toArray) (.agg (ys.map lfVal).toArray)).run P w = .ok (decide (xs = ys)) w
/-- A row of the table is the program's. -/
structure TyOk (P : Program) (t : Nat) (ti : TI) : Prop where
  info : ∃ i z, P.info? t = some i ∧ i.size = ti.size ∧ i.bytes = ti.bytes ∧ i.zero = some z ∧ z.cells.toList = ti.zero.map lfVal ∧ (ti.agg = true → ∃ cs, z = .agg cs)
  zlen : ti.zero.length = ti.size
  zok : ∀ l ∈ ti.zero, lfOf (lfVal l) = some l
  kind : KindOk P t ti.kind
  eq : ti.eq = true → EqOk P t ti
  nw : ∀ e, ti.kind = .slice e → noW e = true
def TabOk (P : Program) (τ : Tab) : Prop := ∀ t ti, τ t = some ti → TyOk P t ti
theorem TyOk.size {t : Nat} {ti : TI} (h : TyOk P t ti) : P.cellsOf t = ti.size := by
  obtain ⟨i, z, hi, hs, _⟩ := h.info
  simp [Program.cellsOf, hi, hs]
theorem TyOk.und {t : Nat} {ti : TI} (h : TyOk P t ti) : ∃ d, P.underlying t = some d ∧ d.isRow = ti.agg := by
  have := h.kind
  unfold TI.agg
  cases hk : ti.kind <;> simp only [hk, KindOk] at this
  case struct => obtain ⟨fs, hu, _⟩ := this; exact ⟨_, hu, rfl⟩
  case other => exact this
  all_goals exact ⟨_, this, rfl⟩
theorem TyOk.zero_rel {t : Nat} {ti : TI} (h : TyOk P t ti) : All2 (LRel μ) ti.zero (ti.zero.map lfVal) := by
  have := All2.map (R := LRel μ) (f := fun l : Lf => l) (g := lfVal) ti.zero fun l hl => lfOf_rel (h.zok l hl)
  simpa using this
theorem run_isAgg' {t : Nat} {d : TypeDesc} (h : P.underlying t = some d) (w : World) : (isAgg t).run P w = .ok d.isRow w := by
  unfold isAgg
  rw [Sem.run_bind, run_underlying h w]
  cases d <;> simp
theorem run_sizeOf' {t : Nat} {ti : TI} (h : TyOk P t ti) (w : World) : (sizeOf t).run P w = .ok ti.size w := by
  obtain ⟨i, z, hi, hs, _⟩ := h.info
  simp [sizeOf, typeInfo, hi, hs]
theorem run_zeroValue' {t : Nat} {ti : TI} (h : TyOk P t ti) (w : World) : ∃ z, (zeroValue t).run P w = .ok z w ∧ z.cells.toList = ti.zero.map lfVal ∧ (ti.agg = true → ∃ cs, z = .agg cs) := by
  obtain ⟨i, z, hi, _, _, hz, hc, ha⟩ := h.info
  exact ⟨z, by simp [zeroValue, typeInfo, hi, hz], hc, ha⟩

/-! ### Values and their cells -/
theorem VRel.cells {v : V} {cs : List Lf} {cv : Value} (hc : v.cells = some cs) (h : VRel μ v cv) : All2 (LRel μ) cs cv.cells.toList := by
  cases v with
  | w x => cases x with
    | lf l => simp [V.cells] at hc; subst hc; rw [LRel.cells h]; exact All2.cons h All2.nil
    | agg ls => simp [V.cells] at hc; subst hc; obtain ⟨vs, rfl, h⟩ := h; simpa [Value.cells] using h
  | _ => simp [V.cells] at hc
theorem blkAt_some {id : Nat} {b : Blk} (h : blkAt H id = some b) : H[id]? = some (some b) := by
  unfold blkAt at h
  split at h
  · rename_i b' hb; injection h with h; subst h; exact hb
  · cases h
theorem ptr_rel {id r k : Nat} {pv : Value} (h : VRel μ (.ptr id r k) pv) : ∃ L, μ id = some L ∧ pv = .pointer (some ⟨L.b, L.o + r * L.sz + k, none⟩) := h

theorem load_sound (hτ : TabOk P τ) {t : Nat} {ti : TI} (hti : τ t = some ti) (hR : Rel P μ H w) {id r k : Nat} {pv : Value} (hp : VRel μ (.ptr id r k) pv) {v : V} (h : loadV ti H id r k = some v) :
    ∃ cv, (Instr.loadAt t pv).run P w = .ok cv w ∧ VRel μ v cv := by
  obtain ⟨L, hL, rfl⟩ := ptr_rel hp
  have hty := hτ t ti hti
  unfold loadV at h
  split at h
  · cases h
  rename_i b hb
  split at h
  · cases h
  rename_i row hrow
  split at h
  · rename_i hk
    have hB := hR.blk id L b hL (blkAt_some hb)
    obtain ⟨cs, hcs, hrange⟩ := hB.cells_at hrow k ti.size hk
    obtain ⟨d, hd, hrow'⟩ := hty.und
    obtain ⟨i, z, hi, hs, _⟩ := hty.info
    unfold mkV at h
    by_cases ha : ti.agg = true
    · rw [if_pos ha] at h
      injection h with h
      subst h
      refine ⟨.agg cs.toArray, ?_, ⟨cs, rfl, hcs⟩⟩
      refine run_loadAt_mid w _ _ t cs d hrange hd (by rw [hrow', ha]) ?_
      have : cs.length = ti.size := by rw [← hcs.len]; simp; omega
      simp [hi, hs, this]
    · rw [if_neg ha] at h
      split at h
      · rename_i l hl
        injection h with h
        subst h
        rw [hl] at hcs
        obtain ⟨v, rest, rfl, hv, hrest⟩ := hcs.cons_left
        refine ⟨v, ?_, hv⟩
        have hcell := hrange 0 v rfl
        have hagg : (isAgg t).run P w = .ok false w := by rw [run_isAgg' hd, hrow']; simp [ha]
        simp only [Instr.loadAt, Instr.sureAddr, loadVar, Sem.run_bind, Sem.run_pure, Result.andThen_ok, hagg, Bool.false_eq_true, if_false, run_load]
        simp only [Nat.add_zero] at hcell
        rw [hcell]
      · cases h
  · cases h

theorem store_sound (hτ : TabOk P τ) {t : Nat} {ti : TI} (hti : τ t = some ti) (hR : Rel P μ H w) {id r k : Nat} {pv : Value} (hp : VRel μ (.ptr id r k) pv) {v : V} {cv : Value} (hv : VRel μ v cv) {H' : Heap} (h : storeV ti H id r k v = some H') :
    ∃ w', (Instr.storeAt t pv cv).run P w = .ok () w' ∧ Stp P μ H w μ H' w' := by
  obtain ⟨L, hL, rfl⟩ := ptr_rel hp
  have hty := hτ t ti hti
  unfold storeV at h
  split at h
  · rename_i b cs hb hcs
    split at h
    · cases h
    rename_i row hrow
    split at h
    · rename_i hc
      obtain ⟨hmd, hlen, hk⟩ := hc
      injection h with h
      subst h
      have hB := hR.blk id L b hL (blkAt_some hb)
      have hw : L.md = .wr := by rw [← hB.md]; exact hmd
      have hcells := hv.cells hcs
      have hrl := hB.row r row hrow
      have hrn : r < L.n := by rw [← hB.rows]; exact (List.getElem?_eq_some_iff.1 hrow).1
      obtain ⟨hs, hf, hfit⟩ := hB.own hw
      have hmul : (r + 1) * L.sz ≤ L.n * L.sz := Nat.mul_le_mul_right _ hrn
      rw [Nat.add_mul, Nat.one_mul] at hmul
      have hvl : cv.cells.toList.length = cs.length := hcells.len.symm
      refine ⟨w.setCells L.b (L.o + (r * L.sz + k)) cv.cells.toList, ?_, ?_⟩
      · have hst := run_storeCells_cells (P := P) L.b (L.o + r * L.sz + k) cv.cells.toList 0 w (fun j hj => cell_of_shape hs _ (by omega)) (fun j _ => hf _) (by
          intro u hu
          obtain ⟨j, hj⟩ := List.mem_iff_getElem?.1 hu
          have hjl : j < cs.length := by rw [← hvl]; exact (List.getElem?_eq_some_iff.1 hj).1
          exact (hcells.at_ j _ u (List.getElem?_eq_getElem hjl) hj).one)
        have hsz : cv.cells.size = ti.size := by rw [← hlen, ← hvl]; simp
        simp only [Instr.storeAt, Instr.sureAddr, storeVar, Sem.run_bind, Sem.run_pure, Result.andThen_ok, run_sizeOf' hty, hsz, ne_eq, not_true_eq_false, if_false]
        rw [Nat.add_zero] at hst
        rw [← Nat.add_assoc]
        exact hst
      · refine Stp.put hR hL (blkAt_some hb) hw _ _ (fun x hx => heap_setCells_ne _ _ _ _ _ hx) (size_setCells _ _ _ _) (os_setCells _ _ _ _) ?_
        have hpl : (putRow row k cs).length = row.length := by simp [putRow]; omega
        refine hB.over hw (r * L.sz + k) cv.cells.toList (by omega) _ (by simp) ?_ ?_
        · intro r' row' hr'
          rw [List.getElem?_set] at hr'
          split at hr'
          · split at hr'
            · injection hr' with hr'; rw [← hr', hpl, hrl]
            · cases hr'
          · exact hB.row r' row' hr'
        · intro r' row' hr' k' l hl
          rw [List.getElem?_set] at hr'
          by_cases he : r = r'
          · subst he
            simp only [if_true] at hr'
            split at hr'
            · injection hr' with hr'
              subst hr'
              have hk'l : k' < row.length := by rw [← hpl]; exact (List.getElem?_eq_some_iff.1 hl).1
              by_cases h1 : k' < k
              · refine .inr ⟨.inl (by omega), row, hrow, ?_⟩
                rw [putRow, List.append_assoc, List.getElem?_append_left (by simp; omega), List.getElem?_take] at hl
                simpa [h1] using hl
              · by_cases h2 : k' < k + cs.length
                · left
                  rw [putRow, List.append_assoc, List.getElem?_append_right (by simp; omega), List.getElem?_append_left (by simp; omega)] at hl
                  have hm : (row.take k).length = k := by simp; omega
                  rw [hm] at hl
                  obtain ⟨u, hu, hrel⟩ := hcells.get hl
                  exact ⟨u, by omega, by rw [← hu]; congr 1; omega, hrel⟩
                · refine .inr ⟨.inr (by omega), row, hrow, ?_⟩
                  rw [putRow, List.append_assoc, List.getElem?_append_right (by simp; omega), List.getElem?_append_right (by simp; omega), List.getElem?_drop] at hl
                  have hm : (row.take k).length = k := by simp; omega
                  rw [hm] at hl
                  rw [← hl]
                  congr 1
                  omega
            · cases hr'
          · simp only [he, if_false] at hr'
            refine .inr ⟨?_, row', hr', hl⟩
            have hl' : k' < L.sz := by rw [← hB.row r' row' hr']; exact (List.getElem?_eq_some_iff.1 hl).1
            rcases Nat.lt_or_ge r' r with hlt | hge
            · left
              have : (r' + 1) * L.sz ≤ r * L.sz := Nat.mul_le_mul_right _ hlt
              rw [Nat.add_mul, Nat.one_mul] at this
              omega
            · right
              have : (r + 1) * L.sz ≤ r' * L.sz := Nat.mul_le_mul_right _ (by omega)
              rw [Nat.add_mul, Nat.one_mul] at this
              omega
    · cases h
  · cases h
/-! ### New variables, rows -/
theorem newVar_run (t : Nat) (v : Value) (w : World) : (newVar t v).run P w = .ok ⟨w.heap.size, 0, none⟩ (w.alloc (.cells v.cells t)) := rfl
theorem box_sound (hτ : TabOk P τ) {t : Nat} {ti : TI} (hti : τ t = some ti) (hR : Rel P μ H w) {cs : List Lf} {cv : Value} (hc : All2 (LRel μ) cs cv.cells.toList) (hl : cs.length = ti.size) :
    ∃ μ' w', (newVar t cv).run P w = .ok ⟨w.heap.size, 0, none⟩ w' ∧ VRel μ' (.ptr H.length 0 0) (.pointer (some ⟨w.heap.size, 0, none⟩)) ∧ Stp P μ H w μ' (newBlk H ⟨t, .wr, [cs]⟩) w' := by
  have hty := hτ t ti hti
  refine ⟨_, _, newVar_run t cv w, ?_, Stp.fresh hR w (.inl rfl) cv.cells t [cs] cv.cells.toList [] (Flat.one_row hc (by rw [hl, hty.size])) (by simp) (fun _ => by rw [hty.size, ← hl, hc.len, Array.length_toList])⟩
  exact ⟨_, upd_same _ _ _, by simp⟩

/-! ### append -/
theorem rowsOf_src (hτ : TabOk P τ) (hR : Rel P μ H w) {e e' tx : Nat} {te : TI} (hte : τ e = some te) (hk : P.underlying tx = some (.slice e')) {a : Option (Nat × Nat)} {n : Nat} {ys : List (List Lf)} {xv : Value}
    (hx : LRel μ (.sl a n) xv) (hz : ∀ id r L, a = some (id, r) → μ id = some L → 0 < n → L.sz = te.size) (h : rowsOf H a n = some ys) :
    ∃ cs, Src P te.size tx xv n cs w ∧ Flat μ te.size ys cs ∧ ys.length = n := by
  rcases a with _ | ⟨id, r⟩
  · obtain ⟨rfl, rfl⟩ := hx
    simp [rowsOf] at h
    subst h
    exact ⟨[], Src.ofNil w hk 0, Flat.nil _ _, rfl⟩
  · obtain ⟨L, ad, cap, hL, rfl, hle, had, _, _⟩ := hx
    cases n with
    | zero =>
      simp [rowsOf] at h
      subst h
      exact ⟨[], ⟨.inl ⟨e', hk⟩, fun _ => rfl, by simp [Builtin.firstCells, loadCells, loadCellsFrom], by simp [Builtin.firstCells, loadCells, loadCellsFrom], by simp, by simp⟩, Flat.nil _ _, rfl⟩
    | succ n =>
      have had' := had (by omega)
      subst had'
      simp only [rowsOf] at h
      split at h
      · rename_i b hb
        split at h
        · rename_i hlen
          injection h with h
          subst h
          have hB := hR.blk id L b hL (blkAt_some hb)
          obtain ⟨cs, hf, hc⟩ := hB.flat r (n + 1) hlen
          rw [hz id r L rfl hL (by omega)] at hf
          have hl : ((b.rows.drop r).take (n + 1)).length = n + 1 := by simp; omega
          refine ⟨cs, Src.ofSlice w hk _ _ _ cs (by rw [hf.len, hl]) (fun j u hu => ?_) hf.one, hf, hl⟩
          rw [Addr.add_mid]
          exact hc j u hu
        · cases h
      · cases h
theorem bnd_wr {L : Loc} {b : Blk} (h : BlkRel P μ L b w) (r n : Nat) (hr : r + n ≤ b.rows.length) : (r + n) * L.sz ≤ L.n * L.sz := Nat.mul_le_mul_right _ (by rw [← h.rows]; exact hr)
theorem append_src (hτ : TabOk P τ) {t u ty e : Nat} {te : TI} (hnw : noW e = true) (hte : τ e = some te) (ht : P.underlying t = some (.slice e))
    (hR : Rel P μ H w) {a : Option (Nat × Nat)} {len n : Nat} {ys : List (List Lf)} {sv xv : Value} {cs : List Value} (hs : LRel μ (.sl a len) sv) (hsrc : Src P te.size u xv n cs w) (hflat : Flat μ te.size ys cs) (hylen : ys.length = n)
    {v : V} {H' : Heap} (h : appendV τ e H a len ys = some (v, H')) :
    ∃ cv μ' w', (Builtin.append_ #[t, u] ty #[sv, xv]).run P w = .ok cv w' ∧ VRel μ' v cv ∧ Stp P μ H w μ' H' w' := by
  have hty := hτ e te hte
  obtain ⟨i, z, hi, hsize, hbytes, hzero, hzc, _⟩ := hty.info
  rw [← hsize] at hsrc
  unfold appendV at h
  simp only [hte] at h
  split at h
  · rename_i hnil
    injection h with h
    injection h with h1 h2
    subst h1 h2
    have hn0 : n = 0 := by rw [← hylen, hnil]; rfl
    subst hn0
    have hcs : cs = [] := List.eq_nil_of_length_eq_zero (by rw [hsrc.newsLen]; simp)
    subst hcs
    rcases a with _ | ⟨id, r⟩
    · obtain ⟨rfl, rfl⟩ := hs
      exact ⟨_, μ, w, run_append_nothing w t u ty e i ht hi none 0 0 (Nat.le_refl _) xv hsrc, ⟨rfl, rfl⟩, Stp.refl hR⟩
    · obtain ⟨L, ad, cap, hL, rfl, hle, hrest⟩ := hs
      exact ⟨_, μ, w, run_append_nothing w t u ty e i ht hi (some ad) len cap hle xv hsrc, ⟨L, ad, cap, hL, rfl, hle, hrest⟩, Stp.refl hR⟩
  rename_i hne
  have hn1 : 0 < n := by
    rcases Nat.eq_zero_or_pos n with h0 | h0
    · exact absurd (List.eq_nil_of_length_eq_zero (by rw [hylen, h0])) hne
    · exact h0
  split at h
  rotate_left
  · cases h
  rename_i hfit
  obtain ⟨hbpos, hfit⟩ := hfit
  rw [hylen] at hfit
  have hfit' : (len + n) * i.bytes ≤ 140737488355328 := by rw [hbytes]; exact hfit
  -- a row that is new, of the old rows and the new ones
  have fresh : ∀ (base : Option Addr) (cap : Nat) (olds : List (List Lf)) (ocs : List Value), Flat μ te.size olds ocs → olds.length = len → (Builtin.firstCells i.size len (.slice base len cap)).run P w.drew = .ok ocs.toArray w.drew → cap < len + n →
      (((len + n : Nat) : Int) ≤ 9223372036854775807) →
      ∃ cv μ' w', (Builtin.append_ #[t, u] ty #[.slice base len cap, xv]).run P w = .ok cv w' ∧ VRel μ' (.sl H.length 0 (len + n)) cv ∧ Stp P μ H w μ' (newBlk H ⟨e, .wr, olds ++ ys⟩) w' := by
    intro base cap olds ocs hof hol hfc hcap h63
    have hrun := run_append_grow_src w t u ty e i z ht hi hzero base len cap ocs hfc xv n cs hsrc hcap h63 (growslice_fits hcap hfit')
    have hge := grownCap_ge w (len + n) cap e
    have hall := hof.append hflat
    refine ⟨_, _, _, hrun, ?_, Stp.fresh hR w.drew (.inr rfl) _ e (olds ++ ys) (ocs ++ cs) (Builtin.zeroCells z.cells (grownCap w (len + n) cap e - (len + n))).toList (by rw [hty.size]; exact hall) (by simp) (fun h => by rw [hnw] at h; cases h)⟩
    refine ⟨_, _, _, upd_same _ _ _, rfl, hge, (fun _ => by simp), (fun h => by cases h), fun _ => ⟨?_, fun _ => ?_⟩⟩
    · simp [hol, hylen]; omega
    · have hzs : z.cells.size = te.size := by rw [← Array.length_toList, hzc, List.length_map, hty.zlen]
      have hl : (ocs ++ cs).length = (len + n) * te.size := by rw [hall.len, List.length_append, hol, hylen]
      simp only [Nat.zero_add, Array.size_append, List.size_toArray, hl, size_zeroCells, hzs, hty.size, ← Nat.add_mul]
      apply Nat.mul_le_mul_right
      omega
  have h63 : ((len + n : Nat) : Int) ≤ 9223372036854775807 := by
    have := Nat.le_trans (Nat.le_mul_of_pos_right _ hbpos) hfit
    omega
  have nothing : ∀ (base : Option Addr) (cap : Nat), (Builtin.firstCells i.size 0 (.slice base 0 cap)).run P w.drew = .ok ([] : List Value).toArray w.drew := by
    intro base cap
    cases base <;> simp [Builtin.firstCells, loadCells, loadCellsFrom]
  rcases a with _ | ⟨id, r⟩
  · obtain ⟨rfl, rfl⟩ := hs
    simp only [if_true] at h
    injection h with h
    injection h with h1 h2
    subst h1 h2
    have := fresh none 0 [] [] (Flat.nil _ _) rfl (nothing _ _) (by omega) h63
    simpa [hylen] using this
  · obtain ⟨L, ad, cap, hL, rfl, hle, had, hzcap, hwcap⟩ := hs
    simp only at h
    split at h
    · cases h
    rename_i b hb
    have hB := hR.blk id L b hL (blkAt_some hb)
    split at h
    rotate_left
    · cases h
    rename_i helem
    have hLe : L.elem = e := by rw [← hB.elem]; exact helem
    have hLsz : L.sz = te.size := by rw [hB.sz, hLe, hty.size]
    split at h
    · cases h
    · rename_i hmd
      split at h
      · rename_i hl0
        injection h with h
        injection h with h1 h2
        subst h1 h2 hl0
        have hc0 := hzcap (by rw [← hB.md]; exact hmd)
        subst hc0
        have := fresh (some ad) 0 [] [] (Flat.nil _ _) rfl (nothing _ _) (by omega) h63
        simpa [hylen] using this
      · cases h
    · rename_i hmd
      have hw : L.md = .wr := by rw [← hB.md]; exact hmd
      obtain ⟨hncap, hccap⟩ := hwcap hw
      obtain ⟨hshape, hfrozen, hfit0⟩ := hB.own hw
      have hyrow := hflat.row
      split at h
      · rename_i hin
        injection h with h
        injection h with h1 h2
        subst h1 h2
        rw [hylen] at hin
        have hroom : len + n ≤ cap := by rw [hB.rows] at hin; omega
        have had' := had (by omega)
        subst had'
        have hcc := hccap (by omega)
        have hcl : cs.length = n * te.size := by rw [hflat.len, hylen]
        have hmul : (r + len + n) * te.size ≤ (r + cap) * te.size := Nat.mul_le_mul_right _ (by omega)
        have hmn : (r + len + n) * te.size ≤ L.n * te.size := Nat.mul_le_mul_right _ (by rw [← hB.rows]; exact hin)
        rw [hLsz] at hcc hfit0
        simp only [Nat.add_mul] at hmul hcc hmn
        have hrun := run_append_room_src w t u ty e i ht hi L.b (L.o + r * L.sz) len cap xv n cs hsrc hroom (fun j hj => cell_of_shape hshape _ (by rw [hsize, hLsz]; omega)) (fun j _ => hfrozen _)
        refine ⟨_, μ, _, hrun, ⟨L, _, cap, hL, by rw [hylen], by omega, fun _ => rfl, hzcap, hwcap⟩, ?_⟩
        rw [hsize, show L.o + r * L.sz + len * te.size = L.o + (r + len) * L.sz by rw [hLsz, Nat.add_mul]; omega]
        refine Stp.put hR hL (blkAt_some hb) hw _ _ (fun x hx => heap_setCells_ne _ _ _ _ _ hx) (size_setCells _ _ _ _) (os_setCells _ _ _ _) ?_
        have htl : (b.rows.take (r + len)).length = r + len := by simp; omega
        refine hB.over hw ((r + len) * L.sz) cs (by rw [hLsz, hcl]; simp only [Nat.add_mul]; omega) _ (by simp [hylen]; omega) ?_ ?_
        · intro r' row' hr'
          rw [List.append_assoc] at hr'
          rcases Nat.lt_or_ge r' (r + len) with h1 | h1
          · rw [List.getElem?_append_left (by omega), List.getElem?_take] at hr'
            simp only [h1, if_true] at hr'
            exact hB.row r' row' hr'
          · rw [List.getElem?_append_right (by omega)] at hr'
            rcases Nat.lt_or_ge r' (r + len + n) with h2 | h2
            · rw [List.getElem?_append_left (by omega)] at hr'
              rw [hLsz]; exact hyrow _ row' hr'
            · rw [List.getElem?_append_right (by omega), List.getElem?_drop] at hr'
              exact hB.row _ row' hr'
        · intro r' row' hr' k l hl
          rw [List.append_assoc] at hr'
          rcases Nat.lt_or_ge r' (r + len) with h1 | h1
          · rw [List.getElem?_append_left (by omega), List.getElem?_take] at hr'
            simp only [h1, if_true] at hr'
            refine .inr ⟨.inl ?_, row', hr', hl⟩
            have hk : k < L.sz := by rw [← hB.row r' row' hr']; exact (List.getElem?_eq_some_iff.1 hl).1
            have : (r' + 1) * L.sz ≤ (r + len) * L.sz := Nat.mul_le_mul_right _ h1
            rw [Nat.add_mul, Nat.one_mul] at this
            omega
          · rw [List.getElem?_append_right (by omega), htl] at hr'
            rcases Nat.lt_or_ge r' (r + len + n) with h2 | h2
            · rw [List.getElem?_append_left (by omega)] at hr'
              obtain ⟨x, hx, hrel⟩ := hflat.cell _ row' hr' k l hl
              have e1 : r' * L.sz = (r + len) * L.sz + (r' - (r + len)) * L.sz := by rw [← Nat.add_mul]; congr 1; omega
              refine .inl ⟨x, by omega, ?_, hrel⟩
              rw [← hx, hLsz]
              rw [hLsz] at e1
              congr 1
              omega
            · rw [List.getElem?_append_right (by omega), List.getElem?_drop] at hr'
              refine .inr ⟨.inr ?_, row', ?_, hl⟩
              · rw [hcl, ← hLsz, ← Nat.add_mul]
                exact Nat.le_trans (Nat.mul_le_mul_right _ h2) (Nat.le_add_right _ _)
              · rw [← hr']; congr 1; omega
      · split at h
        rotate_left
        · cases h
        rename_i hnin hrl
        rw [hylen] at hnin
        injection h with h
        injection h with h1 h2
        subst h1 h2
        obtain ⟨ocs, hof, hoc⟩ := hB.flat r len hrl
        have hol : ((b.rows.drop r).take len).length = len := by simp; omega
        rw [hLsz] at hof
        by_cases hroom : len + n ≤ cap
        · have had' := had (by omega)
          subst had'
          have hcc := hccap (by omega)
          have hcl : cs.length = n * te.size := by rw [hflat.len, hylen]
          have hmul : (r + (len + n)) * te.size ≤ (r + cap) * te.size := Nat.mul_le_mul_right _ (by omega)
          rw [hLsz] at hcc
          simp only [Nat.add_mul] at hmul hcc
          have hrun := run_append_room_src w t u ty e i ht hi L.b (L.o + r * L.sz) len cap xv n cs hsrc hroom (fun j hj => cell_of_shape hshape _ (by rw [hsize, hLsz]; omega)) (fun j _ => hfrozen _)
          have he : ∀ L', Ext μ (upd μ H.length L') := fun L' => upd_ext hR.dom L'
          refine ⟨_, upd μ H.length ⟨L.b, L.o + r * L.sz, te.size, len + n, .wr, e, L.cells⟩, _, hrun, ⟨_, _, cap, upd_same _ _ _, by rw [hylen], by omega, fun _ => by simp, (fun h => by cases h), fun _ => ⟨by simp; omega, fun _ => ?_⟩⟩, ?_⟩
          · simp only [Nat.zero_add]; rw [hLsz]; omega
          rw [hsize]
          refine Stp.regrow hR hL (blkAt_some hb) hw _ _ _ rfl rfl (fun x hx => heap_setCells_ne _ _ _ _ _ hx) (size_setCells _ _ _ _) (os_setCells _ _ _ _) ?_
          have hin := World.cell?_setCells_in L.b cs (L.o + r * L.sz + len * te.size) w (fun j hj => cell_of_shape hshape _ (by rw [hLsz]; omega))
          have hall := hof.append hflat
          refine ⟨rfl, rfl, by simp [hol, hylen], (hty.size).symm, hall.row, ?_, (fun h => by cases h), (fun _ => by rw [size_setCells]; exact hB.lt (by rw [hw]; simp)), fun _ => ⟨by rw [shape_setCells, hshape, hLe], fun o => by rw [World.frozen?_setCells]; exact hfrozen o, ?_⟩, fun _ h => by rw [hnw] at h; cases h⟩
          · intro r' row' hr' k l hl
            rcases Nat.lt_or_ge r' len with h1 | h1
            · rw [List.getElem?_append_left (by omega)] at hr'
              obtain ⟨x, hx, hrel⟩ := hof.cell r' row' hr' k l hl
              refine ⟨x, ?_, hrel.ext (he _)⟩
              have hk : k < te.size := by rw [← hof.row r' row' hr']; exact (List.getElem?_eq_some_iff.1 hl).1
              have hm : (r' + 1) * te.size ≤ len * te.size := Nat.mul_le_mul_right _ h1
              rw [Nat.add_mul, Nat.one_mul] at hm
              rw [World.cell?_setCells_out L.b cs _ w _ (fun _ _ => .inl (by simp; omega))]
              have := hoc _ x hx
              rw [← this]; congr 2; simp only []; omega
            · rw [List.getElem?_append_right (by omega), hol] at hr'
              obtain ⟨x, hx, hrel⟩ := hflat.cell _ row' hr' k l hl
              refine ⟨x, ?_, hrel.ext (he _)⟩
              have hlt := (List.getElem?_eq_some_iff.1 hx).1
              have := hin _ hlt
              have e1 : r' * te.size = len * te.size + (r' - len) * te.size := by rw [← Nat.add_mul]; congr 1; omega
              rw [show L.o + r * L.sz + r' * te.size + k = L.o + r * L.sz + len * te.size + ((r' - len) * te.size + k) by omega, this, ← hx, List.getElem?_eq_getElem hlt]
          · simp only []; rw [hLsz]; simp only [Nat.add_mul]; omega
        · have hfc : (Builtin.firstCells i.size len (.slice (some ad) len cap)).run P w.drew = .ok ocs.toArray w.drew := by
            rcases Nat.eq_zero_or_pos len with h0 | h0
            · subst h0
              have : ocs = [] := List.eq_nil_of_length_eq_zero (by rw [hof.len]; simp)
              subst this
              exact nothing _ _
            · have had' := had (by omega)
              subst had'
              exact run_firstCells_some w.drew i.size len _ len cap ocs (by rw [hof.len, hol, hsize]) (fun j x hx => by rw [Addr.add_mid]; simpa using hoc j x hx)
          have hst := Stp.kill hR id hL
          have hR2 := hst.rel
          obtain ⟨cv, μ', w', hrun, hv, hstp⟩ := fresh (some ad) cap _ ocs hof hol hfc (by omega) h63
          have hge := grownCap_ge w (len + n) cap e
          have hall := hof.append hflat
          have hrun' := run_append_grow_src w t u ty e i z ht hi hzero (some ad) len cap ocs hfc xv n cs hsrc (by omega) h63 (growslice_fits (by omega) hfit')
          refine ⟨_, _, _, hrun', ?_, hst.trans (Stp.fresh hR2 w.drew (.inr rfl) _ e _ (ocs ++ cs) (Builtin.zeroCells z.cells (grownCap w (len + n) cap e - (len + n))).toList (by rw [hty.size]; exact hall) (by simp) (fun h => by rw [hnw] at h; cases h))⟩
          rw [hylen]
          refine ⟨_, _, _, (by simp only [List.length_set]; exact upd_same _ _ _), rfl, hge, (fun _ => by simp), (fun h => by cases h), fun _ => ⟨?_, fun _ => ?_⟩⟩
          · simp [hylen]; omega
          · have hzs : z.cells.size = te.size := by rw [← Array.length_toList, hzc, List.length_map, hty.zlen]
            have hl : (ocs ++ cs).length = (len + n) * te.size := by rw [hall.len, List.length_append, hol, hylen]
            simp only [Nat.zero_add, Array.size_append, List.size_toArray, hl, size_zeroCells, hzs, hty.size, ← Nat.add_mul]
            apply Nat.mul_le_mul_right
            omega
theorem append_sound (hτ : TabOk P τ) {t u ty e e' : Nat} {te : TI} (hnw : noW e = true) (hte : τ e = some te) (ht : P.underlying t = some (.slice e)) (hk : P.underlying u = some (.slice e'))
    (hR : Rel P μ H w) {a a2 : Option (Nat × Nat)} {len n : Nat} {ys : List (List Lf)} {sv xv : Value} (hs : LRel μ (.sl a len) sv) (hx : LRel μ (.sl a2 n) xv)
    (hz : ∀ id r L, a2 = some (id, r) → μ id = some L → 0 < n → L.sz = te.size) (hys : rowsOf H a2 n = some ys) {v : V} {H' : Heap} (h : appendV τ e H a len ys = some (v, H')) :
    ∃ cv μ' w', (Builtin.append_ #[t, u] ty #[sv, xv]).run P w = .ok cv w' ∧ VRel μ' v cv ∧ Stp P μ H w μ' H' w' := by
  obtain ⟨cs, hsrc, hflat, hylen⟩ := rowsOf_src hτ hR hte hk hx hz hys
  exact append_src hτ hnw hte ht hR hs hsrc hflat hylen h
theorem byteRows_flat (s : ByteArray) : Flat μ 1 (byteRows s) (byteCells s) := by
  refine ⟨by simp [byteRows, byteCells], fun r row hr => ?_, fun r row hr k l hk => ?_⟩
  · unfold byteRows at hr
    rw [List.getElem?_map] at hr
    cases h : s.data.toList[r]? with
    | none => rw [h] at hr; cases hr
    | some b => rw [h] at hr; simp at hr; subst hr; rfl
  · unfold byteRows at hr
    rw [List.getElem?_map] at hr
    cases h : s.data.toList[r]? with
    | none => rw [h] at hr; cases hr
    | some b =>
      rw [h] at hr; simp at hr; subst hr
      cases k with
      | zero =>
        simp at hk; subst hk
        refine ⟨.int .u8 b.toNat, ?_, rfl⟩
        simp only [byteCells, List.getElem?_map, Nat.mul_one, Nat.add_zero, h]; rfl
      | succ k => simp at hk
theorem append_str_sound (hτ : TabOk P τ) {t u ty e : Nat} {te : TI} (hnw : noW e = true) (hte : τ e = some te) (h1 : te.size = 1) (ht : P.underlying t = some (.slice e)) (hk : P.underlying u = some .string)
    (hR : Rel P μ H w) {a : Option (Nat × Nat)} {len : Nat} {s : ByteArray} {sv : Value} (hs : LRel μ (.sl a len) sv) {v : V} {H' : Heap} (h : appendV τ e H a len (byteRows s) = some (v, H')) :
    ∃ cv μ' w', (Builtin.append_ #[t, u] ty #[sv, .string s]).run P w = .ok cv w' ∧ VRel μ' v cv ∧ Stp P μ H w μ' H' w' :=
  append_src hτ hnw hte ht hR hs (by rw [h1]; exact Src.ofString w hk s) (by rw [h1]; exact byteRows_flat s) (by simp only [byteRows, List.length_map, Array.length_toList]; rfl) h
end Go.Ab
