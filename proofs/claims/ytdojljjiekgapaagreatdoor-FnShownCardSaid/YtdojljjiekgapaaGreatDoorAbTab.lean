/- The table of types: a check that the kernel can make, and what it says. -/
import Derived.Test.YtdojljjiekgapaaGreatDoorAbSet
set_option linter.unusedVariables false
set_option linter.unusedSimpArgs false
set_option linter.constructorNameAsVariable false
namespace Go.Ab
variable {P : Program}
def shFs (P : Program) (g : Nat → Option (List Sh)) : List Field → Nat → Nat → Option (List Sh)
  | [], o, n => if o = n then some [] else none
  | f :: fs, o, n => if f.name ≠ "_" ∧ f.offset = o then match g f.type, shFs P g fs (o + P.cellsOf f.type) n with
      | some a, some b => if a.length = P.cellsOf f.type then some (a ++ b) else none
      | _, _ => none
    else none
/-- The shapes of a type of flags, numbers, texts and structs of such. -/
def shOf (P : Program) : Nat → Nat → Option (List Sh)
  | 0, _ => none
  | k + 1, t => match P.underlying t with
    | some .bool => some [.b]
    | some (.int q) => some [.i q]
    | some .string => some [.s]
    | some (.struct fs) => if P.stoodInHeld t = false then shFs P (shOf P k) fs.toList 0 (P.cellsOf t) else none
    | _ => none
def valOf (agg : Bool) (ls : List Lf) : Value := if agg then .agg (ls.map lfVal).toArray else match ls with
  | [l] => lfVal l
  | _ => undef
def isStr (P : Program) (t : Nat) : Bool := match P.underlying t with
  | some (.struct _) => true
  | _ => false
theorem shOf_info {k t : Nat} {sh : List Sh} (h : shOf P k t = some sh) : ∃ d, P.underlying t = some d ∧ d.isRow = isStr P t ∧ (isStr P t = false → ∃ s, sh = [s]) := by
  cases k with
  | zero => simp [shOf] at h
  | succ k =>
    unfold shOf at h
    unfold isStr
    split at h
    · rename_i hu; injection h with h; rw [hu]; exact ⟨_, rfl, rfl, fun _ => ⟨_, h.symm⟩⟩
    · rename_i q hu; injection h with h; rw [hu]; exact ⟨_, rfl, rfl, fun _ => ⟨_, h.symm⟩⟩
    · rename_i hu; injection h with h; rw [hu]; exact ⟨_, rfl, rfl, fun _ => ⟨_, h.symm⟩⟩
    · rename_i fs hu; rw [hu]; exact ⟨_, rfl, rfl, fun h => by simp at h⟩
    · cases h
theorem sh_b {l : Lf} (h : l.sh = .b) : ∃ x, l = .b x := by cases l <;> simp [Lf.sh] at h; exact ⟨_, rfl⟩
theorem sh_i {l : Lf} {q : IntKind} (h : l.sh = .i q) : ∃ x, l = .i q x := by cases l <;> simp [Lf.sh] at h; subst h; exact ⟨_, rfl⟩
theorem sh_s {l : Lf} (h : l.sh = .s) : ∃ x, l = .s x := by cases l <;> simp [Lf.sh] at h; exact ⟨_, rfl⟩
theorem map_one {ls : List Lf} {s : Sh} (h : ls.map Lf.sh = [s]) : ∃ l, ls = [l] ∧ l.sh = s := by
  match ls, h with
  | [l], h => simp at h; exact ⟨l, rfl, h⟩
def EqIn (P : Program) (d t : Nat) (sh : List Sh) : Prop := ∀ (w : World) (xs ys : List Lf), xs.map Lf.sh = sh → ys.map Lf.sh = sh →
  (Op.equalIn d t (valOf (isStr P t) xs) (valOf (isStr P t) ys)).run P w = .ok (decide (xs = ys)) w
theorem run_partV {t k : Nat} {sh : List Sh} (h : shOf P k t = some sh) (hl : sh.length = P.cellsOf t) (w : World) (ls : List Lf) (o : Nat) (hls : ((ls.drop o).take (P.cellsOf t)).map Lf.sh = sh) :
    (part t (ls.map lfVal).toArray o).run P w = .ok (valOf (isStr P t) ((ls.drop o).take (P.cellsOf t))) w := by
  obtain ⟨d, hu, hr, hone⟩ := shOf_info h
  obtain ⟨i, hi⟩ := info_of_underlying hu
  unfold part
  simp only [Sem.run_bind, run_isAgg' hu, Result.andThen_ok, hr]
  cases hs : isStr P t with
  | true =>
    simp only [if_true, Sem.run_bind, run_sizeOf w hi, Result.andThen_ok, Sem.run_pure, valOf]
    congr 2
    apply Array.toList_inj.1
    simp [List.map_drop, List.map_take, Array.toList_extract, List.extract_eq_take_drop]
  | false =>
    obtain ⟨s, rfl⟩ := hone hs
    obtain ⟨l, hl', hsh⟩ := map_one hls
    rw [hl']
    have h0 : ls[o]? = some l := by
      have : ((ls.drop o).take (P.cellsOf t))[0]? = some l := by rw [hl']; rfl
      rw [List.getElem?_take] at this
      split at this
      · simpa [List.getElem?_drop] using this
      · cases this
    simp only [Bool.false_eq_true, if_false, valOf]
    have h1 : ((ls.map lfVal).toArray)[o]? = some (lfVal l) := by simp [h0]
    rw [h1]
    rfl
theorem run_fields (d k : Nat) (n : Nat) (xs ys : List Lf) (ih : ∀ t sh, shOf P k t = some sh → EqIn P d t sh) : ∀ (fs : List Field) (o : Nat) (sh : List Sh) (w : World), shFs P (shOf P k) fs o n = some sh →
    (xs.drop o).map Lf.sh = sh → (ys.drop o).map Lf.sh = sh → (Op.eqFields d (xs.map lfVal).toArray (ys.map lfVal).toArray fs).run P w = .ok (decide (xs.drop o = ys.drop o)) w
  | [], o, sh, w, h, hx, hy => by
    simp only [shFs] at h
    split at h
    · injection h with h
      subst h
      have h1 : xs.drop o = [] := by simpa using hx
      have h2 : ys.drop o = [] := by simpa using hy
      simp [Op.eqFields, h1, h2]
    · cases h
  | f :: fs, o, sh, w, h, hx, hy => by
    simp only [shFs] at h
    split at h
    · rename_i hf
      split at h
      · rename_i a b ha hb
        split at h
        · rename_i hal
          injection h with h
          subst h
          have cut : ∀ ls : List Lf, (ls.drop o).map Lf.sh = a ++ b → ((ls.drop o).take (P.cellsOf f.type)).map Lf.sh = a ∧ (ls.drop (o + P.cellsOf f.type)).map Lf.sh = b := by
            intro ls hls
            constructor
            · rw [List.map_take, hls, ← hal]; simp
            · rw [← List.drop_drop, List.map_drop, hls, ← hal]; simp
          obtain ⟨x1, x2⟩ := cut xs hx
          obtain ⟨y1, y2⟩ := cut ys hy
          simp only [Op.eqFields, hf.1, ne_eq, not_false_eq_true, if_true, Sem.run_bind, hf.2]
          rw [run_partV ha hal w xs o x1]
          simp only [Result.andThen_ok]
          rw [run_partV ha hal w ys o y1]
          simp only [Result.andThen_ok]
          rw [ih f.type a ha w _ _ x1 y1]
          simp only [Result.andThen_ok]
          have e : decide (xs.drop o = ys.drop o) = (decide ((xs.drop o).take (P.cellsOf f.type) = (ys.drop o).take (P.cellsOf f.type)) && decide (xs.drop (o + P.cellsOf f.type) = ys.drop (o + P.cellsOf f.type))) := by
            rw [← Bool.decide_and]
            refine decide_eq_decide.2 ⟨fun he => ?_, fun ⟨h1, h2⟩ => ?_⟩
            · rw [← List.drop_drop, ← List.drop_drop, he]; exact ⟨rfl, rfl⟩
            · rw [← List.take_append_drop (P.cellsOf f.type) (xs.drop o), ← List.take_append_drop (P.cellsOf f.type) (ys.drop o), h1, List.drop_drop, List.drop_drop, h2]
          rw [e]
          by_cases h1 : (xs.drop o).take (P.cellsOf f.type) = (ys.drop o).take (P.cellsOf f.type)
          · simp only [h1, decide_true, Bool.not_true, Bool.false_eq_true, if_false, Bool.true_and]
            exact run_fields d k n xs ys ih fs _ b w hb x2 y2
          · simp only [h1, decide_false, Bool.not_false, if_true, Bool.false_and]
            rfl
        · cases h
      · cases h
    · cases h
theorem eqIn_of : ∀ (k t : Nat) (sh : List Sh) (d : Nat), shOf P k t = some sh → k ≤ d → EqIn P d t sh
  | 0, t, sh, d, h, _ => by simp [shOf] at h
  | k + 1, t, sh, d, h, hd => by
    obtain ⟨d, rfl⟩ : ∃ d', d = d' + 1 := ⟨d - 1, by omega⟩
    intro w xs ys hx hy
    unfold shOf at h
    unfold isStr
    split at h
    · rename_i hu
      injection h with h
      subst h
      obtain ⟨l, rfl, hl⟩ := map_one hx
      obtain ⟨m, rfl, hm⟩ := map_one hy
      obtain ⟨a, rfl⟩ := sh_b hl
      obtain ⟨b, rfl⟩ := sh_b hm
      simp only [hu, valOf, Bool.false_eq_true, if_false, lfVal]
      rw [run_equalIn_bool' w d t a b hu]
      cases a <;> cases b <;> simp
    · rename_i q hu
      injection h with h
      subst h
      obtain ⟨l, rfl, hl⟩ := map_one hx
      obtain ⟨m, rfl, hm⟩ := map_one hy
      obtain ⟨a, rfl⟩ := sh_i hl
      obtain ⟨b, rfl⟩ := sh_i hm
      simp only [hu, valOf, Bool.false_eq_true, if_false, lfVal]
      rw [run_equalIn_int w d t q q a b hu]
      congr 1
      simp
      by_cases he : a = b <;> simp [he]
    · rename_i hu
      injection h with h
      subst h
      obtain ⟨l, rfl, hl⟩ := map_one hx
      obtain ⟨m, rfl, hm⟩ := map_one hy
      obtain ⟨a, rfl⟩ := sh_s hl
      obtain ⟨b, rfl⟩ := sh_s hm
      simp only [hu, valOf, Bool.false_eq_true, if_false, lfVal]
      rw [run_equalIn_string w d t a b hu]
      congr 1
      by_cases he : a = b
      · subst he; simp
      · have : ¬ a.toList = b.toList := fun h => he (by
          rw [ByteArray.toList_eq, ByteArray.toList_eq] at h
          cases a; cases b
          simp only [ByteArray.mk.injEq]
          exact Array.toList_inj.1 h)
        have h1 : (a.toList == b.toList) = false := by simpa using this
        rw [h1]
        simp [he]
    · rename_i fs hu
      split at h
      · rename_i hst
        simp only [hu, valOf, if_true]
        rw [run_equalIn_struct w d t _ _ (by simp [Program.fieldsOf, hu]) hst]
        have := run_fields d k (P.cellsOf t) xs ys (fun t' sh' h' => eqIn_of k t' sh' d h' (by omega)) fs.toList 0 sh w h (by simpa using hx) (by simpa using hy)
        simpa [Program.fieldsOf, hu] using this
      · cases h
    · cases h
def kindB (P : Program) (t : Nat) : TK → Bool
  | .int k => match P.underlying t with | some (.int k') => decide (k = k') | _ => false
  | .bool => match P.underlying t with | some .bool => true | _ => false
  | .str => match P.underlying t with | some .string => true | _ => false
  | .slice e => match P.underlying t with | some (.slice e') => e == e' | _ => false
  | .array n e => match P.underlying t with | some (.array n' e') => n == n' && e == e' | _ => false
  | .struct offs => match P.underlying t with | some (.struct fs) => (fs.toList.map fun f => (f.offset, P.cellsOf f.type)) == offs && fs.toList.all fun f => (P.info? f.type).isSome | _ => false
  | .other => match P.underlying t with | some d => !d.isRow | _ => false
def isAggV : Value → Bool
  | .agg _ => true
  | _ => false
def tyOkB (P : Program) (t : Nat) (ti : TI) : Bool :=
  (match P.info? t with
    | some i => i.size == ti.size && i.bytes == ti.bytes && (match i.zero with
      | some z => decide (lfsOf z.cells.toList = some ti.zero) && (!ti.agg || isAggV z)
      | none => false)
    | none => false) && ti.zero.length == ti.size && kindB P t ti.kind &&
    (!ti.eq || (!(P.eqGuardType P.depth t) && isStr P t && (match shOf P 20 t with
      | some sh => decide (ti.zero.map Lf.sh = sh) && sh.all (fun s => decide (s ≠ .o))
      | none => false))) && (match ti.kind with | .slice e => noW e | _ => true)
theorem lfOf_val {v : Value} {l : Lf} (h : lfOf v = some l) : v = lfVal l := by
  unfold lfOf at h
  split at h <;> first
    | (injection h with h; subst h; rfl)
    | cases h
theorem lfsOf_val : ∀ {vs : List Value} {ls : List Lf}, lfsOf vs = some ls → vs = ls.map lfVal ∧ ∀ l ∈ ls, lfOf (lfVal l) = some l
  | [], ls, h => by simp [lfsOf] at h; subst h; simp
  | v :: vs, ls, h => by
    unfold lfsOf at h
    split at h
    · rename_i l ls' hl hls
      injection h with h; subst h
      obtain ⟨h1, h2⟩ := lfsOf_val hls
      have hv := lfOf_val hl
      refine ⟨by rw [h1, hv]; rfl, fun m hm => ?_⟩
      rcases List.mem_cons.1 hm with rfl | hm
      · rw [← hv]; exact hl
      · exact h2 m hm
    · cases h
theorem kindB_ok {t : Nat} {k : TK} (h : kindB P t k = true) : KindOk P t k := by
  unfold kindB at h
  unfold KindOk
  cases k with
  | int q =>
    simp only at h ⊢
    split at h
    · rename_i q' hu; rw [hu]; simp at h; rw [h]
    · cases h
  | bool =>
    simp only at h ⊢
    split at h
    · assumption
    · cases h
  | str =>
    simp only at h ⊢
    split at h
    · assumption
    · cases h
  | slice e =>
    simp only at h ⊢
    split at h
    · rename_i q' hu; rw [hu]; simp at h; rw [h]
    · cases h
  | array n e =>
    simp only at h ⊢
    split at h
    · rename_i n' e' hu; rw [hu]; simp at h; rw [h.1, h.2]
    · cases h
  | struct offs =>
    simp only at h ⊢
    split at h
    · rename_i fs hu
      simp only [Bool.and_eq_true, beq_iff_eq, List.all_eq_true] at h
      exact ⟨fs, hu, h.1, fun f hf => Option.isSome_iff_exists.1 (h.2 f hf)⟩
    · cases h
  | other =>
    simp only at h ⊢
    split at h
    · rename_i d hu; exact ⟨d, hu, by simpa using h⟩
    · cases h
theorem tyOk_of {t : Nat} {ti : TI} (h : tyOkB P t ti = true) : TyOk P t ti := by
  unfold tyOkB at h
  simp only [Bool.and_eq_true] at h
  obtain ⟨⟨⟨⟨h1, h2⟩, h3⟩, h4⟩, h5⟩ := h
  split at h1
  · rename_i i hi
    simp only [Bool.and_eq_true, beq_iff_eq] at h1
    obtain ⟨⟨hs, hb⟩, hz⟩ := h1
    split at hz
    · rename_i z hz0
      simp only [Bool.and_eq_true, decide_eq_true_eq, Bool.or_eq_true, Bool.not_eq_true'] at hz
      obtain ⟨hv, hm⟩ := lfsOf_val hz.1
      refine ⟨⟨i, z, hi, hs, hb, hz0, hv, fun ha => ?_⟩, by simpa using h2, hm, kindB_ok h3, fun he => ?_, fun e he => by rw [he] at h5; exact h5⟩
      · rcases hz.2 with h | h
        · rw [ha] at h; cases h
        · cases z <;> simp [isAggV] at h
          exact ⟨_, rfl⟩
      · simp only [he, Bool.not_true, Bool.false_or, Bool.and_eq_true, Bool.not_eq_true'] at h4
        obtain ⟨⟨hg, hst⟩, hsh⟩ := h4
        split at hsh
        · rename_i sh hs'
          simp only [Bool.and_eq_true, decide_eq_true_eq, List.all_eq_true] at hsh
          refine ⟨fun l hl => ?_, hg, fun w xs ys hx hy => ?_⟩
          · refine hsh.2 _ ?_
            rw [← hsh.1]
            exact List.mem_map_of_mem hl
          · rw [hsh.1] at hx hy
            have := eqIn_of 20 t sh 10000 hs' (by omega) w xs ys hx hy
            rw [hst] at this
            exact this
        · cases hsh
    · cases hz
  · cases h1
/-- A table as a list. -/
def tabOf (rows : List (Nat × TI)) : Tab := fun t => (rows.find? fun r => r.1 == t).map (·.2)
theorem tabOk_of {rows : List (Nat × TI)} (h : rows.all (fun r => tyOkB P r.1 r.2) = true) : TabOk P (tabOf rows) := by
  intro t ti ht
  unfold tabOf at ht
  simp only [Option.map_eq_some_iff] at ht
  obtain ⟨r, hr, rfl⟩ := ht
  have h1 := List.find?_some hr
  have h2 := List.mem_of_find?_eq_some hr
  simp only [beq_iff_eq] at h1
  rw [← h1]
  exact tyOk_of (List.all_eq_true.1 h r h2)
end Go.Ab
