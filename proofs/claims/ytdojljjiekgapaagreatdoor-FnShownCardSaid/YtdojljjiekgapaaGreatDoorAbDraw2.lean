/- Which regions may be run in the text's order: a check by program; the run, operation by operation. -/
import Derived.Test.YtdojljjiekgapaaGreatDoorAbDraw
set_option linter.unusedVariables false
set_option linter.unusedSimpArgs false
namespace Go.Ab

def direct (o : Oper) : List Nat := o.after.toList.filterMap fun e => if Region.binds .any e = true then some e.on else none
def maskOf (acc : List Nat) (o : Oper) : Nat := (direct o).foldl (fun s i => s ||| 2 ^ i ||| acc.getD i 0) 0
def masks : List Oper → List Nat → List Nat
  | [], acc => acc
  | o :: r, acc => masks r (acc ++ [maskOf acc o])
theorem fold_bit (g : Nat → Nat) : ∀ (l : List Nat) (s x : Nat), (l.foldl (fun s i => s ||| 2 ^ i ||| g i) s).testBit x = true → s.testBit x = true ∨ ∃ i ∈ l, x = i ∨ (g i).testBit x = true
  | [], s, x, h => .inl h
  | i :: l, s, x, h => by
    rw [List.foldl_cons] at h
    rcases fold_bit g l _ x h with h1 | ⟨k, hk, h1⟩
    · rw [Nat.testBit_or, Nat.testBit_or, Bool.or_eq_true, Bool.or_eq_true] at h1
      rcases h1 with (h1 | h1) | h1
      · exact .inl h1
      · rw [Nat.testBit_two_pow] at h1
        exact .inr ⟨i, by simp, .inl (by have h2 : i = x := by simpa using h1
                                         exact h2.symm)⟩
      · exact .inr ⟨i, by simp, .inr h1⟩
    · exact .inr ⟨k, by simp [hk], h1⟩
theorem masks_old : ∀ (l : List Oper) (acc : List Nat) (i : Nat), i < acc.length → (masks l acc)[i]? = acc[i]?
  | [], _, _, _ => rfl
  | o :: r, acc, i, h => by rw [masks, masks_old r _ i (by simp; omega), List.getElem?_append_left h]
theorem masks_at : ∀ (l : List Oper) (acc : List Nat) (j : Nat) (o : Oper), l[j]? = some o → ∃ acc', acc'.length = acc.length + j ∧ (∀ i, i < acc'.length → (masks l acc)[i]? = acc'[i]?) ∧ (masks l acc)[acc.length + j]? = some (maskOf acc' o)
  | [], _, _, _, h => by simp at h
  | o :: r, acc, 0, o', h => by
    simp at h; subst h
    refine ⟨acc, by simp, fun i hi => masks_old _ _ i hi, ?_⟩
    rw [masks, masks_old r _ _ (by simp)]
    simp
  | o :: r, acc, j + 1, o', h => by
    obtain ⟨acc', hl, h1, h2⟩ := masks_at r (acc ++ [maskOf acc o]) j o' (by simpa using h)
    refine ⟨acc', by rw [hl]; simp; omega, h1, ?_⟩
    rw [masks, ← h2]
    congr 1
    simp; omega
def anc (ops : Array Oper) (j i : Nat) : Prop := ((masks ops.toList []).getD j 0).testBit i = true
theorem anc_step {ops : Array Oper} {j i : Nat} {o : Oper} (ho : ops[j]? = some o) (hb : ∀ k ∈ direct o, k < j) (h : anc ops j i) : ∃ k ∈ direct o, i = k ∨ anc ops k i := by
  obtain ⟨acc', hl, h1, h2⟩ := masks_at ops.toList [] j o (by rw [Array.getElem?_toList]; exact ho)
  simp at hl h2
  unfold anc at h
  rw [List.getD_eq_getElem?_getD, h2] at h
  rcases fold_bit (fun i => acc'.getD i 0) (direct o) 0 i h with h0 | ⟨k, hk, h3⟩
  · simp at h0
  · refine ⟨k, hk, h3.imp id fun h4 => ?_⟩
    unfold anc
    have := h1 k (by rw [hl]; exact hb k hk)
    rw [List.getD_eq_getElem?_getD, this, ← List.getD_eq_getElem?_getD]
    exact h4
def ordB (M : List Nat) (i j : Nat) : Bool := if i < j then (M.getD j 0).testBit i else (M.getD i 0).testBit j
def rdO (o : Oper) : Bool := match o.op with
  | .load .. | .indexAddr .. | .slice _ _ _ _ none => true
  | _ => false
/-- Of the block that it reads it asks the elements' type alone. -/
def slO (o : Oper) : Bool := match o.op with
  | .slice _ _ _ _ none => true
  | _ => false
/-- What it writes was there before, of that type. -/
def softW (o : Oper) : Bool := match o.op with
  | .store .. => true
  | .call ⟨.builtin .append, _, _⟩ => true
  | _ => false
/-- It writes into a block that came up behind j. -/
def freshW (ops : Array Oper) (i j : Nat) (o : Oper) : Bool := match o.op with
  | .store _ (.tmp x) _ => (List.range i).any fun a => decide (j < a) && (match ops[a]? with
    | some oa => (match oa.op with | .alloc _ => oa.dst == some x | _ => false)
    | none => false)
  | _ => false
/-- The elements' type of what an operation reads or writes, as far as it can be told. -/
def tagX (τ : Tab) (acc : List (Nat × Nat)) : Op → Option Nat
  | .load t a => some (tagA acc t a)
  | .store t a _ => some (tagA acc t a)
  | .indexAddr t _ _ => elmT τ t
  | .slice t _ _ _ _ => elmT τ t
  | .call ⟨.builtin .append, _, ts⟩ => match ts.toList with
    | t :: _ => elmT τ t
    | [] => none
  | _ => none
def tagE (E : Env) (ops : Array Oper) (o : Oper) : Option Nat := match o.op with
  | .call ⟨.value (.func g), _, _⟩ => E.wt g
  | op => tagX E.τ (tagsL E.τ ops.toList []) op
theorem tagE_rd {E : Env} {ops : Array Oper} {o : Oper} (h : rdO o = true) : tagE E ops o = tagX E.τ (tagsL E.τ ops.toList []) o.op := by
  unfold tagE
  unfold rdO at h
  split
  · rename_i ho; rw [ho] at h; cases h
  · rfl
def apart (a b : Option Nat) : Bool := match a, b with
  | some x, some y => x != y
  | _, _ => false
theorem apart_iff {a b : Option Nat} (h : apart a b = true) : ∃ x y, a = some x ∧ b = some y ∧ x ≠ y := by
  unfold apart at h
  split at h
  · rename_i x y; exact ⟨x, y, rfl, rfl, by simpa using h⟩
  · cases h
/-- A store and a load through pointers that do not lead to one block. -/
def difW (E : Env) (ops : Array Oper) (oi oj : Oper) : Bool := match oi.op, oj.op with
  | .store _ (.tmp y) _, .load t (.tmp x) => E.dif.contains (t, y, x) && ops.toList.all fun o => o.dst != some y
  | _, _ => false
def pairB (E : Env) (ops : Array Oper) (M : List Nat) (i j : Nat) (oi oj : Oper) : Bool :=
  i == j || ((match oi.dst with
    | none => true
    | some d => oj.dst != some d && (!(Oper.looksAt ops oj).contains d || ordB M i j)) && (!(wrtO E oi && tchO oj) || ordB M i j || (rdO oj && (apart (tagE E ops oi) (tagE E ops oj) || (slO oj && decide (i < j) && softW oi) || freshW ops i j oi || difW E ops oi oj))))
def drawB (E : Env) (ops : Array Oper) : Bool :=
  let M := masks ops.toList []
  (List.range ops.size).all fun j => match ops[j]? with
    | none => true
    | some oj => (direct oj).all (· < j) && (match oj.dst with | none => true | some d => !(Oper.looksAt ops oj).contains d) && (List.range ops.size).all fun i => match ops[i]? with
      | none => true
      | some oi => pairB E ops M i j oi oj
/-- What the check says. -/
structure DS (E : Env) (ops : Array Oper) : Prop where
  back : ∀ (j : Nat) (oj : Oper), ops[j]? = some oj → ∀ i ∈ direct oj, i < j
  self : ∀ (j : Nat) (oj : Oper) (d : Nat), ops[j]? = some oj → oj.dst = some d → d ∉ Oper.looksAt ops oj
  dst : ∀ (i j : Nat) (oi oj : Oper) (d : Nat), i ≠ j → ops[i]? = some oi → ops[j]? = some oj → oi.dst = some d → oj.dst ≠ some d
  look : ∀ (i j : Nat) (oi oj : Oper) (d : Nat), i ≠ j → ops[i]? = some oi → ops[j]? = some oj → oi.dst = some d → d ∈ Oper.looksAt ops oj → (i < j → anc ops j i) ∧ (j < i → anc ops i j)
  wt : ∀ (i j : Nat) (oi oj : Oper), i ≠ j → ops[i]? = some oi → ops[j]? = some oj → wrtO E oi = true → tchO oj = true → ((i < j → anc ops j i) ∧ (j < i → anc ops i j)) ∨ (rdO oj = true ∧ ((∃ x y, tagE E ops oi = some x ∧ tagE E ops oj = some y ∧ x ≠ y) ∨ (slO oj = true ∧ i < j ∧ softW oi = true) ∨ freshW ops i j oi = true ∨ difW E ops oi oj = true))
theorem ordB_spec {ops : Array Oper} {i j : Nat} (h : ordB (masks ops.toList []) i j = true) : (i < j → anc ops j i) ∧ (j < i → anc ops i j) := by
  unfold ordB at h
  refine ⟨fun hl => ?_, fun hl => ?_⟩
  · rw [if_pos hl] at h; exact h
  · rw [if_neg (by omega)] at h; exact h
theorem DS.of_check {E : Env} {ops : Array Oper} (h : drawB E ops = true) : DS E ops := by
  have hlt : ∀ (j : Nat) (oj : Oper), ops[j]? = some oj → j < ops.size := fun j oj hj => (Array.getElem?_eq_some_iff.1 hj).1
  have key : ∀ (j : Nat) (oj : Oper), ops[j]? = some oj → ((direct oj).all (· < j) = true ∧ (match oj.dst with | none => true | some d => !(Oper.looksAt ops oj).contains d) = true) ∧ ∀ (i : Nat) (oi : Oper), ops[i]? = some oi → pairB E ops (masks ops.toList []) i j oi oj = true := by
    intro j oj hj
    unfold drawB at h
    have h1 := List.all_eq_true.1 h j (by simpa using hlt j oj hj)
    rw [hj] at h1
    simp only [Bool.and_eq_true] at h1
    refine ⟨h1.1, fun i oi hi => ?_⟩
    have h2 := List.all_eq_true.1 h1.2 i (by simpa using hlt i oi hi)
    rw [hi] at h2
    exact h2
  refine ⟨?_, ?_, ?_, ?_, ?_⟩
  · intro j oj hj i hi
    have := List.all_eq_true.1 (key j oj hj).1.1 i hi
    simpa using this
  · intro j oj d hj hd
    have := (key j oj hj).1.2
    rw [hd] at this
    simpa using this
  · intro i j oi oj d hne hi hj hd
    have := (key j oj hj).2 i oi hi
    unfold pairB at this
    simp only [Bool.or_eq_true, Bool.and_eq_true, beq_iff_eq, hne, false_or, hd] at this
    have := this.1.1
    simpa using this
  · intro i j oi oj d hne hi hj hd hlook
    have := (key j oj hj).2 i oi hi
    unfold pairB at this
    simp only [Bool.or_eq_true, Bool.and_eq_true, beq_iff_eq, hne, false_or, hd] at this
    rcases this.1.2 with h1 | h1
    · simp [hlook] at h1
    · exact ordB_spec h1
  · intro i j oi oj hne hi hj hw ht
    have := (key j oj hj).2 i oi hi
    unfold pairB at this
    simp only [Bool.or_eq_true, Bool.and_eq_true, beq_iff_eq, hne, false_or] at this
    rcases this.2 with (h1 | h1) | h1
    · simp [hw, ht] at h1
    · exact .inl (ordB_spec h1)
    · refine .inr ⟨h1.1, ?_⟩
      rcases h1.2 with ((h2 | h2) | h2) | h2
      · exact .inl (apart_iff h2)
      · exact .inr (.inl ⟨h2.1.1, by simpa using h2.1.2, h2.2⟩)
      · exact .inr (.inr (.inl h2))
      · exact .inr (.inr (.inr h2))

/-- The run, operation by operation. -/
structure Trc (E : Env) (call : Fun) (ops : Array Oper) (tr : Nat → St) : Prop where
  step : ∀ (j : Nat) (o : Oper), ops[j]? = some o → stepV E call true ops (tr j) o = some (tr (j + 1))
theorem trace {E : Env} {call : Fun} {ops : Array Oper} : ∀ (l : List Oper) (s s' : St), opsV E call true ops l s = some s' → ∃ tr : Nat → St, tr 0 = s ∧ tr l.length = s' ∧ ∀ (j : Nat) (o : Oper), l[j]? = some o → stepV E call true ops (tr j) o = some (tr (j + 1))
  | [], s, s', h => by
    simp [opsV] at h; subst h
    exact ⟨fun _ => s, rfl, rfl, by simp⟩
  | o :: l, s, s', h => by
    unfold opsV at h
    split at h
    · rename_i s1 hs1
      obtain ⟨tr, h0, h1, h2⟩ := trace l s1 s' h
      refine ⟨fun j => match j with | 0 => s | j + 1 => tr j, rfl, by simpa using h1, fun j o' hj => ?_⟩
      cases j with
      | zero => simp at hj; subst hj; simp only [h0]; exact hs1
      | succ j => simp at hj; exact h2 j o' hj
    · cases h
section
variable {E : Env} {call : Fun} {ops : Array Oper} {tr : Nat → St}
/-- One step of the run. -/
theorem Trc.one (h : Trc E call ops tr) {j : Nat} {o : Oper} (ho : ops[j]? = some o) :
    (wantV ops (tr j).tmps o = some false ∧ (tr (j + 1)).tmps = putT (tr j).tmps o.dst (.tup []) ∧ (tr (j + 1)).heap = (tr j).heap) ∨
    (wantV ops (tr j).tmps o = some true ∧ chkO E ops (tr j).tmps (tr j).heap o = true ∧ ∃ v, opV E call true (tr j).tmps (tr j).heap o = some (v, (tr (j + 1)).heap) ∧ (tr (j + 1)).tmps = putT (tr j).tmps o.dst v) := by
  have hs := h.step j o ho
  unfold stepV at hs
  split at hs
  · cases hs
  rename_i q hq
  cases q with
  | false =>
    simp only [Bool.false_eq_true, if_false] at hs
    injection hs with hs
    exact .inl ⟨hq, by rw [← hs], by rw [← hs]⟩
  | true =>
    simp only [if_true, true_and] at hs
    split at hs
    · cases hs
    rename_i hck
    split at hs
    · rename_i v H hop
      injection hs with hs
      exact .inr ⟨hq, by simpa using hck, v, by rw [← hs]; exact hop, by rw [← hs]⟩
    · cases hs
theorem Trc.len1 (h : Trc E call ops tr) {j : Nat} (hj : j < ops.size) : (tr j).heap.length ≤ (tr (j + 1)).heap.length := by
  rcases h.one (Array.getElem?_eq_getElem hj) with ⟨_, _, hh⟩ | ⟨_, _, v, hv, _⟩
  · rw [hh]; exact Nat.le_refl _
  · exact opV_len hv
theorem Trc.len (h : Trc E call ops tr) {a b : Nat} (hab : a ≤ b) (hb : b ≤ ops.size) : (tr a).heap.length ≤ (tr b).heap.length := by
  induction hab with
  | refl => exact Nat.le_refl _
  | step _ ih => exact Nat.le_trans (ih (by omega)) (h.len1 (by omega))
theorem Trc.nw1 (h : Trc E call ops tr) {j : Nat} {o : Oper} (ho : ops[j]? = some o) (hw : wrtO E o = false) : ∃ D, (tr (j + 1)).heap = (tr j).heap ++ D := by
  rcases h.one ho with ⟨_, _, hh⟩ | ⟨_, _, v, hv, _⟩
  · exact ⟨[], by simp [hh]⟩
  · exact opV_nonwr hw hv
def NW (E : Env) (ops : Array Oper) (a b : Nat) : Prop := ∀ (i : Nat) (o : Oper), a ≤ i → i < b → ops[i]? = some o → wrtO E o = false
theorem Trc.nw (h : Trc E call ops tr) {a b : Nat} (hab : a ≤ b) (hb : b ≤ ops.size) (hn : NW E ops a b) {id : Nat} (hid : id < (tr a).heap.length) : (tr b).heap[id]? = (tr a).heap[id]? := by
  induction hab with
  | refl => rfl
  | @step m ham ih =>
    have hm : m < ops.size := by omega
    have ho := Array.getElem?_eq_getElem hm
    obtain ⟨D, hD⟩ := h.nw1 ho (hn m _ ham (by omega) ho)
    rw [hD, List.getElem?_append_left (Nat.lt_of_lt_of_le hid (h.len ham (by omega)))]
    exact ih (by omega) fun i o h1 h2 => hn i o h1 (by omega)
theorem putT_length (tm : List V) (d : Option Tmp) (v : V) : (putT tm d v).length = tm.length := by cases d <;> simp [putT]
theorem Trc.tlen (h : Trc E call ops tr) {j : Nat} (hj : j ≤ ops.size) : (tr j).tmps.length = (tr 0).tmps.length := by
  induction j with
  | zero => rfl
  | succ j ih =>
    have := ih (by omega)
    rcases h.one (Array.getElem?_eq_getElem (show j < ops.size by omega)) with ⟨_, ht, _⟩ | ⟨_, _, v, _, ht⟩
    · rw [ht, putT_length, this]
    · rw [ht, putT_length, this]
theorem putT_ne (tm : List V) (d : Option Tmp) (v : V) (t : Nat) (h : d ≠ some t) : (putT tm d v).getD t .bad = tm.getD t .bad := by
  cases d with
  | none => rfl
  | some d => simp only [putT, List.getD_eq_getElem?_getD]; rw [List.getElem?_set_ne (fun hh => h (by rw [hh]))]
theorem Trc.t1 (h : Trc E call ops tr) {j : Nat} {o : Oper} (ho : ops[j]? = some o) (t : Nat) (hd : o.dst ≠ some t) : (tr (j + 1)).tmps.getD t .bad = (tr j).tmps.getD t .bad := by
  rcases h.one ho with ⟨_, ht, _⟩ | ⟨_, _, v, _, ht⟩
  · rw [ht]; exact putT_ne _ _ _ _ hd
  · rw [ht]; exact putT_ne _ _ _ _ hd
theorem Trc.tsame (h : Trc E call ops tr) {a b : Nat} (hab : a ≤ b) (hb : b ≤ ops.size) (t : Nat) (hn : ∀ (i : Nat) (o : Oper), a ≤ i → i < b → ops[i]? = some o → o.dst ≠ some t) : (tr b).tmps.getD t .bad = (tr a).tmps.getD t .bad := by
  induction hab with
  | refl => rfl
  | @step m ham ih =>
    have ho := Array.getElem?_eq_getElem (show m < ops.size by omega)
    rw [h.t1 ho t (hn m _ ham (by omega) ho)]
    exact ih (by omega) fun i o h1 h2 => hn i o h1 (by omega)
/-- One that writes leaves what is of another type as it was. -/
theorem store_other {ti : TI} {H H' : Heap} {id r k : Nat} {v : V} (h : storeV ti H id r k v = some H') {g : Nat} (hg : ∀ b, blkAt H id = some b → b.elem = g) {i : Nat} {b : Blk} (hb : H[i]? = some (some b) ∨ H'[i]? = some (some b)) (hne : b.elem ≠ g) : H'[i]? = H[i]? := by
  unfold storeV at h
  split at h
  · rename_i b0 cs hb0 hcs
    split at h
    · cases h
    · rename_i row hrow
      split at h
      · injection h with h
        subst h
        by_cases hi : id = i
        · subst hi
          exfalso
          have h0 := hg b0 hb0
          have h1 := blkAt_some hb0
          rcases hb with hb | hb
          · rw [h1] at hb; injection hb with hb; injection hb with hb; subst hb; exact hne h0
          · rw [List.getElem?_set, if_pos rfl, if_pos (List.getElem?_eq_some_iff.1 h1).1] at hb
            injection hb with hb; injection hb with hb; subst hb; exact hne h0
        · rw [List.getElem?_set_ne hi]
      · cases h
  · cases h
theorem append_other {τ : Tab} {e : Nat} {H H' : Heap} {a : Option (Nat × Nat)} {len : Nat} {ys : List (List Lf)} {v : V} (h : appendV τ e H a len ys = some (v, H')) {i : Nat} (hi : i < H.length) {b : Blk} (hb : H[i]? = some (some b) ∨ H'[i]? = some (some b)) (hne : b.elem ≠ e) : H'[i]? = H[i]? := by
  unfold appendV at h
  split at h
  · cases h
  split at h
  · simp only [Option.some.injEq, Prod.mk.injEq] at h; rw [← h.2]
  split at h
  rotate_left
  · cases h
  split at h
  · split at h
    · simp only [Option.some.injEq, Prod.mk.injEq] at h
      rw [← h.2]
      exact List.getElem?_append_left hi
    · cases h
  · rename_i id r
    split at h
    · cases h
    rename_i b0 hb0
    split at h
    rotate_left
    · cases h
    rename_i he
    have h1 := blkAt_some hb0
    split at h
    · cases h
    · split at h
      · simp only [Option.some.injEq, Prod.mk.injEq] at h
        rw [← h.2]
        exact List.getElem?_append_left hi
      · cases h
    · split at h
      · simp only [Option.some.injEq, Prod.mk.injEq] at h
        obtain ⟨-, rfl⟩ := h
        by_cases hid : id = i
        · subst hid
          exfalso
          rcases hb with hb | hb
          · rw [h1] at hb; injection hb with hb; injection hb with hb; subst hb; exact hne he
          · rw [List.getElem?_set, if_pos rfl, if_pos hi] at hb
            injection hb with hb; injection hb with hb; subst hb; exact hne he
        · rw [List.getElem?_set_ne hid]
      · split at h
        · simp only [Option.some.injEq, Prod.mk.injEq] at h
          obtain ⟨-, rfl⟩ := h
          unfold newBlk at hb ⊢
          rw [List.getElem?_append_left (by simpa using hi)] at hb ⊢
          by_cases hid : id = i
          · subst hid
            exfalso
            rcases hb with hb | hb
            · rw [h1] at hb; injection hb with hb; injection hb with hb; subst hb; exact hne he
            · rw [List.getElem?_set, if_pos rfl, if_pos hi] at hb
              injection hb with hb; cases hb
          · rw [List.getElem?_set_ne hid]
        · cases h
theorem Trc.other (h : Trc E call ops tr) {j : Nat} {o : Oper} (ho : ops[j]? = some o) (hw : wrtO E o = true) {g : Nat} (hg : tagE E ops o = some g) {i : Nat} (hi : i < (tr j).heap.length) {b : Blk}
    (hb : (tr j).heap[i]? = some (some b) ∨ (tr (j + 1)).heap[i]? = some (some b)) (hne : b.elem ≠ g) : (tr (j + 1)).heap[i]? = (tr j).heap[i]? := by
  rcases h.one ho with ⟨_, _, hh⟩ | ⟨_, hck, v, hop, _⟩
  · rw [hh]
  · unfold tagE tagX at hg
    unfold wrtO at hw
    unfold chkO tagOp at hck
    rw [Bool.and_eq_true] at hck
    replace hck := hck.1
    unfold opV at hop
    cases hoo : o.op with
    | store t a x =>
      simp only [hoo] at hg hck hop
      injection hg with hg
      split at hop
      · rename_i ti id r k hti hev
        rw [hev] at hck
        cases hst : storeV ti (tr j).heap id r k (ev (tr j).tmps x) with
        | none => rw [hst] at hop; simp at hop
        | some H2 =>
          rw [hst] at hop
          simp only [Option.map_some, Option.some.injEq, Prod.mk.injEq] at hop
          refine store_other (g := g) (by rw [hst, hop.2]) (fun b0 hb0 => ?_) hb hne
          simp only [chkV, hb0, beq_iff_eq] at hck
          rw [hck, hg]
      · cases hop
    | call c =>
      obtain ⟨callee, args, ts⟩ := c
      cases callee with
      | invoke r m => simp only [hoo] at hw; cases hw
      | value f =>
        cases f with
        | func g' =>
          simp only [hoo] at hg hop
          unfold guardCall at hop
          simp only [Bool.true_eq_false, if_false] at hop
          split at hop
          · rename_i g2 first cap v' H2 hev hr
            simp only [ev, V.w.injEq, W.lf.injEq, Lf.fn.injEq] at hev
            obtain ⟨rfl, -, -⟩ := hev
            split at hop
            · rename_i hc
              injection hop with hop
              injection hop with h1 h2
              subst h1 h2
              rcases hc with hc | hc
              · rw [hg] at hc
                exact onlyT_same hc.2.2 hi hb hne
              · have := congrArg (fun l => l[i]?) hc
                simp only [List.getElem?_take, hi, if_true] at this
                exact this
            · cases hop
          · cases hop
        | _ => simp only [hoo] at hg; cases hg
      | builtin bi =>
        cases bi with
        | append =>
          simp only [hoo] at hg hop
          rw [builtinW_true] at hop
          unfold builtinV appendB at hop
          simp only at hop
          split at hop
          · rename_i t u a len a2 n hts hargs
            rw [hts] at hg
            simp only [elmT] at hg
            split at hop
            · rename_i hτt hτu
              rw [hτt] at hg
              simp only at hg
              injection hg with hg
              subst hg
              split at hop
              · split at hop
                · exact append_other hop hi hb hne
                · cases hop
              · cases hop
            · cases hop
          · cases hop
        | _ => simp only [hoo] at hg; cases hg
    | _ => simp only [hoo] at hw; cases hw
theorem storeV_soft {ti : TI} {H H' : Heap} {id r k : Nat} {v : V} (h : storeV ti H id r k v = some H') {i : Nat} {b : Blk} (hb : H'[i]? = some (some b)) : ∃ b', H[i]? = some (some b') ∧ b'.elem = b.elem := by
  unfold storeV at h
  split at h
  · rename_i b0 cs hb0 hcs
    split at h
    · cases h
    · split at h
      · injection h with h
        subst h
        have h1 := blkAt_some hb0
        by_cases hi : id = i
        · subst hi
          rw [List.getElem?_set, if_pos rfl, if_pos (List.getElem?_eq_some_iff.1 h1).1] at hb
          injection hb with hb; injection hb with hb; subst hb
          exact ⟨b0, h1, rfl⟩
        · rw [List.getElem?_set_ne hi] at hb; exact ⟨b, hb, rfl⟩
      · cases h
  · cases h
theorem storeV_ne {ti : TI} {H H' : Heap} {id r k : Nat} {v : V} (h : storeV ti H id r k v = some H') {i : Nat} (hi : i ≠ id) : H'[i]? = H[i]? := by
  unfold storeV at h
  repeat' split at h
  all_goals first
    | (cases h; done)
    | (injection h with h; subst h; rw [List.getElem?_set_ne (Ne.symm hi)])
theorem append_soft {τ : Tab} {e : Nat} {H H' : Heap} {a : Option (Nat × Nat)} {len : Nat} {ys : List (List Lf)} {v : V} (h : appendV τ e H a len ys = some (v, H')) {i : Nat} (hi : i < H.length) {b : Blk} (hb : H'[i]? = some (some b)) : ∃ b', H[i]? = some (some b') ∧ b'.elem = b.elem := by
  unfold appendV at h
  split at h
  · cases h
  split at h
  · simp only [Option.some.injEq, Prod.mk.injEq] at h; rw [← h.2] at hb; exact ⟨b, hb, rfl⟩
  split at h
  rotate_left
  · cases h
  split at h
  · split at h
    · simp only [Option.some.injEq, Prod.mk.injEq] at h
      rw [← h.2] at hb
      rw [show (newBlk H _)[i]? = H[i]? from List.getElem?_append_left hi] at hb
      exact ⟨b, hb, rfl⟩
    · cases h
  · rename_i id r
    split at h
    · cases h
    rename_i b0 hb0
    split at h
    rotate_left
    · cases h
    rename_i he
    have h1 := blkAt_some hb0
    split at h
    · cases h
    · split at h
      · simp only [Option.some.injEq, Prod.mk.injEq] at h
        rw [← h.2] at hb
        rw [show (newBlk H _)[i]? = H[i]? from List.getElem?_append_left hi] at hb
        exact ⟨b, hb, rfl⟩
      · cases h
    · split at h
      · simp only [Option.some.injEq, Prod.mk.injEq] at h
        obtain ⟨-, rfl⟩ := h
        by_cases hid : id = i
        · subst hid
          rw [List.getElem?_set, if_pos rfl, if_pos hi] at hb
          injection hb with hb; injection hb with hb; subst hb
          exact ⟨b0, h1, rfl⟩
        · rw [List.getElem?_set_ne hid] at hb; exact ⟨b, hb, rfl⟩
      · split at h
        · simp only [Option.some.injEq, Prod.mk.injEq] at h
          obtain ⟨-, rfl⟩ := h
          unfold newBlk at hb
          rw [List.getElem?_append_left (by simpa using hi)] at hb
          by_cases hid : id = i
          · subst hid
            rw [List.getElem?_set, if_pos rfl, if_pos hi] at hb
            injection hb with hb; cases hb
          · rw [List.getElem?_set_ne hid] at hb; exact ⟨b, hb, rfl⟩
        · cases h
/-- Going back over one that writes softly: what is there was there. -/
theorem Trc.soft (h : Trc E call ops tr) {j : Nat} {o : Oper} (ho : ops[j]? = some o) (hw : softW o = true) {i : Nat} (hi : i < (tr j).heap.length) {b : Blk} (hb : (tr (j + 1)).heap[i]? = some (some b)) : ∃ b', (tr j).heap[i]? = some (some b') ∧ b'.elem = b.elem := by
  rcases h.one ho with ⟨_, _, hh⟩ | ⟨_, hck, v, hop, _⟩
  · rw [hh] at hb; exact ⟨b, hb, rfl⟩
  · unfold softW at hw
    unfold opV at hop
    cases hoo : o.op with
    | store t a x =>
      simp only [hoo] at hop
      split at hop
      · rename_i ti id r k hti hev
        cases hst : storeV ti (tr j).heap id r k (ev (tr j).tmps x) with
        | none => rw [hst] at hop; simp at hop
        | some H2 =>
          rw [hst] at hop
          simp only [Option.map_some, Option.some.injEq, Prod.mk.injEq] at hop
          exact storeV_soft (by rw [hst, hop.2]) hb
      · cases hop
    | call c =>
      obtain ⟨callee, args, ts⟩ := c
      cases callee with
      | invoke r m => simp only [hoo] at hw; cases hw
      | value f => simp only [hoo] at hw; cases hw
      | builtin bi =>
        cases bi with
        | append =>
          simp only [hoo] at hop
          rw [builtinW_true] at hop
          unfold builtinV appendB at hop
          simp only at hop
          split at hop
          · split at hop
            · split at hop
              · split at hop
                · exact append_soft hop hi hb
                · cases hop
              · cases hop
            · cases hop
          · cases hop
        | _ => simp only [hoo] at hw; cases hw
    | _ => simp only [hoo] at hw; cases hw
/-- A store leaves the block that the load reads as it is. -/
theorem Trc.dif (h : Trc E call ops tr) {k j : Nat} {ok o : Oper} (hok : ops[k]? = some ok) (ho : ops[j]? = some o) (hw : difW E ops ok o = true) (hd : difO E (ev (tr j).tmps) o.op = true) {id : Nat}
    (hid : ∀ t x, o.op = .load t x → ∃ r q, ev (tr j).tmps x = .w (.lf (.p (some (id, r, q))))) : (tr (k + 1)).heap[id]? = (tr k).heap[id]? := by
  have hkn : k < ops.size := (Array.getElem?_eq_some_iff.1 hok).1
  have hjn : j < ops.size := (Array.getElem?_eq_some_iff.1 ho).1
  unfold difW at hw
  split at hw
  rotate_left
  · cases hw
  rename_i t y v t' x e1 e2
  simp only [Bool.and_eq_true, List.all_eq_true, bne_iff_ne, ne_eq] at hw
  obtain ⟨hc, hy⟩ := hw
  obtain ⟨r, q, hx⟩ := hid t' (.tmp x) e2
  have hys : (tr k).tmps.getD y .bad = (tr j).tmps.getD y .bad := by
    have hn : ∀ a b : Nat, ∀ (i : Nat) (oi : Oper), a ≤ i → i < b → ops[i]? = some oi → oi.dst ≠ some y := fun a b i oi _ _ hi => hy oi (by
      rw [Array.mem_toList_iff]
      exact Array.mem_of_getElem? hi)
    rcases Nat.le_total k j with hkj | hkj
    · exact (h.tsame hkj (by omega) y (hn k j)).symm
    · exact h.tsame hkj (by omega) y (hn j k)
  rcases h.one hok with ⟨_, _, hh⟩ | ⟨_, _, v', hop, _⟩
  · rw [hh]
  · unfold opV at hop
    rw [e1] at hop
    simp only at hop
    split at hop
    · rename_i ti id2 r2 k2 hti hev
      cases hst : storeV ti (tr k).heap id2 r2 k2 (ev (tr k).tmps v) with
      | none => rw [hst] at hop; simp at hop
      | some H2 =>
        rw [hst] at hop
        simp only [Option.map_some, Option.some.injEq, Prod.mk.injEq] at hop
        rw [hop.2] at hst
        refine storeV_ne hst ?_
        rw [e2] at hd
        simp only [difO, List.all_eq_true] at hd
        have h2 := hd (t', y, x) (by simpa using hc)
        simp only [bne_self_eq_false, Bool.false_or] at h2
        have hev' : ev (tr j).tmps (.tmp y) = .w (.lf (.p (some (id2, r2, k2)))) := by
          rw [← hev]; simp only [ev]; exact hys.symm
        rw [hev', hx] at h2
        simp only [difV, bne_iff_ne, ne_eq] at h2
        exact fun he => h2 he.symm
    · cases hop
theorem putT_eq (tm : List V) (d : Nat) (v : V) : (putT tm (some d) v).getD d .bad = v ∨ (putT tm (some d) v).getD d .bad = .bad := by
  simp only [putT, List.getD_eq_getElem?_getD]
  by_cases hl : d < tm.length
  · left; simp [hl]
  · right; rw [List.getElem?_eq_none (by simpa using hl)]; rfl
/-- One that writes into a block that came up later. -/
theorem Trc.fresh (h : Trc E call ops tr) (hD : DS E ops) {k j : Nat} {o : Oper} (ho : ops[k]? = some o) (hf : freshW ops k j o = true) {id : Nat} (hid : id < (tr j).heap.length) : j < k ∧ (tr (k + 1)).heap[id]? = (tr k).heap[id]? := by
  have hkn : k < ops.size := (Array.getElem?_eq_some_iff.1 ho).1
  unfold freshW at hf
  cases hoo : o.op with
  | store t a y =>
    cases a with
    | tmp x =>
      simp only [hoo, List.any_eq_true, List.mem_range, Bool.and_eq_true, decide_eq_true_eq] at hf
      obtain ⟨a, hak, hja, hoa⟩ := hf
      refine ⟨by omega, ?_⟩
      cases hopa : ops[a]? with
      | none => rw [hopa] at hoa; cases hoa
      | some oa =>
        rw [hopa] at hoa
        simp only at hoa
        cases hal : oa.op with
        | alloc ta =>
          rw [hal] at hoa
          have hdst : oa.dst = some x := by simpa using hoa
          rcases h.one ho with ⟨_, _, hh⟩ | ⟨_, _, v, hop, _⟩
          · rw [hh]
          · unfold opV at hop
            simp only [hoo] at hop
            split at hop
            · rename_i ti idA r kk hti hev
              cases hst : storeV ti (tr k).heap idA r kk (ev (tr k).tmps y) with
              | none => rw [hst] at hop; simp at hop
              | some H2 =>
                rw [hst] at hop
                simp only [Option.map_some, Option.some.injEq, Prod.mk.injEq] at hop
                have hx : (tr k).tmps.getD x .bad = (tr (a + 1)).tmps.getD x .bad := h.tsame (show a + 1 ≤ k from hak) (by omega) x fun i oi h1 h2 h3 => hD.dst a i oa oi x (by omega) hopa h3 hdst
                have hev' : (tr (a + 1)).tmps.getD x .bad = .ptr idA r kk := by rw [← hx]; exact hev
                have hge : (tr a).heap.length = idA := by
                  rcases h.one hopa with ⟨_, ht, _⟩ | ⟨_, _, va, hva, ht⟩
                  · rw [ht, hdst] at hev'
                    rcases putT_eq (tr a).tmps x (.tup []) with h1 | h1 <;> rw [h1] at hev' <;> cases hev'
                  · rw [ht, hdst] at hev'
                    unfold opV at hva
                    simp only [hal] at hva
                    split at hva
                    · simp only [Option.some.injEq, Prod.mk.injEq] at hva
                      rcases putT_eq (tr a).tmps x va with h1 | h1 <;> rw [h1] at hev'
                      · rw [← hva.1] at hev'
                        injection hev' with hev'
                        injection hev' with hev'
                        injection hev' with hev'
                        injection hev' with hev'
                        injection hev' with hev'
                      · cases hev'
                    · cases hva
                have hlen := h.len (show j ≤ a by omega) (by omega)
                rw [← hop.2]
                exact storeV_ne hst (by omega)
            · cases hop
        | _ => rw [hal] at hoa; cases hoa
    | _ => simp only [hoo] at hf; cases hf
  | _ => simp only [hoo] at hf; cases hf
end
end Go.Ab
