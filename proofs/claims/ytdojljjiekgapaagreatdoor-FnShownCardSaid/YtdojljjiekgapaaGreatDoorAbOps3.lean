/- Operators, addresses, cuts. -/
import Derived.Test.YtdojljjiekgapaaGreatDoorAbOps2
set_option linter.unusedVariables false
set_option linter.unusedSimpArgs false
namespace Go.Ab
variable {P : Program} {τ : Tab} {μ : Mu} {H : Heap} {w : World}

/-! ### Operators -/
theorem cmp_sound {op : BinOp} {a b : Int} {x : Bool} (h : cmpI op a b = some x) (w : World) : (Op.intCmp op a b).run P w = .ok (.bool x) w := by
  unfold cmpI at h
  split at h <;> first
    | (injection h with h; subst h; by_cases he : a = b <;> simp [Op.intCmp, bne, he]; done)
    | (injection h with h; subst h; simp [Op.intCmp]; done)
    | cases h
theorem int_sound {op : BinOp} {k k' : IntKind} {a b : Int} {v : V} (t : Nat) (h : binInt op k a k' b = some v) (w : World) : ∃ cv, (binOp op t (.int k a) (.int k' b)).run P w = .ok cv w ∧ VRel μ v cv := by
  unfold binInt at h
  split at h
  · split at h
    · rename_i hb
      injection h with h; subst h
      refine ⟨_, ?_, rfl⟩
      have hn : ¬ b < 0 := by omega
      simp [binOp, Op.shift, hn]
    · cases h
  · split at h
    · rename_i hb
      injection h with h; subst h
      refine ⟨_, ?_, rfl⟩
      have hn : ¬ b < 0 := by omega
      simp [binOp, Op.shift, hn]
    · cases h
  · rename_i hshl hshr
    split at h
    rotate_left
    · cases h
    rename_i hk
    subst hk
    split at h
    · rename_i x hx
      injection h with h
      subst h
      refine ⟨.bool x, ?_, rfl⟩
      have := cmp_sound (P := P) hx w
      cases op <;> simp [cmpI] at hx <;> simpa [binOp] using this
    · split at h
      · rename_i n hn
        injection h with h
        subst h
        refine ⟨.int k n, ?_, rfl⟩
        unfold arI at hn
        split at hn
        · injection hn with hn; subst hn; simp [binOp, Op.intArith]
        · injection hn with hn; subst hn; simp [binOp, Op.intArith]
        · injection hn with hn; subst hn; simp [binOp, Op.intArith]
        · split at hn
          · cases hn
          · rename_i hb; injection hn with hn; subst hn; simp [binOp, Op.intDiv, hb]
        · split at hn
          · cases hn
          · rename_i hb; injection hn with hn; subst hn; simp [binOp, Op.intDiv, hb]
        · injection hn with hn; subst hn; simp [binOp, Op.intBits]
        · injection hn with hn; subst hn; simp [binOp, Op.intBits]
        · injection hn with hn; subst hn; simp [binOp, Op.intBits]
        · cases hn
      · cases h
theorem str_sound {op : BinOp} {a b : ByteArray} {v : V} (t : Nat) (h : binStr op a b = some v) (w : World) : ∃ cv, (binOp op t (.string a) (.string b)).run P w = .ok cv w ∧ VRel μ v cv := by
  have heq : (a.toList == b.toList) = decide (a = b) := by
    have hl : (a.toList = b.toList) ↔ a = b := by
      rw [ByteArray.toList_eq, ByteArray.toList_eq]
      obtain ⟨⟨x⟩⟩ := a
      obtain ⟨⟨y⟩⟩ := b
      simp
    by_cases h : a = b
    · simp [h]
    · have : ¬ a.toList = b.toList := fun hh => h (hl.1 hh)
      simp [h, this]
  unfold binStr at h
  split at h
  · split at h
    · rename_i hs
      injection h with h
      subst h
      refine ⟨.string (a ++ b), ?_, rfl⟩
      have hm : ¬ (((a.size + b.size : Nat) : Int) > IntKind.i64.max) := by
        have : IntKind.i64.max = 9223372036854775807 := by decide
        rw [this]; omega
      simp only [binOp, Op.stringOp, Sem.run_ite, if_neg hm, Sem.run_pure]
    · cases h
  · injection h with h; subst h
    exact ⟨.bool (decide (a = b)), by simp [binOp, Op.stringOp, heq], rfl⟩
  · injection h with h; subst h
    exact ⟨.bool (!decide (a = b)), by simp [binOp, Op.stringOp, heq], rfl⟩
  · cases h
theorem sh_val {l : Lf} {v : Value} (hs : l.sh ≠ .o) (h : LRel μ l v) : v = lfVal l := by
  cases l <;> simp [Lf.sh] at hs <;> exact h
theorem run_equalIn_slice_nil (d t e : Nat) (h : P.underlying t = some (.slice e)) (a : Option Addr) (n c : Nat) (w : World) : (Op.equalIn (d + 1) t (.slice a n c) (.slice none 0 0)).run P w = .ok a.isNone w := by
  cases a <;> simp [Op.equalIn, run_underlying h]
theorem run_equal_slice_nil (t e : Nat) (h : P.underlying t = some (.slice e)) (a : Option Addr) (n c : Nat) (w : World) : (Op.equal t (.slice a n c) (.slice none 0 0)).run P w = .ok a.isNone w := run_equalIn_slice_nil 9999 t e h a n c w
theorem guard_slice (op : BinOp) (t : Nat) (ox oy : Operand) (a a' : Option Addr) (n c n' c' : Nat) (w : World) : (eqGuard op t ox oy (.slice a n c) (.slice a' n' c')).run P w = .ok () w := by
  cases op <;> simp [eqGuard]
theorem eq_sound (hτ : TabOk P τ) {t : Nat} {x y : W} {xv yv : Value} (hx : WRel μ x xv) (hy : WRel μ y yv) {b : Bool} (h : binEq τ t x y = some b) (w : World) :
    (Op.equal t xv yv).run P w = .ok b w ∧ ∀ (op : BinOp) (ox oy : Operand), (eqGuard op t ox oy xv yv).run P w = .ok () w := by
  unfold binEq at h
  split at h
  · cases h
  rename_i ti hti
  have hty := hτ t ti hti
  have hkind := hty.kind
  split at h
  · rename_i a b' hk
    rw [hk] at hkind
    injection h with h
    subst h
    have hx' : xv = .bool a := hx
    have hy' : yv = .bool b' := hy
    subst hx' hy'
    refine ⟨?_, fun op ox oy => ?_⟩
    · rw [run_equal_bool (P := P) w t a b' hkind]; cases a <;> cases b' <;> rfl
    · unfold eqGuard; split <;> simp_all
  · rename_i offs xs ys hk
    split at h
    · rename_i hc
      injection h with h
      subst h
      obtain ⟨vs, rfl, hxs⟩ := hx
      obtain ⟨us, rfl, hys⟩ := hy
      obtain ⟨hno, heg, heq⟩ := hty.eq hc.1
      have plain : ∀ (zs : List Lf) (cs : List Value), zs.map Lf.sh = ti.zero.map Lf.sh → All2 (LRel μ) zs cs → cs = zs.map lfVal := by
        intro zs cs hsh hall
        apply List.ext_getElem?
        intro i
        rcases Nat.lt_or_ge i zs.length with hl | hl
        · have hz := List.getElem?_eq_getElem hl
          obtain ⟨v, hv, hrel⟩ := hall.get hz
          rw [hv, List.getElem?_map, hz]
          have hi2 : i < ti.zero.length := by have := congrArg List.length hsh; simp at this; omega
          have hsz : (zs[i]).sh = (ti.zero[i]).sh := by
            have := congrArg (·[i]?) hsh
            simpa [hl, hi2] using this
          have hne := hno _ (List.getElem_mem hi2)
          rw [← hsz] at hne
          rw [sh_val hne hrel]
          simp
        · rw [List.getElem?_eq_none (by rw [← hall.len]; exact hl), List.getElem?_eq_none (by simpa using hl)]
      rw [plain xs vs hc.2.1 hxs, plain ys us hc.2.2 hys]
      exact ⟨heq w xs ys hc.2.1 hc.2.2, fun op ox oy => run_eqGuard_agg (P := P) w op t ox oy _ _ heg⟩
    · cases h
  · rename_i e a n hk
    rw [hk] at hkind
    injection h with h
    subst h
    obtain ⟨_, rfl⟩ : _ ∧ yv = .slice none 0 0 := hy
    have hkind' : P.underlying t = some (.slice e) := hkind
    rcases a with _ | ⟨id, r⟩
    · obtain ⟨_, rfl⟩ : _ ∧ xv = .slice none 0 0 := hx
      exact ⟨run_equal_slice_nil t e hkind' _ _ _ w, fun op ox oy => guard_slice op t ox oy _ _ _ _ _ _ w⟩
    · obtain ⟨L, ad, cap, _, rfl, _⟩ := hx
      exact ⟨run_equal_slice_nil t e hkind' _ _ _ w, fun op ox oy => guard_slice op t ox oy _ _ _ _ _ _ w⟩
  · cases h
theorem guard_int (op : BinOp) (t : Nat) (ox oy : Operand) (k k' : IntKind) (a b : Int) (w : World) : (eqGuard op t ox oy (.int k a) (.int k' b)).run P w = .ok () w := by
  unfold eqGuard; split <;> simp_all
theorem guard_str (op : BinOp) (t : Nat) (ox oy : Operand) (a b : ByteArray) (w : World) : (eqGuard op t ox oy (.string a) (.string b)).run P w = .ok () w := by
  unfold eqGuard; split <;> simp_all
theorem bin_sound (hτ : TabOk P τ) {op : BinOp} {t : Nat} {x y : V} {xv yv : Value} (hx : VRel μ x xv) (hy : VRel μ y yv) (ox oy : Operand) {v : V} (h : binV τ op t x y = some v) (w : World) :
    ∃ cv, (do eqGuard op t ox oy xv yv; binOp op t xv yv : Sem Value).run P w = .ok cv w ∧ VRel μ v cv := by
  unfold binV at h
  split at h
  · rename_i k a k' b
    have hx' : xv = .int k a := hx
    have hy' : yv = .int k' b := hy
    subst hx' hy'
    obtain ⟨cv, hr, hv⟩ := int_sound (μ := μ) (P := P) t h w
    exact ⟨cv, by simp only [Sem.run_bind, guard_int, Result.andThen_ok, hr], hv⟩
  · rename_i a b
    have hx' : xv = .string a := hx
    have hy' : yv = .string b := hy
    subst hx' hy'
    obtain ⟨cv, hr, hv⟩ := str_sound (μ := μ) (P := P) t h w
    exact ⟨cv, by simp only [Sem.run_bind, guard_str, Result.andThen_ok, hr], hv⟩
  · rename_i a b hni hns
    have notint : ∀ (z : Bool), binEq τ t a b = some z → (∀ op, op = BinOp.eql → (binOp op t xv yv).run P w = .ok (.bool z) w) ∧ (∀ op, op = BinOp.neq → (binOp op t xv yv).run P w = .ok (.bool (!z)) w) := by
      intro z hz
      have heq := (eq_sound hτ hx hy hz w).1
      have hz' := hz
      unfold binEq at hz'
      split at hz'
      · cases hz'
      split at hz'
      · rename_i a' b' _
        have hx' : xv = .bool a' := hx
        have hy' : yv = .bool b' := hy
        subst hx' hy'
        exact ⟨fun op ho => by subst ho; simp [binOp, heq], fun op ho => by subst ho; simp [binOp, heq]⟩
      · obtain ⟨vs, rfl, _⟩ := hx
        obtain ⟨us, rfl, _⟩ := hy
        exact ⟨fun op ho => by subst ho; simp [binOp, heq], fun op ho => by subst ho; simp [binOp, heq]⟩
      · rename_i e a' n _
        obtain ⟨_, rfl⟩ : _ ∧ yv = .slice none 0 0 := hy
        rcases a' with _ | ⟨id, r⟩
        · obtain ⟨_, rfl⟩ : _ ∧ xv = .slice none 0 0 := hx
          exact ⟨fun op ho => by subst ho; simp [binOp, heq], fun op ho => by subst ho; simp [binOp, heq]⟩
        · obtain ⟨L, ad, cap, _, rfl, _⟩ := hx
          exact ⟨fun op ho => by subst ho; simp [binOp, heq], fun op ho => by subst ho; simp [binOp, heq]⟩
      · cases hz'
    split at h
    · cases hz : binEq τ t a b with
      | none => simp [hz] at h
      | some z =>
        simp [hz] at h
        subst h
        exact ⟨.bool z, by simp only [Sem.run_bind, (eq_sound hτ hx hy hz w).2, Result.andThen_ok, (notint z hz).1 _ rfl], rfl⟩
    · cases hz : binEq τ t a b with
      | none => simp [hz] at h
      | some z =>
        simp [hz] at h
        subst h
        exact ⟨.bool (!z), by simp only [Sem.run_bind, (eq_sound hτ hx hy hz w).2, Result.andThen_ok, (notint z hz).2 _ rfl], rfl⟩
    · cases h
  · cases h
theorem un_sound {op : UnOp} {x : V} {xv : Value} (hx : VRel μ x xv) {v : V} (h : unV op x = some v) (w : World) : ∃ cv, (Op.unary op xv).run P w = .ok cv w ∧ VRel μ v cv := by
  unfold unV at h
  split at h
  · rename_i a
    injection h with h; subst h
    have hx' : xv = .bool a := hx
    subst hx'
    exact ⟨.bool (!a), by simp [Op.unary], rfl⟩
  · rename_i k n
    injection h with h; subst h
    have hx' : xv = .int k n := hx
    subst hx'
    exact ⟨_, by simp only [Op.unary, Op.intArith, Sem.run_pure], rfl⟩
  · cases h
end Go.Ab
