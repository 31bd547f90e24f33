/- The functions that this law reaches: what each computes. Conditions: those that each theorem names. -/
import Derived.Test.YtdojljjiekgapaaGreatDoorWalkShown1
set_option maxRecDepth 100000
set_option maxHeartbeats 4000000
set_option linter.unusedSimpArgs false
set_option linter.unusedVariables false
set_option linter.unnecessarySimpa false
namespace Go.Proofs.YtdojljjiekgapaaGreatDoor
open Go Go.Ab Go.ChangeShapes Go.WideShapes Go.ChangeAt Go.RowKit
namespace W
def encU (x : Int) : List Lf := [.i .u8 x]
/-- A cursor over n bytes. -/
def Cur (H : Heap) (c n : Nat) : Prop := ∃ (a : Option (Nat × Nat)) (i h : Int) (bs : List Int), blkAt H c = some ⟨76, .wr, [[.sl a n, .i .i64 i, .i .i64 h]]⟩ ∧ 0 ≤ i ∧ i ≤ n ∧ bs.length = n ∧ n ≤ 1048576 ∧ (∀ id r, a = some (id, r) → bs ≠ [] → id < c) ∧ Sl H 5 a (bs.map encU)
theorem Cur.lt {H : Heap} {c n : Nat} (h : Cur H c n) : c < H.length := let ⟨_, _, _, _, h1, _⟩ := h; blkAt_len h1
theorem Cur.keep {H H' : Heap} {c n : Nat} {f : List Nat} (h : Cur H c n) (hk : Keep f H H') (hf : ∀ i ∈ f, c < i) : Cur H' c n := by
  obtain ⟨a, i, h, bs, h1, h2, h3, h4, h5, h6, h7⟩ := h
  have hlt := blkAt_len h1
  refine ⟨a, i, h, bs, hk.blk h1 (fun hc => by have := hf c hc; omega), h2, h3, h4, h5, h6, ?_⟩
  by_cases hb : bs = []
  · subst hb; exact Sl.nil _ _ _
  · exact h7.keep hk (fun id r he hi => by have := hf id hi; have := h6 id r he hb; omega)
theorem Cur.app {H : Heap} {c n : Nat} (h : Cur H c n) (G : Heap) : Cur (H ++ G) c n := h.keep (Keep.app [] H G) (by simp)
theorem Cur.ne {H : Heap} {c n id : Nat} {b : Blk} (h : Cur H c n) (hb : blkAt H id = some b) (he : b.elem ≠ 76) : id ≠ c := by
  obtain ⟨a, i, h, bs, h1, -⟩ := h
  rintro rfl
  rw [h1] at hb
  injection hb with hb
  rw [← hb] at he
  exact he rfl
/-- From H to H' the cursor may have gone on, nothing else that was has turned. -/
def CurTo (H H' : Heap) (c n : Nat) : Prop := Keep [c] H H' ∧ Cur H' c n
theorem CurTo.refl {H : Heap} {c n : Nat} (h : Cur H c n) : CurTo H H c n := ⟨Keep.refl _ _, h⟩
theorem CurTo.app {H H' : Heap} {c n : Nat} (h : CurTo H H' c n) (G : Heap) : CurTo H (H' ++ G) c n := ⟨h.1.trans (Keep.app [] _ G) (fun _ h _ => h) (by simp), h.2.app G⟩
theorem CurTo.next {H H1 H2 : Heap} {c n : Nat} (h : CurTo H H1 c n) (h2 : CurTo H1 H2 c n) : CurTo H H2 c n := ⟨h.1.trans h2.1 (fun _ h _ => h) (fun _ h _ => h), h2.2⟩
theorem CurTo.base {H G H' : Heap} {c n : Nat} (h : CurTo (H ++ G) H' c n) : CurTo H H' c n := ⟨h.1.base, h.2⟩
theorem CurTo.set {H H' : Heap} {c n : Nat} (h : CurTo H H' c n) {id : Nat} (hid : H.length ≤ id) (hc : c < id) (y : Option Blk) : CurTo H (H'.set id y) c n :=
  ⟨h.1.trans (Keep.set _ _) (fun _ h _ => h) (fun i hi hlt => by simp at hi; omega), h.2.keep (Keep.set _ _) (by simpa using hc)⟩
theorem CurTo.own {H H' H2 : Heap} {c n : Nat} (h : CurTo H H' c n) {f : List Nat} (hk : Keep f H' H2) (hf : ∀ i ∈ f, H.length ≤ i) (hc : c < H.length) : CurTo H H2 c n :=
  ⟨h.1.trans hk (fun _ h _ => h) (fun i hi hlt => by have := hf i hi; omega), h.2.keep hk (fun i hi => by have := hf i hi; omega)⟩
theorem CurTo.leave {H H' : Heap} {c n : Nat} (h : CurTo H H' c n) (hc : Cur H c n) (ws : List W) : CurTo H (Go.Ab.leave H H' ws) c n := by
  rcases leave_or H H' ws with e | ⟨e, -⟩ <;> rw [e]
  · exact h
  · exact CurTo.refl hc
theorem CurTo.len {H H' : Heap} {c n : Nat} (h : CurTo H H' c n) : H.length ≤ H'.length := h.1.1
/-- Of what was there only the cursor's block turned. -/
theorem CurTo.only {H H' : Heap} {c n : Nat} (h : CurTo H H' c n) (hc : Cur H c n) : onlyT (some 76) H H' = true := by
  unfold onlyT
  simp only [List.all_eq_true, List.mem_range, Bool.or_eq_true, decide_eq_true_eq]
  intro id hid
  by_cases he : id = c
  · subst he
    obtain ⟨a, i, h0, bs, h1, -⟩ := hc
    obtain ⟨a', i', h0', bs', h1', -⟩ := h.2
    have e1 := blkAt_some h1
    have e2 := blkAt_some h1'
    right
    rw [e1, e2]
    rfl
  · exact .inl (h.1.2 id hid (by simpa using he))

/-- A call of a function that draws. -/
theorem stpL_cur {call : Fun} {draw : Bool} {tm : Ab.T} {H : Heap} {Q : Ex → Ab.T → Heap → Prop} {fr : List Fr} {is : List I2} {f : Nat} {args : List V} {d : Option Nat} {K : V → Heap → Prop} {x y : List (Nat × Nat × Nat)} {c n : Nat} (h : Runs env f args H K) (hc : Cur H c n) (hto : ∀ v H', K v H' → CurTo H H' c n)
    (hk : ∀ v H', K v H' → stpL env call (some (v, H')) d draw is fr tm Q) (hw : env.wr f = true := by rfl) (hn : env.wt f = some 76 := by rfl) : stpL env call (guardCall env draw (.w (.lf (.fn f x y))) H (run env f args H)) d draw is fr tm Q := by
  obtain ⟨v, H', hr, hK⟩ := h
  have : guardCall env draw (.w (.lf (.fn f x y))) H (run env f args H) = some (v, H') := by
    rw [hr]
    unfold guardCall
    split
    · rfl
    · have h1 := hto v H' hK
      simp [hw, hn, h1.len, h1.only hc]
  rw [this]
  exact hk v H' hK

theorem and255 (a : Int) : 0 ≤ IntKind.i64.wrap ((BitVec.ofInt 64 a &&& 255#64).toNat : Nat) ∧ IntKind.i64.wrap ((BitVec.ofInt 64 a &&& 255#64).toNat : Nat) ≤ 255 := by
  have h : (BitVec.ofInt 64 a &&& 255#64).toNat ≤ 255 := by
    rw [BitVec.toNat_and]
    exact Nat.le_trans Nat.and_le_right (by decide)
  rw [wrap64 (by omega) (by omega)]
  omega
theorem l1Byte {H : Heap} {c n : Nat} (hc : Cur H c n) : Runs env 51 [.ptr c 0 0] H fun v H' => (∃ x : Int, v = .int x ∧ 0 ≤ x ∧ x ≤ 255) ∧ CurTo H H' c n := by
  have hc0 := hc
  obtain ⟨a, i, h, bs, h1, h2, h3, h4, h5, h6, h7⟩ := hc
  have hl := blkAt_len h1
  refine Runs.walk ok51 Tryz.func51 rfl (by simp [Tryz.f51]) fun Q hQ => ?_
  simp only [Tryz.f51, strip, stripL, stripI, stripG, chkT, tagsB, tagsL, tagD, addT, tagA, lookN, tagOp, elmT, ty22, ty29, ty33, ty39, ty40, ty41, ty42, ty69, ty71, ty95, Nat.reduceEqDiff, if_false, reduceIte, Option.getD_some, Option.getD_none, dstAt, dstOk, Nat.reduceLT, decide_true, if_true]
  have hset : ∀ y : Blk, blkAt (H.set c (some y)) c = some y := fun y => blkAt_set hl
  have hto : ∀ (i' h' : Int), 0 ≤ i' → i' ≤ n → CurTo H (H.set c (some ⟨76, .wr, [[.sl a n, .i .i64 i', .i .i64 h']]⟩)) c n := fun i' h' g1 g2 =>
    ⟨Keep.set _ _, a, i', h', bs, hset _, g1, g2, h4, h5, h6, by
      by_cases hb : bs = []
      · subst hb; exact Sl.nil _ _ _
      · exact h7.keep (Keep.set _ _) (fun id r he hi => by have := h6 id r he hb; simp at hi; omega)⟩
  simp [h1, hl, hset, builtinV, pureB, lenV, binV, binInt, cmpI, arI, IntKind.bits]
  refine selS_intro (fun hc1 => ?_) (fun hc1 => ?_)
  · simp at hc1
    obtain ⟨k, rfl⟩ : ∃ k : Nat, i = (k : Int) := ⟨i.toNat, by omega⟩
    have hk : k < bs.length := by omega
    obtain ⟨id3, r3, bl3, rfl, hb3, hbe3, hrow3⟩ := h7 k _ (by rw [List.getElem?_map, List.getElem?_eq_getElem hk]; rfl)
    have hid3 := blkAt_len hb3
    have hlt3 : id3 < c := h6 id3 r3 rfl (by rintro rfl; simp at hk)
    have hse : ∀ y : Option Blk, blkAt (H.set c y) id3 = some bl3 := fun y => by rw [blkAt_set_ne (by omega)]; exact hb3
    have hkn : k < n := by omega
    have hkI : (k : Int) < n := by omega
    have hw : IntKind.i64.wrap ((k : Int) + 1) = (k : Int) + 1 := wrap64 (by omega) (by omega)
    simp [hset, hl, hse, hid3, hbe3, hrow3, indexAddrV, elemIs, hkn, hkI, encU, binV, binInt, cmpI, arI, IntKind.bits, convV, hw]
    refine hQ _ _ _ (by simp) ?_
    simp [Tryz.f51]
    exact ⟨and255 _, (hto _ _ (by omega) (by omega)).leave hc0 _⟩
  · simp at hc1
    simp
    refine hQ _ _ _ (by simp) ?_
    simp [Tryz.f51]
    exact ⟨and255 _, (hto _ _ h2 h3).leave hc0 _⟩

theorem tmod_le {s k : Int} (hs : 0 ≤ s) (hk : 0 < k) : s.tmod k ≤ s := by
  rw [Int.tmod_eq_emod_of_nonneg hs]
  obtain ⟨a, rfl⟩ := Int.eq_ofNat_of_zero_le hs
  obtain ⟨b, rfl⟩ := Int.eq_ofNat_of_zero_le (show 0 ≤ k by omega)
  have := Nat.mod_le a b
  omega
theorem l1Below {H : Heap} {c n : Nat} (hc : Cur H c n) (k : Int) : Runs env 34 [.ptr c 0 0, .int k] H fun v H' => (∃ x : Int, v = .int x ∧ 0 ≤ x ∧ (0 < k → x < k) ∧ x ≤ 4294967295) ∧ CurTo H H' c n := by
  refine Runs.walk ok34 Tryz.func34 rfl (by simp [Tryz.f34]) fun Q hQ => ?_
  simp only [Tryz.f34, strip, stripL, stripI, stripG, chkT, tagsB, tagsL, tagD, addT, tagA, lookN, tagOp, elmT, ty22, ty29, ty33, ty39, ty40, ty41, ty42, ty69, ty71, ty95, Nat.reduceEqDiff, if_false, reduceIte, Option.getD_some, Option.getD_none, dstAt, dstOk, Nat.reduceLT, decide_true, if_true]
  have fin : ∀ (HF : Heap) (tm : Ab.T) (x : Int), tm 4 = .int x → 0 ≤ x → (0 < k → x < k) → x ≤ 4294967295 → CurTo H HF c n → Q .ret tm HF := by
    intro HF tm x t4 h1 h2 h3 hto
    refine hQ _ _ _ (by simp) ?_
    simp [Tryz.f34, t4]
    exact ⟨⟨h1, h2, h3⟩, hto.leave hc _⟩
  simp
  by_cases hk : k ≤ 0
  · simp [hk]
    exact fin _ _ 0 (by simp) (by omega) (by omega) (by omega) (CurTo.refl hc)
  have hk0 : ¬ k = 0 := by omega
  simp [hk]
  by_cases hk2 : k ≤ 256
  · simp [hk2]
    refine stpL_runs (l1Byte hc) ?_
    rintro _ H1 ⟨⟨x, rfl, hx1, hx2⟩, hto⟩
    simp [hk0]
    have h1 := Int.tmod_nonneg k hx1
    have h2 := Int.tmod_lt_of_pos x (show 0 < k by omega)
    exact fin _ _ (x.tmod k) (by simp) h1 (fun _ => h2) (by omega) hto
  · simp [hk2]
    refine stpL_runs (l1Byte hc) ?_
    rintro _ H1 ⟨⟨x, rfl, hx1, hx2⟩, hto1⟩
    simp
    refine stpL_runs (l1Byte hto1.2) ?_
    rintro _ H2 ⟨⟨y, rfl, hy1, hy2⟩, hto2⟩
    simp
    refine stpL_runs (l1Byte hto2.2) ?_
    rintro _ H3 ⟨⟨z, rfl, hz1, hz2⟩, hto3⟩
    simp
    refine stpL_runs (l1Byte hto3.2) ?_
    rintro _ H4 ⟨⟨w, rfl, hw1, hw2⟩, hto4⟩
    have g1 : IntKind.i64.wrap (x * 16777216) = x * 16777216 := wrap64 (by omega) (by omega)
    have g2 : IntKind.i64.wrap (y * 65536) = y * 65536 := wrap64 (by omega) (by omega)
    have g3 : IntKind.i64.wrap (x * 16777216 + y * 65536) = x * 16777216 + y * 65536 := wrap64 (by omega) (by omega)
    have g4 : IntKind.i64.wrap (z * 256) = z * 256 := wrap64 (by omega) (by omega)
    have g5 : IntKind.i64.wrap (x * 16777216 + y * 65536 + z * 256) = x * 16777216 + y * 65536 + z * 256 := wrap64 (by omega) (by omega)
    have g6 : IntKind.i64.wrap (x * 16777216 + y * 65536 + z * 256 + w) = x * 16777216 + y * 65536 + z * 256 + w := wrap64 (by omega) (by omega)
    simp [hk0, g1, g2, g3, g4, g5, g6]
    obtain ⟨s, hs⟩ : ∃ s, s = x * 16777216 + y * 65536 + z * 256 + w := ⟨_, rfl⟩
    have hs0 : 0 ≤ s := by omega
    have h1 := Int.tmod_nonneg k hs0
    have h2 := Int.tmod_lt_of_pos s (show 0 < k by omega)
    have h3 : s.tmod k ≤ s := tmod_le hs0 (by omega)
    refine fin _ _ (s.tmod k) ?_ h1 (fun _ => h2) (by omega) (((hto1.next hto2).next hto3).next hto4)
    simp [hs]

theorem l1Once {H : Heap} {c n : Nat} (hc : Cur H c n) (k : Int) : Runs env 45 [.ptr c 0 0, .int k] H fun v H' => (∃ b : Bool, v = .bool b) ∧ CurTo H H' c n := by
  refine Runs.walk ok45 Tryz.func45 rfl (by simp [Tryz.f45]) fun Q hQ => ?_
  simp only [Tryz.f45, strip, stripL, stripI, stripG, chkT, tagsB, tagsL, tagD, addT, tagA, lookN, tagOp, elmT, ty22, ty29, ty33, ty39, ty40, ty41, ty42, ty69, ty71, ty95, Nat.reduceEqDiff, if_false, reduceIte, Option.getD_some, Option.getD_none, dstAt, dstOk, Nat.reduceLT, decide_true, if_true]
  simp
  refine stpL_runs (l1Below hc k) ?_
  rintro _ H1 ⟨⟨x, rfl, hx1, hx2⟩, hto⟩
  simp
  refine hQ _ _ _ (by simp) ?_
  simp [Tryz.f45]
  exact ⟨by omega, hto.leave hc _⟩

theorem l1PickInt {H : Heap} {c n : Nat} (hc : Cur H c n) {a : Option (Nat × Nat)} {xs : List Int} (hs : Sl H 3 a (xs.map encI)) (hx : xs ≠ []) (hlen : xs.length ≤ 1048576) :
    Runs env 36 [.ptr c 0 0, .w (.lf (.sl a xs.length))] H fun v H' => (∃ x : Int, v = .int x ∧ x ∈ xs) ∧ CurTo H H' c n := by
  have hpos : 0 < xs.length := List.length_pos_iff.2 hx
  refine Runs.walk ok36 Tryz.func36 rfl (by simp [Tryz.f36]) fun Q hQ => ?_
  simp only [Tryz.f36, strip, stripL, stripI, stripG, chkT, tagsB, tagsL, tagD, addT, tagA, lookN, tagOp, elmT, ty22, ty29, ty33, ty39, ty40, ty41, ty42, ty69, ty71, ty95, Nat.reduceEqDiff, if_false, reduceIte, Option.getD_some, Option.getD_none, dstAt, dstOk, Nat.reduceLT, decide_true, if_true]
  simp [builtinV, pureB, lenV]
  refine stpL_runs (l1Below hc xs.length) ?_
  rintro _ H1 ⟨⟨x, rfl, hx1, hx2, -⟩, hto⟩
  have hxl := hx2 (by omega)
  obtain ⟨k, rfl⟩ : ∃ k : Nat, x = (k : Int) := ⟨x.toNat, by omega⟩
  have hk : k < xs.length := by omega
  obtain ⟨id3, r3, bl3, rfl, hb3, hbe3, hrow3⟩ := hs k _ (by rw [List.getElem?_map, List.getElem?_eq_getElem hk]; rfl)
  have hne := hc.ne hb3 (by rw [hbe3]; decide)
  have hb4 := hto.1.blk hb3 (by simpa using hne)
  have hid4 := blkAt_len hb4
  have hkI : (k : Int) < xs.length := by omega
  simp [hb4, hid4, hbe3, hrow3, indexAddrV, elemIs, hk, hkI, encI]
  refine hQ _ _ _ (by simp) ?_
  simp [Tryz.f36]
  exact hto.leave hc _

theorem l6DrawRight {H : Heap} {c n : Nat} (hc : Cur H c n) : Runs env 48 [.ptr c 0 0] H fun v H' => (∃ x : Vec, v = .agg x.enc) ∧ CurTo H H' c n := by
  have hcl := hc.lt
  refine Runs.walk ok48 Tryz.func48 rfl (by simp [Tryz.f48]) fun Q hQ => ?_
  simp only [Tryz.f48, strip, stripL, stripI, stripG, chkT, tagsB, tagsL, tagD, addT, tagA, lookN, tagOp, elmT, ty22, ty29, ty33, ty39, ty40, ty41, ty42, ty69, ty71, ty95, Nat.reduceEqDiff, if_false, reduceIte, Option.getD_some, Option.getD_none, dstAt, dstOk, Nat.reduceLT, decide_true, if_true]
  have fin : ∀ (HF : Heap) (tm : Ab.T) (x : Vec), tm 2 = .ptr H.length 0 0 → blkAt HF H.length = some ⟨25, .wr, [x.enc]⟩ → CurTo H HF c n → Q .ret tm HF := by
    intro HF tm x t2 hb hto
    refine hQ _ _ _ (by simp) ?_
    have hres : resT env.τ tm HF (Tryz.f48.results.toList) = some [W.agg x.enc] := by simp [Tryz.f48, t2, hb]
    rw [hres, optK_some]
    exact ⟨⟨x, rfl⟩, hto.leave hc _⟩
  have hcX := hc.app [some ⟨25, .wr, [[.i .i64 0, .i .i64 0, .i .i64 0, .i .i64 0]]⟩]
  have bzX : blkAt (H ++ [some ⟨25, .wr, [[.i .i64 0, .i .i64 0, .i .i64 0, .i .i64 0]]⟩]) H.length = some ⟨25, .wr, [[.i .i64 0, .i .i64 0, .i .i64 0, .i .i64 0]]⟩ := by simp
  have hlX : (H ++ [some ⟨25, .wr, [[.i .i64 0, .i .i64 0, .i .i64 0, .i .i64 0]]⟩] : Heap).length = H.length + 1 := by simp
  simp
  refine stpL_runs (l1Below hcX 4) ?_
  rintro _ H1 ⟨⟨x, rfl, hx⟩, hto1⟩
  simp
  refine stpL_runs (l1Below hto1.2 4) ?_
  rintro _ H2 ⟨⟨y, rfl, hy⟩, hto2⟩
  have hto := hto1.next hto2
  have bz2 := hto.1.blk bzX (by simp; omega)
  have dz2 := blkAt_len bz2
  have hcc2 := hto.base
  have hl2 := hto.len
  rw [hlX] at hl2
  obtain ⟨r, hr⟩ : ∃ r, r = IntKind.i64.wrap (1 + x) := ⟨_, rfl⟩
  simp [← hr]
  have hcM := hto.2.app [some ⟨25, .wr, [[.i .i64 r, .i .i64 0, .i .i64 0, .i .i64 y]]⟩]
  refine stpL_cur (l1Below hcM 3) hcM (fun v H' h => h.2) ?_
  rintro _ H3 ⟨⟨z, rfl, hz⟩, hto3⟩
  have b3 : blkAt H3 H2.length = some ⟨25, .wr, [[.i .i64 r, .i .i64 0, .i .i64 0, .i .i64 y]]⟩ := hto3.1.blk (by simp) (by simp; omega)
  have bz3 := hto3.1.blk (blkAt_app bz2 _) (by simp; omega)
  have d3 := blkAt_len b3
  have dz3 := blkAt_len bz3
  have hcc3 := hcc2.next hto3.base
  obtain ⟨g, hg⟩ : ∃ g, g = IntKind.i64.wrap (r + z) := ⟨_, rfl⟩
  have hset : ∀ (Y : Heap) (y : Blk), H2.length < Y.length → blkAt (List.set Y H2.length (some y)) H2.length = some y := fun Y y h => blkAt_set h
  have hne3 : ∀ (Y : Heap) (y : Option Blk), blkAt (List.set Y H2.length y) H.length = blkAt Y H.length := fun Y y => blkAt_set_ne (by omega)
  simp [b3, d3, ← hg, hset]
  refine selS_intro (fun hq => ?_) (fun hq => ?_)
  · simp
    have hcS := (hcc3.set (id := H2.length) (by omega) (by omega) (some ⟨25, .wr, [[.i .i64 r, .i .i64 0, .i .i64 g, .i .i64 y]]⟩))
    refine stpL_runs (l1Below hcS.2 3) ?_
    rintro _ H4 ⟨⟨u, rfl, hu⟩, hto4⟩
    have b4 := hto4.1.blk (blkAt_set d3) (by simp; omega)
    have bz4 := hto4.1.blk (show blkAt (H3.set H2.length _) H.length = _ from (hne3 _ _).trans bz3) (by simp; omega)
    have d4 := blkAt_len b4
    have dz4 := blkAt_len bz4
    have hcc4 := hcS.next hto4
    simp [b4, d4, bz4, dz4, hset, hne3]
    refine fin _ _ ⟨_, _, _, _⟩ ?_ (blkAt_set (Nat.lt_of_lt_of_eq dz4 (List.length_set).symm)) ((hcc4.set (by omega) (by omega) _).set (by omega) (by omega) _)
    simp
  · simp [b3, d3, bz3, dz3, hset, hne3]
    refine fin _ _ ⟨_, _, _, _⟩ ?_ (blkAt_set (Nat.lt_of_lt_of_eq dz3 (List.length_set).symm)) ((hcc3.set (by omega) (by omega) _).set (by omega) (by omega) _)
    simp

theorem l6Draw {H : Heap} {c n : Nat} (hc : Cur H c n) : Runs env 35 [.ptr c 0 0] H fun v H' => (∃ x : Vec, v = .agg x.enc) ∧ CurTo H H' c n := by
  have hcl := hc.lt
  refine Runs.walk ok35 Tryz.func35 rfl (by simp [Tryz.f35]) fun Q hQ => ?_
  simp only [Tryz.f35, strip, stripL, stripI, stripG, chkT, tagsB, tagsL, tagD, addT, tagA, lookN, tagOp, elmT, ty22, ty29, ty33, ty39, ty40, ty41, ty42, ty69, ty71, ty95, Nat.reduceEqDiff, if_false, reduceIte, Option.getD_some, Option.getD_none, dstAt, dstOk, Nat.reduceLT, decide_true, if_true]
  have fin : ∀ (HF : Heap) (tm : Ab.T) (x : Vec), tm 2 = .ptr H.length 0 0 → blkAt HF H.length = some ⟨25, .wr, [x.enc]⟩ → CurTo H HF c n → Q .ret tm HF := by
    intro HF tm x t2 hb hto
    refine hQ _ _ _ (by simp) ?_
    have hres : resT env.τ tm HF (Tryz.f35.results.toList) = some [W.agg x.enc] := by simp [Tryz.f35, t2, hb]
    rw [hres, optK_some]
    exact ⟨⟨x, rfl⟩, hto.leave hc _⟩
  have hcX := hc.app [some ⟨25, .wr, [[.i .i64 0, .i .i64 0, .i .i64 0, .i .i64 0]]⟩]
  have bzX : blkAt (H ++ [some ⟨25, .wr, [[.i .i64 0, .i .i64 0, .i .i64 0, .i .i64 0]]⟩]) H.length = some ⟨25, .wr, [[.i .i64 0, .i .i64 0, .i .i64 0, .i .i64 0]]⟩ := by simp
  have hlX : (H ++ [some ⟨25, .wr, [[.i .i64 0, .i .i64 0, .i .i64 0, .i .i64 0]]⟩] : Heap).length = H.length + 1 := by simp
  simp
  refine stpL_runs (l6DrawRight hcX) ?_
  rintro _ H1 ⟨⟨x, rfl⟩, hto1⟩
  have bz1 := hto1.1.blk bzX (by simp; omega)
  have dz1 := blkAt_len bz1
  have hcc1 := hto1.base
  have hl1 := hto1.len
  rw [hlX] at hl1
  simp [Vec.enc]
  have hcM := hto1.2.app [some ⟨25, .wr, [[.i .i64 x.root, .i .i64 x.cost, .i .i64 x.bridge, .i .i64 x.port]]⟩]
  refine stpL_runs (l1Below hcM 10) ?_
  rintro _ H2 ⟨⟨k, rfl, -⟩, hto2⟩
  have b3 : blkAt H2 H1.length = some ⟨25, .wr, [[.i .i64 x.root, .i .i64 x.cost, .i .i64 x.bridge, .i .i64 x.port]]⟩ := hto2.1.blk (by simp) (by simp; omega)
  have bz2 := hto2.1.blk (blkAt_app bz1 _) (by simp; omega)
  have d3 := blkAt_len b3
  have dz2 := blkAt_len bz2
  have hcc2 := hcc1.next hto2.base
  have hne3 : ∀ (Y : Heap) (y : Option Blk), blkAt (List.set Y H1.length y) H.length = blkAt Y H.length := fun Y y => blkAt_set_ne (by omega)
  have hne4 : ∀ (Y : Heap) (y : Blk), H1.length < Y.length → blkAt (List.set Y H1.length (some y)) H1.length = some y := fun Y y h => blkAt_set h
  by_cases c0 : k = 0
  · simp [c0]
    have hcL := hto2.2.app [some ⟨3, .wr, [encI 0, encI 9, encI 10]⟩]
    simp only [encI] at hcL
    refine stpL_runs (l1PickInt (xs := [0, 9, 10]) hcL (Sl.of (by simp [encI])) (by simp) (by simp)) ?_
    rintro _ H3 ⟨⟨y, rfl, -⟩, hto3⟩
    have hto3 := hto3.base
    have b33 := hto3.1.blk b3 (by simp; omega)
    have bz3 := hto3.1.blk bz2 (by simp; omega)
    have d33 := blkAt_len b33
    have dz3 := blkAt_len bz3
    have hcc3 := hcc2.next hto3
    simp [b33, d33, bz3, dz3, hne3, hne4, Vec.enc]
    refine fin _ _ ⟨y, x.cost, x.bridge, x.port⟩ ?_ (blkAt_set (Nat.lt_of_lt_of_eq dz3 (List.length_set).symm)) ((hcc3.set (by omega) (by omega) _).set (by omega) (by omega) _)
    simp
  by_cases c1 : k = 1
  · simp [c1]
    have hcL := hto2.2.app [some ⟨3, .wr, [encI (-1), encI 0, encI 20, encI 21]⟩]
    simp only [encI] at hcL
    refine stpL_runs (l1PickInt (xs := [(-1), 0, 20, 21]) hcL (Sl.of (by simp [encI])) (by simp) (by simp)) ?_
    rintro _ H3 ⟨⟨y, rfl, -⟩, hto3⟩
    have hto3 := hto3.base
    have b33 := hto3.1.blk b3 (by simp; omega)
    have bz3 := hto3.1.blk bz2 (by simp; omega)
    have d33 := blkAt_len b33
    have dz3 := blkAt_len bz3
    have hcc3 := hcc2.next hto3
    simp [b33, d33, bz3, dz3, hne3, hne4, Vec.enc]
    refine fin _ _ ⟨x.root, y, x.bridge, x.port⟩ ?_ (blkAt_set (Nat.lt_of_lt_of_eq dz3 (List.length_set).symm)) ((hcc3.set (by omega) (by omega) _).set (by omega) (by omega) _)
    simp
  by_cases c2 : k = 2
  · simp [c2]
    have hcL := hto2.2.app [some ⟨3, .wr, [encI 0, encI 9, encI 10]⟩]
    simp only [encI] at hcL
    refine stpL_runs (l1PickInt (xs := [0, 9, 10]) hcL (Sl.of (by simp [encI])) (by simp) (by simp)) ?_
    rintro _ H3 ⟨⟨y, rfl, -⟩, hto3⟩
    have hto3 := hto3.base
    have b33 := hto3.1.blk b3 (by simp; omega)
    have bz3 := hto3.1.blk bz2 (by simp; omega)
    have d33 := blkAt_len b33
    have dz3 := blkAt_len bz3
    have hcc3 := hcc2.next hto3
    simp [b33, d33, bz3, dz3, hne3, hne4, Vec.enc]
    refine fin _ _ ⟨x.root, x.cost, y, x.port⟩ ?_ (blkAt_set (Nat.lt_of_lt_of_eq dz3 (List.length_set).symm)) ((hcc3.set (by omega) (by omega) _).set (by omega) (by omega) _)
    simp
  by_cases c3 : k = 3
  · simp [c3]
    have hcL := hto2.2.app [some ⟨3, .wr, [encI (-1), encI 3, encI 4]⟩]
    simp only [encI] at hcL
    refine stpL_runs (l1PickInt (xs := [(-1), 3, 4]) hcL (Sl.of (by simp [encI])) (by simp) (by simp)) ?_
    rintro _ H3 ⟨⟨y, rfl, -⟩, hto3⟩
    have hto3 := hto3.base
    have b33 := hto3.1.blk b3 (by simp; omega)
    have bz3 := hto3.1.blk bz2 (by simp; omega)
    have d33 := blkAt_len b33
    have dz3 := blkAt_len bz3
    have hcc3 := hcc2.next hto3
    simp [b33, d33, bz3, dz3, hne3, hne4, Vec.enc]
    refine fin _ _ ⟨x.root, x.cost, x.bridge, y⟩ ?_ (blkAt_set (Nat.lt_of_lt_of_eq dz3 (List.length_set).symm)) ((hcc3.set (by omega) (by omega) _).set (by omega) (by omega) _)
    simp
  simp [c0, c1, c2, c3, b3, d3, bz2, dz2]
  refine fin _ _ ⟨_, _, _, _⟩ ?_ (blkAt_set dz2) (hcc2.set (by omega) (by omega) _)
  simp

theorem l8DrawIn {H : Heap} {c n : Nat} (hc : Cur H c n) : Runs env 54 [.ptr c 0 0] H fun v H' => (∃ x : In, v = .agg x.enc) ∧ CurTo H H' c n := by
  have hcl := hc.lt
  refine Runs.walk ok54 Tryz.func54 rfl (by simp [Tryz.f54]) fun Q hQ => ?_
  simp only [Tryz.f54, strip, stripL, stripI, stripG, chkT, tagsB, tagsL, tagD, addT, tagA, lookN, tagOp, elmT, ty22, ty29, ty33, ty39, ty40, ty41, ty42, ty69, ty71, ty95, Nat.reduceEqDiff, if_false, reduceIte, Option.getD_some, Option.getD_none, dstAt, dstOk, Nat.reduceLT, decide_true, if_true]
  have fin : ∀ (HF : Heap) (tm : Ab.T) (x : In), tm 2 = .ptr H.length 0 0 → blkAt HF H.length = some ⟨78, .wr, [x.enc]⟩ → CurTo H HF c n → Q .ret tm HF := by
    intro HF tm x t2 hb hto
    refine hQ _ _ _ (by simp) ?_
    have hres : resT env.τ tm HF (Tryz.f54.results.toList) = some [W.agg x.enc] := by simp [Tryz.f54, t2, hb]
    rw [hres, optK_some]
    exact ⟨⟨x, rfl⟩, hto.leave hc _⟩
  have hcX := hc.app [some ⟨78, .wr, [[.i .i64 0, .i .i64 0, .i .i64 0, .i .i64 0, .i .i64 0, .i .i64 0, .i .i64 0, .b false]]⟩]
  have bzX : blkAt (H ++ [some ⟨78, .wr, [[.i .i64 0, .i .i64 0, .i .i64 0, .i .i64 0, .i .i64 0, .i .i64 0, .i .i64 0, .b false]]⟩]) H.length = some ⟨78, .wr, [[.i .i64 0, .i .i64 0, .i .i64 0, .i .i64 0, .i .i64 0, .i .i64 0, .i .i64 0, .b false]]⟩ := by simp
  have hlX : (H ++ [some ⟨78, .wr, [[.i .i64 0, .i .i64 0, .i .i64 0, .i .i64 0, .i .i64 0, .i .i64 0, .i .i64 0, .b false]]⟩] : Heap).length = H.length + 1 := by simp
  simp
  refine stpL_runs (l1Below hcX 4) ?_
  rintro _ H1 ⟨⟨p, rfl, -⟩, hto1⟩
  have bz1 := hto1.1.blk bzX (by simp; omega)
  have hcc1 := hto1.base
  have hl1 := hto1.len
  rw [hlX] at hl1
  simp
  refine stpL_runs (l1Below hto1.2 4) ?_
  rintro _ H2 ⟨⟨k, rfl, -⟩, hto2⟩
  have bz2 := hto2.1.blk bz1 (by simp; omega)
  have dz2 := blkAt_len bz2
  have hcc2 := hcc1.next hto2
  by_cases c0 : k = 0
  · simp [c0, bz2, dz2]
    refine fin _ _ ⟨_, _, ⟨_, _, _, _⟩, _, _⟩ ?_ (blkAt_set dz2) (hcc2.set (by omega) (by omega) _)
    simp
  by_cases c1 : k = 1
  · simp [c1]
    refine stpL_runs (l1Once hto2.2 3) ?_
    rintro _ H3 ⟨⟨b, rfl⟩, hto3⟩
    have bz3 := hto3.1.blk bz2 (by simp; omega)
    have dz3 := blkAt_len bz3
    simp [bz3, dz3]
    refine fin _ _ ⟨_, _, ⟨_, _, _, _⟩, _, _⟩ ?_ (blkAt_set dz3) ((hcc2.next hto3).set (by omega) (by omega) _)
    simp
  simp [c0, c1]
  refine stpL_runs (l6DrawRight hto2.2) ?_
  rintro _ H3 ⟨⟨v, rfl⟩, hto3⟩
  have bz3 := hto3.1.blk bz2 (by simp; omega)
  simp
  refine stpL_runs (l1Below hto3.2 4) ?_
  rintro _ H4 ⟨⟨h, rfl, -⟩, hto4⟩
  have bz4 := hto4.1.blk bz3 (by simp; omega)
  have dz4 := blkAt_len bz4
  simp [bz4, dz4, Vec.enc]
  refine fin _ _ ⟨_, _, ⟨_, _, _, _⟩, _, _⟩ ?_ (blkAt_set dz4) (((hcc2.next hto3).next hto4).set (by omega) (by omega) _)
  simp

theorem l8DrawBent {H : Heap} {c n : Nat} (hc : Cur H c n) : Runs env 39 [.ptr c 0 0] H fun v H' => (∃ x : In, v = .agg x.enc) ∧ CurTo H H' c n := by
  have hcl := hc.lt
  refine Runs.walk ok39 Tryz.func39 rfl (by simp [Tryz.f39]) fun Q hQ => ?_
  simp only [Tryz.f39, strip, stripL, stripI, stripG, chkT, tagsB, tagsL, tagD, addT, tagA, lookN, tagOp, elmT, ty22, ty29, ty33, ty39, ty40, ty41, ty42, ty69, ty71, ty95, Nat.reduceEqDiff, if_false, reduceIte, Option.getD_some, Option.getD_none, dstAt, dstOk, Nat.reduceLT, decide_true, if_true]
  have fin : ∀ (HF : Heap) (tm : Ab.T) (x : In), tm 2 = .ptr H.length 0 0 → blkAt HF H.length = some ⟨78, .wr, [x.enc]⟩ → CurTo H HF c n → Q .ret tm HF := by
    intro HF tm x t2 hb hto
    refine hQ _ _ _ (by simp) ?_
    have hres : resT env.τ tm HF (Tryz.f39.results.toList) = some [W.agg x.enc] := by simp [Tryz.f39, t2, hb]
    rw [hres, optK_some]
    exact ⟨⟨x, rfl⟩, hto.leave hc _⟩
  have hcX := hc.app [some ⟨78, .wr, [[.i .i64 0, .i .i64 0, .i .i64 0, .i .i64 0, .i .i64 0, .i .i64 0, .i .i64 0, .b false]]⟩]
  have bzX : blkAt (H ++ [some ⟨78, .wr, [[.i .i64 0, .i .i64 0, .i .i64 0, .i .i64 0, .i .i64 0, .i .i64 0, .i .i64 0, .b false]]⟩]) H.length = some ⟨78, .wr, [[.i .i64 0, .i .i64 0, .i .i64 0, .i .i64 0, .i .i64 0, .i .i64 0, .i .i64 0, .b false]]⟩ := by simp
  have hlX : (H ++ [some ⟨78, .wr, [[.i .i64 0, .i .i64 0, .i .i64 0, .i .i64 0, .i .i64 0, .i .i64 0, .i .i64 0, .b false]]⟩] : Heap).length = H.length + 1 := by simp
  simp
  refine stpL_runs (l8DrawIn hcX) ?_
  rintro _ H1 ⟨⟨x, rfl⟩, hto1⟩
  have bz1 := hto1.1.blk bzX (by simp; omega)
  have dz1 := blkAt_len bz1
  have hcc1 := hto1.base
  have hl1 := hto1.len
  rw [hlX] at hl1
  simp [In.enc]
  have hcM := hto1.2.app [some ⟨78, .wr, [[.i .i64 x.kind, .i .i64 x.port, .i .i64 x.vec.root, .i .i64 x.vec.cost, .i .i64 x.vec.bridge, .i .i64 x.vec.port, .i .i64 x.hops, .b x.up]]⟩]
  refine stpL_runs (l1Below hcM 12) ?_
  rintro _ H2 ⟨⟨k, rfl, -⟩, hto2⟩
  have b3 : blkAt H2 H1.length = some ⟨78, .wr, [[.i .i64 x.kind, .i .i64 x.port, .i .i64 x.vec.root, .i .i64 x.vec.cost, .i .i64 x.vec.bridge, .i .i64 x.vec.port, .i .i64 x.hops, .b x.up]]⟩ := hto2.1.blk (by simp) (by simp; omega)
  have bz2 := hto2.1.blk (blkAt_app bz1 _) (by simp; omega)
  have d3 := blkAt_len b3
  have dz2 := blkAt_len bz2
  have hcc2 := hcc1.next hto2.base
  have hne3 : ∀ (Y : Heap) (y : Option Blk), blkAt (List.set Y H1.length y) H.length = blkAt Y H.length := fun Y y => blkAt_set_ne (by omega)
  have hne4 : ∀ (Y : Heap) (y : Blk), H1.length < Y.length → blkAt (List.set Y H1.length (some y)) H1.length = some y := fun Y y h => blkAt_set h
  by_cases c0 : k = 0
  · simp [c0]
    refine stpL_runs (l1Below hto2.2 6) ?_
    rintro _ H3 ⟨⟨y, rfl, -⟩, hto3⟩
    have b33 := hto3.1.blk b3 (by simp; omega)
    have bz3 := hto3.1.blk bz2 (by simp; omega)
    have d33 := blkAt_len b33
    have dz3 := blkAt_len bz3
    have hcc3 := hcc2.next hto3
    simp [b33, d33, bz3, dz3, hne3, hne4, Vec.enc]
    refine fin _ _ ⟨IntKind.i64.wrap (y - 1), x.port, x.vec, x.hops, x.up⟩ ?_ (blkAt_set (Nat.lt_of_lt_of_eq dz3 (List.length_set).symm)) ((hcc3.set (by omega) (by omega) _).set (by omega) (by omega) _)
    simp
  by_cases c1 : k = 1
  · simp [c1]
    have hcL := hto2.2.app [some ⟨3, .wr, [encI (-1), encI 3, encI 4]⟩]
    simp only [encI] at hcL
    refine stpL_runs (l1PickInt (xs := [(-1), 3, 4]) hcL (Sl.of (by simp [encI])) (by simp) (by simp)) ?_
    rintro _ H3 ⟨⟨y, rfl, -⟩, hto3⟩
    have hto3 := hto3.base
    have b33 := hto3.1.blk b3 (by simp; omega)
    have bz3 := hto3.1.blk bz2 (by simp; omega)
    have d33 := blkAt_len b33
    have dz3 := blkAt_len bz3
    have hcc3 := hcc2.next hto3
    simp [b33, d33, bz3, dz3, hne3, hne4, Vec.enc]
    refine fin _ _ ⟨x.kind, y, x.vec, x.hops, x.up⟩ ?_ (blkAt_set (Nat.lt_of_lt_of_eq dz3 (List.length_set).symm)) ((hcc3.set (by omega) (by omega) _).set (by omega) (by omega) _)
    simp
  by_cases c2 : k = 2
  · simp [c2]
    refine stpL_runs (l6Draw hto2.2) ?_
    rintro _ H3 ⟨⟨y, rfl⟩, hto3⟩
    have b33 := hto3.1.blk b3 (by simp; omega)
    have bz3 := hto3.1.blk bz2 (by simp; omega)
    have d33 := blkAt_len b33
    have dz3 := blkAt_len bz3
    have hcc3 := hcc2.next hto3
    simp [b33, d33, bz3, dz3, hne3, hne4, Vec.enc]
    refine fin _ _ ⟨x.kind, x.port, y, x.hops, x.up⟩ ?_ (blkAt_set (Nat.lt_of_lt_of_eq dz3 (List.length_set).symm)) ((hcc3.set (by omega) (by omega) _).set (by omega) (by omega) _)
    simp
  by_cases c3 : k = 3
  · simp [c3]
    have hcL := hto2.2.app [some ⟨3, .wr, [encI (-1), encI 8, encI 9]⟩]
    simp only [encI] at hcL
    refine stpL_runs (l1PickInt (xs := [(-1), 8, 9]) hcL (Sl.of (by simp [encI])) (by simp) (by simp)) ?_
    rintro _ H3 ⟨⟨y, rfl, -⟩, hto3⟩
    have hto3 := hto3.base
    have b33 := hto3.1.blk b3 (by simp; omega)
    have bz3 := hto3.1.blk bz2 (by simp; omega)
    have d33 := blkAt_len b33
    have dz3 := blkAt_len bz3
    have hcc3 := hcc2.next hto3
    simp [b33, d33, bz3, dz3, hne3, hne4, Vec.enc]
    refine fin _ _ ⟨x.kind, x.port, x.vec, y, x.up⟩ ?_ (blkAt_set (Nat.lt_of_lt_of_eq dz3 (List.length_set).symm)) ((hcc3.set (by omega) (by omega) _).set (by omega) (by omega) _)
    simp
  simp [c0, c1, c2, c3, b3, d3, bz2, dz2]
  refine fin _ _ ⟨_, _, ⟨_, _, _, _⟩, _, _⟩ ?_ (blkAt_set dz2) (hcc2.set (by omega) (by omega) _)
  simp

theorem l1New {H : Heap} {a : Option (Nat × Nat)} {bs : List Int} (hs : Sl H 5 a (bs.map encU)) (hn : bs.length ≤ 1048576) : Runs env 18 [.w (.lf (.sl a bs.length))] H fun v H' => ∃ c, v = .ptr c 0 0 ∧ Cur H' c bs.length ∧ H.length ≤ c ∧ Keep [] H H' := by
  have hw : IntKind.i64.wrap (27397 + (bs.length : Int)) = 27397 + (bs.length : Int) := wrap64 (by omega) (by omega)
  refine Runs.walk ok18 Tryz.func18 rfl (by simp [Tryz.f18]) fun Q hQ => ?_
  simp only [Tryz.f18, strip, stripL, stripI, stripG, chkT, tagsB, tagsL, tagD, addT, tagA, lookN, tagOp, elmT, ty22, ty29, ty33, ty39, ty40, ty41, ty42, ty69, ty71, ty95, Nat.reduceEqDiff, if_false, reduceIte, Option.getD_some, Option.getD_none, dstAt, dstOk, Nat.reduceLT, decide_true, if_true]
  have fin : ∀ (tm : Ab.T) (h : Int), tm 2 = .ptr H.length 0 0 → Q .ret tm (H ++ [some ⟨76, .wr, [[.sl a bs.length, .i .i64 0, .i .i64 h]]⟩]) := by
    intro tm h t2
    refine hQ _ _ _ (by simp) ?_
    simp [Tryz.f18, t2, leave, refFree]
    refine ⟨⟨a, 0, h, bs, by simp, by omega, by omega, rfl, hn, fun id r he hb => ?_, hs.app _⟩, Keep.app _ _ _⟩
    subst he
    exact hs.len (by simpa using hb)
  simp [builtinV, pureB, lenV, hw]
  refine wpS_loop (fun j tm H' => ∃ (i : Nat) (h : Int), i + j = bs.length ∧ tm 0 = .w (.lf (.sl a bs.length)) ∧ tm 3 = .int h ∧ tm 4 = .int i ∧ H' = H) bs.length (by rw [env_K]; omega) ⟨0, 27397 + bs.length, by simp, by simp, by simp, by simp, rfl⟩ ?_
  rintro j tm H1 hj ⟨i, h, hij, t0, t3, t4, rfl⟩ Q2 hn2 he2 hr2
  simp [t0, t3, t4, builtinV, pureB, lenV]
  have out : ∀ tm : Ab.T, tm 0 = .w (.lf (.sl a bs.length)) → tm 3 = .int h → Q2 (.exit 0) tm H1 := by
    intro tm s0 s3
    refine he2 _ _ _ ?_
    simp [s0, s3]
    refine fin _ h ?_
    simp
  by_cases hc1 : (i : Int) < bs.length
  · have hk : i < bs.length := by omega
    by_cases hc2 : (i : Int) < 4000
    · obtain ⟨id3, r3, bl3, rfl, hb3, hbe3, hrow3⟩ := hs i _ (by rw [List.getElem?_map, List.getElem?_eq_getElem hk]; rfl)
      have hid3 := blkAt_len hb3
      have hw2 : IntKind.i64.wrap ((i : Int) + 1) = (i : Int) + 1 := wrap64 (by omega) (by omega)
      have hc2' : i < 4000 := by omega
      simp [hc1, hk, hc2, hc2', t0, t3, t4, hb3, hid3, hbe3, hrow3, indexAddrV, elemIs, encU, binV, binInt, cmpI, arI, IntKind.bits, convV, hw2]
      refine hn2 (j - 1) _ _ (by omega) ⟨i + 1, _, by omega, by simp [t0], by simp; rfl, by simp, rfl⟩
    · have hc2' : ¬ i < 4000 := by omega
      simp [hc1, hk, hc2, hc2', t0, t3, t4]
      exact out _ (by simp [t0]) (by simp [t3])
  · have hk : ¬ i < bs.length := by omega
    simp [hc1, hk, t0, t3, t4]
    exact out _ (by simp [t0]) (by simp [t3])

theorem l15DrawDeed {H : Heap} {c n : Nat} (hc : Cur H c n) {l : List Lf} {x : Box} (h : RdBox H l x) (hn : x.net.length ≤ 1048576) : Runs env 72 [.ptr c 0 0, .agg l] H fun v H' => (∃ d : Deed, v = .agg d.enc ∧ 1 ≤ d.kind ∧ d.kind ≤ 12) ∧ CurTo H H' c n := by
  have hcl := hc.lt
  obtain ⟨q0, q1, q2, q3, q4, rfl, -, ⟨a1, rfl, -⟩, -⟩ := h
  refine Runs.walk ok72 Tryz.func72 rfl (by simp [Tryz.f72]) fun Q hQ => ?_
  simp only [Tryz.f72, strip, stripL, stripI, stripG, chkT, tagsB, tagsL, tagD, addT, tagA, lookN, tagOp, elmT, ty22, ty29, ty33, ty39, ty40, ty41, ty42, ty69, ty71, ty95, Nat.reduceEqDiff, if_false, reduceIte, Option.getD_some, Option.getD_none, dstAt, dstOk, Nat.reduceLT, decide_true, if_true]
  obtain ⟨X, hX⟩ : ∃ X : Heap, X = H ++ [some ⟨44, .wr, [[.i .i64 x.id, .i .i64 x.ports, .i .i64 x.reg.epoch, .i .i64 x.reg.owner, .i .i64 x.reg.pair, q0, .sl a1 x.net.length, q2, q3, q4]]⟩, some ⟨117, .wr, [[.i .i64 0, .i .i64 0, .i .i64 0, .i .i64 0, .i .i64 0, .i .i64 0, .i .i64 0, .i .i64 0, .i .i64 0, .b false]]⟩] := ⟨_, rfl⟩
  have b0X : blkAt X H.length = some ⟨44, .wr, [[.i .i64 x.id, .i .i64 x.ports, .i .i64 x.reg.epoch, .i .i64 x.reg.owner, .i .i64 x.reg.pair, q0, .sl a1 x.net.length, q2, q3, q4]]⟩ := by rw [hX]; simp
  have bzX : blkAt X (H.length + 1) = some ⟨117, .wr, [[.i .i64 0, .i .i64 0, .i .i64 0, .i .i64 0, .i .i64 0, .i .i64 0, .i .i64 0, .i .i64 0, .i .i64 0, .b false]]⟩ := by rw [hX]; simp
  have hcX : CurTo H X c n := by rw [hX]; exact (CurTo.refl hc).app _
  simp [Box.enc]
  rw [← hX]
  have hlX : X.length = H.length + 2 := by rw [hX]; simp
  clear hX
  have fin : ∀ (HF : Heap) (tm : Ab.T) (d : Deed) (L : List Lf), L = d.enc → tm 4 = .ptr (H.length + 1) 0 0 → H.length + 1 < HF.length → CurTo H HF c n → 1 ≤ d.kind → d.kind ≤ 12 → Q .ret tm (HF.set (H.length + 1) (some ⟨117, .wr, [L]⟩)) := by
    intro HF tm d L hL t4 hlt hto h1 h2
    subst hL
    refine hQ _ _ _ (by simp) ?_
    have hb : blkAt (HF.set (H.length + 1) (some ⟨117, .wr, [d.enc]⟩)) (H.length + 1) = some ⟨117, .wr, [d.enc]⟩ := blkAt_set hlt
    have hres : resT env.τ tm (HF.set (H.length + 1) (some ⟨117, .wr, [d.enc]⟩)) (Tryz.f72.results.toList) = some [W.agg d.enc] := by simp [Tryz.f72, t4, hb]
    rw [hres, optK_some]
    exact ⟨⟨d, rfl, h1, h2⟩, (hto.set (by omega) (by omega) _).leave hc _⟩
  refine stpL_runs (l1Below hcX.2 2) ?_
  rintro _ H1 ⟨⟨w, rfl, -⟩, hto1⟩
  simp
  refine stpL_runs (l1Below hto1.2 18) ?_
  rintro _ H2 ⟨⟨k, rfl, -⟩, hto2⟩
  have hto := hto1.next hto2
  have b0 := hto.1.blk b0X (by simp; omega)
  have bz := hto.1.blk bzX (by simp; omega)
  have d0 := blkAt_len b0
  have dz := blkAt_len bz
  have hcc := hcX.next hto
  have hne : ∀ (Y : Heap) (y : Option Blk) (i : Nat), H.length + 1 < i → blkAt (List.set Y i y) (H.length + 1) = blkAt Y (H.length + 1) := fun Y y i h => blkAt_set_ne (by omega)
  have shut : ∀ (tm : Ab.T) (kd a : Int), 1 ≤ kd → kd ≤ 12 → tm 4 = .ptr (H.length + 1) 0 0 → Q .ret tm (H2.set (H.length + 1) (some ⟨117, .wr, [[.i .i64 kd, .i .i64 a, .i .i64 0, .i .i64 0, .i .i64 0, .i .i64 0, .i .i64 0, .i .i64 0, .i .i64 0, .b false]]⟩)) := fun tm kd a h1 h2 t4 => fin _ tm ⟨kd, a, ⟨0, 0, ⟨0, 0, 0, 0⟩, 0, false⟩⟩ _ rfl t4 dz hcc h1 h2
  by_cases c012 : k = 0 ∨ k = 1 ∨ k = 2
  · rcases c012 with rfl | rfl | rfl
    all_goals
      simp
      refine stpL_runs (l8DrawIn hto2.2) ?_
      rintro _ H3 ⟨⟨y, rfl⟩, hto3⟩
      have b03 := hto3.1.blk b0 (by simp; omega)
      have bz3 := hto3.1.blk bz (by simp; omega)
      have d03 := blkAt_len b03
      have dz3 := blkAt_len bz3
      have hcc3 := hcc.next hto3
      have hl3 := hcc3.len
      have hl23 := hto3.len
      have hl12 := hto.len
      simp [In.enc]
      by_cases ck : y.kind = 2
      · have bz3A := fun G => blkAt_app bz3 G
        have g9 : H.length + 1 < H3.length + 1 := by omega
        simp [ck, bz3A, g9, -set_lt]
        refine fin _ _ ⟨1, 0, ⟨2, y.port, y.vec, y.hops, y.up⟩⟩ _ rfl ?_ (by simp; omega) (hcc3.app _) (by simp) (by simp)
        simp
      · have b03A := fun G => blkAt_app b03 G
        simp [ck, b03A, show H.length < H3.length + 1 by omega, l1Max]
        have hcM := (hto3.app [some ⟨78, .wr, [[.i .i64 y.kind, .i .i64 y.port, .i .i64 y.vec.root, .i .i64 y.vec.cost, .i .i64 y.vec.bridge, .i .i64 y.vec.port, .i .i64 y.hops, .b y.up]]⟩])
        refine stpL_runs (l1Below hcM.2 (max x.ports 1)) ?_
        rintro _ H4 ⟨⟨z, rfl, -⟩, hto4⟩
        have b7 : blkAt H4 H3.length = some ⟨78, .wr, [[.i .i64 y.kind, .i .i64 y.port, .i .i64 y.vec.root, .i .i64 y.vec.cost, .i .i64 y.vec.bridge, .i .i64 y.vec.port, .i .i64 y.hops, .b y.up]]⟩ := hto4.1.blk (by simp) (by simp; omega)
        have bz4 := hto4.1.blk (blkAt_app bz3 _) (by simp; omega)
        have d7 := blkAt_len b7
        have dz4 := blkAt_len bz4
        have hset7 : ∀ y : Blk, blkAt (List.set H4 H3.length (some y)) H3.length = some y := fun y => blkAt_set d7
        have hne7 : ∀ y : Option Blk, blkAt (List.set H4 H3.length y) (H.length + 1) = blkAt H4 (H.length + 1) := fun y => blkAt_set_ne (by omega)
        simp [b7, d7, hset7, hne7, bz4, dz4]
        refine fin _ _ ⟨1, 0, ⟨y.kind, z, y.vec, y.hops, y.up⟩⟩ _ rfl ?_ (by simpa using dz4) (((hcc3.app _).next hto4).set (by omega) (by omega) _) (by simp) (by simp)
        simp
  have n0 : ¬ k = 0 := fun h => c012 (.inl h)
  have n1 : ¬ k = 1 := fun h => c012 (.inr (.inl h))
  have n2 : ¬ k = 2 := fun h => c012 (.inr (.inr h))
  by_cases c345 : k = 3 ∨ k = 4 ∨ k = 5
  · rcases c345 with rfl | rfl | rfl
    all_goals
      simp [bz, dz]
      refine shut _ 2 _ (by omega) (by omega) ?_
      simp
  have n3 : ¬ k = 3 := fun h => c345 (.inl h)
  have n4 : ¬ k = 4 := fun h => c345 (.inr (.inl h))
  have n5 : ¬ k = 5 := fun h => c345 (.inr (.inr h))
  by_cases c6789 : k = 6 ∨ k = 7 ∨ k = 8 ∨ k = 9
  · rcases c6789 with rfl | rfl | rfl | rfl
    all_goals
      simp [b0, d0, builtinV, pureB, lenV, l1Max]
      refine stpL_runs (l1Below hto2.2 (max (x.net.length : Int) 1)) ?_
      rintro _ H3 ⟨⟨z, rfl, -⟩, hto3⟩
      have bz3 := hto3.1.blk bz (by simp; omega)
      have dz3 := blkAt_len bz3
      simp [bz3, dz3]
      refine fin _ _ ⟨3, z, ⟨0, 0, ⟨0, 0, 0, 0⟩, 0, false⟩⟩ _ rfl ?_ dz3 (hcc.next hto3) (by simp) (by simp)
      simp
  have n6 : ¬ k = 6 := fun h => c6789 (.inl h)
  have n7 : ¬ k = 7 := fun h => c6789 (.inr (.inl h))
  have n8 : ¬ k = 8 := fun h => c6789 (.inr (.inr (.inl h)))
  have n9 : ¬ k = 9 := fun h => c6789 (.inr (.inr (.inr h)))
  by_cases c10 : k = 10 ∨ k = 11
  · rcases c10 with rfl | rfl
    all_goals
      simp [bz, dz]
      refine shut _ 6 0 (by omega) (by omega) ?_
      simp
  have n10 : ¬ k = 10 := fun h => c10 (.inl h)
  have n11 : ¬ k = 11 := fun h => c10 (.inr h)
  by_cases c12 : k = 12
  · subst c12
    simp [bz, dz]
    refine shut _ 10 _ (by omega) (by omega) ?_
    simp
  by_cases c13 : k = 13
  · subst c13
    simp
    have hcL := hto2.2.app [some ⟨3, .wr, [encI 4, encI 5, encI 11]⟩]
    simp only [encI] at hcL
    refine stpL_runs (l1PickInt (xs := [4, 5, 11]) hcL (Sl.of (by simp [encI])) (by simp) (by simp)) ?_
    rintro _ H3 ⟨⟨z, rfl, hz⟩, hto3⟩
    have hto3 := hto3.base
    have bz3 := hto3.1.blk bz (by simp; omega)
    have dz3 := blkAt_len bz3
    simp [bz3, dz3]
    refine fin _ _ ⟨z, _, ⟨0, 0, ⟨0, 0, 0, 0⟩, 0, false⟩⟩ _ rfl ?_ dz3 (hcc.next hto3) (by simp at hz; simp only; omega) (by simp at hz; simp only; omega)
    simp
  by_cases c14 : k = 14
  · subst c14
    simp [bz, dz]
    refine shut _ 7 _ (by omega) (by omega) ?_
    simp
  by_cases c15 : k = 15
  · subst c15
    simp [bz, dz]
    refine shut _ 8 _ (by omega) (by omega) ?_
    simp
  by_cases c16 : k = 16
  · subst c16
    simp [bz, dz]
    refine shut _ 9 _ (by omega) (by omega) ?_
    simp
  · simp [n0, n1, n2, n3, n4, n5, n6, n7, n8, n9, n10, n11, c12, c13, c14, c15, c16, bz, dz]
    refine shut _ 12 _ (by omega) (by omega) ?_
    simp

theorem l15DrawRun {H : Heap} {c n : Nat} (hc : Cur H c n) (most : Int) (hm0 : 0 ≤ most) (hm1 : most ≤ 1000) : Runs env 56 [.ptr c 0 0, .int most] H fun v H' => (∃ (l : List Lf) (x : Box) (fp : List Nat) (q : Lf) (ds : List Deed) (fd : List Nat) (l2 : List Lf) (y : Box) (fp2 : List Nat), v = .tup [.agg l, .lf q, .agg l2] ∧ IsBox H' l x fp ∧ IsDeedS H' q ds fd ∧ IsBox H' l2 y fp2 ∧ x.ok = true ∧ y.ok = true ∧ (boxNew x.id x.ports).2 = true ∧ ds.length ≤ most ∧ (∀ i ∈ fp, H.length ≤ i) ∧ (∀ i ∈ fd, H.length ≤ i) ∧ (∀ i ∈ fp2, H.length ≤ i) ∧ (∀ i ∈ fp2, i ∉ fd) ∧ ∀ i ∈ fp, i ∉ fd ∧ i ∉ fp2) ∧ CurTo H H' c n := by
  have hcl := hc.lt
  refine Runs.walk ok56 Tryz.func56 rfl (by simp [Tryz.f56]) fun Q hQ => ?_
  simp only [Tryz.f56, strip, stripL, stripI, stripG, chkT, tagsB, tagsL, tagD, addT, tagA, lookN, tagOp, elmT, ty22, ty29, ty33, ty39, ty40, ty41, ty42, ty69, ty71, ty95, Nat.reduceEqDiff, if_false, reduceIte, Option.getD_some, Option.getD_none, dstAt, dstOk, Nat.reduceLT, decide_true, if_true]
  obtain ⟨X, hX⟩ : ∃ X : Heap, X = H ++ [some ⟨44, .wr, [[.i .i64 0, .i .i64 0, .i .i64 0, .i .i64 0, .i .i64 0, .sl none 0, .sl none 0, .sl none 0, .sl none 0, .sl none 0]]⟩, some ⟨44, .wr, [[.i .i64 0, .i .i64 0, .i .i64 0, .i .i64 0, .i .i64 0, .sl none 0, .sl none 0, .sl none 0, .sl none 0, .sl none 0]]⟩] := ⟨_, rfl⟩
  have bzX : blkAt X H.length = some ⟨44, .wr, [[.i .i64 0, .i .i64 0, .i .i64 0, .i .i64 0, .i .i64 0, .sl none 0, .sl none 0, .sl none 0, .sl none 0, .sl none 0]]⟩ := by rw [hX]; simp
  have bwX : blkAt X (H.length + 1) = some ⟨44, .wr, [[.i .i64 0, .i .i64 0, .i .i64 0, .i .i64 0, .i .i64 0, .sl none 0, .sl none 0, .sl none 0, .sl none 0, .sl none 0]]⟩ := by rw [hX]; simp
  have hcX : CurTo H X c n := by rw [hX]; exact (CurTo.refl hc).app _
  simp
  rw [← hX]
  have hlX : X.length = H.length + 2 := by rw [hX]; simp
  clear hX
  refine stpL_runs (l1Below hcX.2 5) ?_
  rintro _ H1 ⟨⟨a, rfl, ha0, ha1, -⟩, hto1⟩
  simp
  refine stpL_runs (l1Below hto1.2 4) ?_
  rintro _ H2 ⟨⟨b, rfl, hb0, hb1, -⟩, hto2⟩
  have hto := hto1.next hto2
  have w1 : IntKind.i64.wrap (1 + a) = 1 + a := wrap64 (by omega) (by omega)
  have w2 : IntKind.i64.wrap (1 + b) = 1 + b := wrap64 (by omega) (by omega)
  simp [w1, w2]
  refine stpL_runs (specBoxNew_is (1 + a) (by unfold I64; omega) (1 + b) (by unfold I64; omega)) ?_
  rintro _ _ ⟨l1, f1, rfl, o1, ⟨⟨G3, rfl⟩, hf1⟩⟩
  have hbn : (bridgeNew (1 + a) (1 + b)).2 = true := by unfold bridgeNew; rw [if_pos (by simp; omega)]
  have hbx : boxNew (1 + a) (1 + b) = (⟨1 + a, 1 + b, ⟨1, 0, 0⟩, [newM0, newM1], [], List.replicate (1 + b).toNat false, [], []⟩, true) := by simp [boxNew, hbn]
  have hx0 := boxNew_ok hbn
  have hxid : (boxNew (boxNew (1 + a) (1 + b)).1.id (boxNew (1 + a) (1 + b)).1.ports).2 = true := by rw [hbx]; simp only; rw [hbx]
  rw [show (boxNew (1 + a) (1 + b)).1 = (⟨1 + a, 1 + b, ⟨1, 0, 0⟩, [newM0, newM1], [], List.replicate (1 + b).toNat false, [], []⟩ : Box) by rw [hbx]] at o1 hxid
  obtain ⟨x0, hx0d⟩ : ∃ x0 : Box, x0 = ⟨1 + a, 1 + b, ⟨1, 0, 0⟩, [newM0, newM1], [], List.replicate (1 + b).toNat false, [], []⟩ := ⟨_, rfl⟩
  rw [← hx0d] at o1 hx0 hxid
  have hs0 := (Box.smallOf hx0).1.sz
  have hL1 := o1.len
  have hT1 : l1.take l1.length = l1 := List.take_length
  rw [hL1] at hT1
  have hlt1 := o1.lt
  simp [hL1, hT1]
  have o1a := o1.app [some ⟨44, .wr, [l1]⟩]
  have hcp := specCopyBox o1a.rd (by omega)
  rw [List.append_assoc] at hcp o1a
  refine stpL_runs hcp ?_
  rintro _ _ ⟨l2, f2, rfl, o2, ⟨⟨G4, rfl⟩, hf2⟩⟩
  have hL2 := o2.len
  have hT2 : l2.take l2.length = l2 := List.take_length
  rw [hL2] at hT2
  have hlt2 := o2.lt
  simp [hL2, hT2]
  obtain ⟨K7, hK7⟩ : ∃ K, K = H2.length + G3.length := ⟨_, rfl⟩
  obtain ⟨K9, hK9⟩ : ∃ K, K = H2.length + (G3.length + (G4.length + 1)) := ⟨_, rfl⟩
  obtain ⟨KD, hKD⟩ : ∃ K, K = H2.length + (G3.length + (G4.length + 2)) := ⟨_, rfl⟩
  obtain ⟨Y, hY⟩ : ∃ Y : Heap, Y = H2 ++ (G3 ++ some ⟨44, .wr, [l1]⟩ :: (G4 ++ [some ⟨44, .wr, [l2]⟩, some ⟨117, .wr, []⟩])) := ⟨_, rfl⟩
  have h2l : H.length + 2 ≤ H2.length := by have := hto.len; omega
  have y7 : blkAt Y K7 = some ⟨44, .wr, [l1]⟩ := by rw [hY, hK7]; simp
  have y9 : blkAt Y K9 = some ⟨44, .wr, [l2]⟩ := by rw [hY, hK9]; simp
  have yD : blkAt Y KD = some ⟨117, .wr, []⟩ := by rw [hY, hKD]; simp
  have oy1 : IsBox Y l1 x0 f1 := by
    have := o1a.app (G4 ++ [some ⟨44, .wr, [l2]⟩, some ⟨117, .wr, []⟩])
    simp only [List.append_assoc, List.cons_append, List.nil_append] at this
    rw [hY]; exact this
  have oy2 : IsBox Y l2 x0 f2 := by
    have := o2.app [some ⟨44, .wr, [l2]⟩, some ⟨117, .wr, []⟩]
    simp only [List.append_assoc, List.cons_append, List.nil_append] at this
    rw [hY]; exact this
  have hcY : CurTo H Y c n := by rw [hY]; exact (hcX.next hto).app _
  have bz2 := hto.1.blk bzX (by simp; omega)
  have bw2 := hto.1.blk bwX (by simp; omega)
  have bzY := (show blkAt Y H.length = blkAt H2 H.length by rw [hY]; exact blkAt_lt (blkAt_len bz2) _).trans bz2
  have bwY := (show blkAt Y (H.length + 1) = blkAt H2 (H.length + 1) by rw [hY]; exact blkAt_lt (blkAt_len bw2) _).trans bw2
  have hf1Y : ∀ k ∈ f1, H.length + 2 ≤ k ∧ k ≠ K7 ∧ k ≠ K9 ∧ k < K7 := fun k hk => by have := hf1 k hk; have := hlt1 k hk; simp at this; omega
  have hf2Y : ∀ k ∈ f2, H.length + 2 ≤ k ∧ k ≠ K7 ∧ k ≠ K9 ∧ K7 < k ∧ k < K9 := fun k hk => by have h1 := hf2 k hk; have h2 := hlt2 k hk; simp at h1 h2; omega
  have oD : IsDeedS Y (.sl (some (KD, 0)) 0) [] [KD] := ⟨some (KD, 0), rfl, Own.of yD⟩
  rw [← hY, ← hK7, ← hK9, ← hKD]
  have hKs : H.length + 2 ≤ K7 ∧ K7 < K9 ∧ K9 < KD := by omega
  clear hY hK7 hK9 hKD o1 o1a o2 hf1 hf2 hlt1 hlt2 hcp
  have hwm : IntKind.i64.wrap (most + 1) = most + 1 := wrap64 (by omega) (by omega)
  simp [hwm]
  refine stpL_runs (l1Below hcY.2 (most + 1)) ?_
  rintro _ S ⟨⟨nn, rfl, hn0, hn1, -⟩, htoS⟩
  have hnm := hn1 (by omega)
  obtain ⟨N, rfl⟩ : ∃ N : Nat, nn = (N : Int) := ⟨nn.toNat, by omega⟩
  have no : ∀ i, H.length ≤ i → i ∉ [c] := fun i hi hj => by simp at hj; omega
  have s7 := htoS.1.blk y7 (no _ (by omega))
  have s9 := htoS.1.blk y9 (no _ (by omega))
  have bzS := htoS.1.blk bzY (no _ (by omega))
  have bwS := htoS.1.blk bwY (no _ (by omega))
  have os1 := oy1.keep htoS.1 (fun k hk => no k (by have := hf1Y k hk; omega))
  have os2 := oy2.keep htoS.1 (fun k hk => no k (by have := hf2Y k hk; omega))
  have oDS := oD.keep htoS.1 (fun k hk => no k (by simp at hk; omega))
  have hcS := hcY.next htoS
  clear y7 y9 yD oy1 oy2 oD bzY bwY htoS hcY
  simp
  refine wpS_loop (fun j tm H' => ∃ (i : Nat) (l : List Lf) (y : Box) (f : List Nat) (q : Lf) (ds : List Deed) (fd : List Nat), i + j = N ∧ tm 0 = .ptr c 0 0 ∧ tm 4 = .ptr H.length 0 0 ∧ tm 6 = .ptr (H.length + 1) 0 0 ∧ tm 7 = .ptr K7 0 0 ∧ tm 9 = .ptr K9 0 0 ∧ tm 10 = .w (.lf q) ∧ tm 11 = .int N ∧ tm 12 = .int i ∧ blkAt H' K7 = some ⟨44, .wr, [l1]⟩ ∧ IsBox H' l1 x0 f1 ∧ blkAt H' K9 = some ⟨44, .wr, [l]⟩ ∧ IsBox H' l y f ∧ y.ok = true ∧ IsDeedS H' q ds fd ∧ ds.length = i ∧ CurTo H H' c n ∧ blkAt H' H.length = some ⟨44, .wr, [[.i .i64 0, .i .i64 0, .i .i64 0, .i .i64 0, .i .i64 0, .sl none 0, .sl none 0, .sl none 0, .sl none 0, .sl none 0]]⟩ ∧ blkAt H' (H.length + 1) = some ⟨44, .wr, [[.i .i64 0, .i .i64 0, .i .i64 0, .i .i64 0, .i .i64 0, .sl none 0, .sl none 0, .sl none 0, .sl none 0, .sl none 0]]⟩ ∧ (∀ k ∈ f, K7 < k ∧ k ≠ K9) ∧ (∀ k ∈ fd, K9 < k) ∧ ∀ k ∈ f, k ∉ fd) N (by rw [env_K]; omega)
    ⟨0, l2, x0, f2, .sl (some (KD, 0)) 0, [], [KD], by simp, by simp, by simp, by simp, by simp, by simp, by simp, by simp, by simp, s7, os1, s9, os2, hx0, oDS, rfl, hcS, bzS, bwS, fun k hk => by have := hf2Y k hk; omega, by simp; omega, fun k hk hk2 => by have := hf2Y k hk; simp at hk2; omega⟩ ?_
  rintro j tm A hj ⟨i, l, y, f, q, ds, fd, hij, t0, t4, t6, t7, t9, t10, t11, t12, a7, oa1, a9, oa, hyok, oq, hdl, hcA, bzA, bwA, hfa, hfda, hdj⟩ Q2 hn2 he2 hr2
  have hL := oa.len
  have hT : l.take l.length = l := List.take_length
  rw [hL] at hT
  have hD10 : l.drop 10 = [] := by rw [← hL]; exact List.drop_length
  have d7 := blkAt_len a7
  have d9 := blkAt_len a9
  have hysz := (Box.smallOf hyok).1
  have hysz2 := hysz.sz
  simp [t12, t11]
  refine selS_intro (fun hc1 => ?_) (fun hc1 => ?_)
  · simp at hc1
    have hw : IntKind.i64.wrap ((i : Int) + 1) = (i : Int) + 1 := wrap64 (by omega) (by omega)
    simp [t0, t9, a9, d9, hL, hT]
    refine stpL_runs (l15DrawDeed hcA.2 oa.rd (by have := hysz.net; omega)) ?_
    rintro _ B ⟨⟨d, rfl, hd1, hd2⟩, htoB⟩
    have b7 := htoB.1.blk a7 (no _ (by omega))
    have b9 := htoB.1.blk a9 (no _ (by omega))
    have bzB := htoB.1.blk bzA (no _ (by omega))
    have bwB := htoB.1.blk bwA (no _ (by omega))
    have ob1 := oa1.keep htoB.1 (fun k hk => no k (by have := hf1Y k hk; omega))
    have ob := oa.keep htoB.1 (fun k hk => no k (by have := hfa k hk; omega))
    have oqB := oq.keep htoB.1 (fun k hk => no k (by have := hfda k hk; omega))
    have hcB := hcA.next htoB
    have hAB := htoB.len
    have d9B := blkAt_len b9
    clear oa oa1 oq a7 a9 bzA bwA htoB hcA
    obtain ⟨aq, rfl, owq⟩ := oqB
    simp [Deed.enc, t10]
    refine stpL_append (e := 117) (rows := ds.map Deed.enc) (ys := [d.enc]) (owq.app _) (Sl.of (by simp [Deed.enc])) rfl rfl rfl (by simp) (by simp; omega) (by simp) rfl fun aa C fc hoC hkC hfC => ?_
    have kC : Keep fd B C := hkC.base
    have hltq := owq.lt
    have c13 : blkAt C B.length = some ⟨117, .wr, [[.i .i64 d.kind, .i .i64 d.a, .i .i64 d.inn.kind, .i .i64 d.inn.port, .i .i64 d.inn.vec.root, .i .i64 d.inn.vec.cost, .i .i64 d.inn.vec.bridge, .i .i64 d.inn.vec.port, .i .i64 d.inn.hops, .b d.inn.up]]⟩ := hkC.blk (by simp) (fun h => by have := hltq _ h; omega)
    have c7 := kC.blk b7 (fun h => by have := hfda _ h; omega)
    have c9 := kC.blk b9 (fun h => by have := hfda _ h; omega)
    have bzC := kC.blk bzB (fun h => by have := hfda _ h; omega)
    have bwC := kC.blk bwB (fun h => by have := hfda _ h; omega)
    have oc1 := ob1.keep kC (fun k hk h => by have := hfda _ h; have := hf1Y k hk; omega)
    have oc := ob.keep kC hdj
    have hcC := hcB.own kC (fun k hk => by have := hfda k hk; omega) hcl
    have hBC := kC.1
    have hltb := ob.lt
    have hfc : ∀ k ∈ fc, K9 < k ∧ (k ∈ fd ∨ B.length ≤ k) := fun k hk => by
      rcases hfC k hk with h | h
      · exact ⟨hfda k h, .inl h⟩
      · simp at h; exact ⟨by omega, .inr (by omega)⟩
    have hqC : IsDeedS C (.sl aa (ds.length + 1)) (ds ++ [d]) fc := ⟨aa, by simp, by simpa using hoC⟩
    have d9C := blkAt_len c9
    have d13 := blkAt_len c13
    have hdjC : ∀ k ∈ f, k ∉ fc := fun k hk h => by
      rcases (hfc k h).2 with h | h
      · exact hdj k hk h
      · have := hltb k hk; omega
    have h49 : (H.length != K9) = true := by simp; omega
    simp [t4, t9, c9, d9C, hL, hT, h49]
    refine stpL_runs_f (specCopyBox oc.rd (by omega)) (by rintro _ _ ⟨_, _, _, _, hf⟩; exact hf.1) ?_
    rintro _ _ ⟨l4, f4, rfl, o4, ⟨⟨G4', rfl⟩, hf4⟩⟩
    have h15 := l15One o4 hysz hyok d ⟨hd1, hd2⟩
    simp only [Deed.enc] at h15
    have c13A := blkAt_app c13 G4'
    have d13A : B.length < C.length + G4'.length := by omega
    simp [c13A, d13A]
    refine stpL_runs_w h15 rfl (by rintro _ _ ⟨_, _, _, _, hk, _⟩; have := hk.1; exact this) ?_
    rintro _ D ⟨l5, rfl, bv⟩
    obtain ⟨f5, o5, k5, hf5⟩ := bv
    obtain ⟨z, hz⟩ : ∃ z, z = (deedD y d).1 := ⟨_, rfl⟩
    obtain ⟨cd, hcd⟩ : ∃ cd, cd = (deedD y d).2 := ⟨_, rfl⟩
    have hzs := (deedD_small hyok d).sz
    rw [← hz] at hzs o5
    rw [← hcd]
    have kD : Keep [] C D := (Keep.app [] C G4').next k5 (fun i hi => hf4 i hi)
    have hCD := kD.1
    have e7 := kD.blk c7 (by simp)
    have e9 := kD.blk c9 (by simp)
    have bzD := kD.blk bzC (by simp)
    have bwD := kD.blk bwC (by simp)
    have od1 := oc1.keep kD (by simp)
    have od := oc.keep kD (by simp)
    have hqD := hqC.keep kD (by simp)
    have hcD := hcC.own kD (by simp) hcl
    have hf5' : ∀ k ∈ f5, C.length ≤ k := fun k hk => by
      rcases hf5 k hk with h | h
      · exact hf4 k h
      · rw [List.length_append] at h; omega
    have hL5 := o5.len
    have hT5 : l5.take l5.length = l5 := List.take_length
    rw [hL5] at hT5
    have d9D := blkAt_len e9
    have hltc := hqC.lt
    have e2 := fun G => specBoxOk_is (o5.app G).rd (by omega)
    have o5A := fun G => o5.app G
    have next : ∀ (tm2 : Ab.T), tm2 0 = .ptr c 0 0 → tm2 4 = .ptr H.length 0 0 → tm2 6 = .ptr (H.length + 1) 0 0 → tm2 7 = .ptr K7 0 0 → tm2 9 = .ptr K9 0 0 → tm2 10 = .w (.lf (.sl aa (ds.length + 1))) → tm2 11 = .int N → tm2 12 = .int ((i : Int) + 1) → ∀ G, Q2 .normal tm2 (D ++ G) := by
      intro tm2 s0 s4 s6 s7 s9 s10 s11 s12 G
      refine hn2 (j - 1) _ _ (by omega) ⟨i + 1, l, y, f, _, ds ++ [d], fc, by omega, s0, s4, s6, s7, s9, s10, s11, by simpa using s12, blkAt_app e7 G, od1.app G, blkAt_app e9 G, od.app G, hyok, hqD.app G, by simp [hdl], hcD.app G, blkAt_app bzD G, blkAt_app bwD G, hfa, fun k hk => (hfc k hk).1, hdjC⟩
    have step : ∀ (tm2 : Ab.T), z.ok = true → tm2 0 = .ptr c 0 0 → tm2 4 = .ptr H.length 0 0 → tm2 6 = .ptr (H.length + 1) 0 0 → tm2 7 = .ptr K7 0 0 → tm2 9 = .ptr K9 0 0 → tm2 10 = .w (.lf (.sl aa (ds.length + 1))) → tm2 11 = .int N → tm2 12 = .int ((i : Int) + 1) → ∀ G, Q2 .normal tm2 ((D ++ G).set K9 (some ⟨44, .wr, [l5]⟩)) := by
      intro tm2 hzok s0 s4 s6 s7 s9 s10 s11 s12 G
      have ks := Keep.set (id := K9) (D ++ G) (some ⟨44, .wr, [l5]⟩)
      have ne9 : ∀ i, i ≠ K9 → i ∉ [K9] := fun i hi hj => hi (by simpa using hj)
      refine hn2 (j - 1) _ _ (by omega) ⟨i + 1, l5, z, f5, _, ds ++ [d], fc, by omega, s0, s4, s6, s7, s9, s10, s11, by simpa using s12, ks.blk (blkAt_app e7 G) (ne9 _ (by omega)), (od1.app G).keep ks (fun k hk => ne9 k (by have := hf1Y k hk; omega)), blkAt_set (by simp; omega), (o5.app G).keep ks (fun k hk => ne9 k (by have := hf5' k hk; omega)), hzok, (hqD.app G).keep ks (fun k hk => ne9 k (by have := (hfc k hk).1; omega)), by simp [hdl], (hcD.app G).set (by omega) (by omega) _, ks.blk (blkAt_app bzD G) (ne9 _ (by omega)), ks.blk (blkAt_app bwD G) (ne9 _ (by omega)), fun k hk => by have := hf5' k hk; omega, fun k hk => (hfc k hk).1, fun k hk h => ?_⟩
      have h1 := hltc k h
      have h2 := hf5' k hk
      omega
    simp [hL5, hT5]
    by_cases hc0 : cd = 0
    · simp [hc0, hL5, hT5, e2]
      cases hzok : z.ok
      · simp [t12, hw]
        refine next _ ?_ ?_ ?_ ?_ ?_ ?_ ?_ ?_ _
        all_goals simp [t0, t4, t6, t7, t9, t11]
      · have e9A := fun G => blkAt_app e9 G
        have g9 : K9 < D.length + 1 := by omega
        simp [t9, e9A, g9, hL, hD10, hL5, hT5, t12, hw]
        refine step _ hzok ?_ ?_ ?_ ?_ ?_ ?_ ?_ ?_ _
        all_goals simp [t0, t4, t6, t7, t9, t11]
    · simp [hc0, t12, hw]
      refine next _ ?_ ?_ ?_ ?_ ?_ ?_ ?_ ?_ _
      all_goals simp [t0, t4, t6, t7, t9, t11]
  · simp at hc1
    simp
    refine he2 _ _ _ ?_
    have h49 : (H.length != K9) = true := by simp; omega
    have h4a : ¬ H.length = K7 := by omega
    have dzA := blkAt_len bzA
    have dwA := blkAt_len bwA
    have hsw : ∀ y : Option Blk, blkAt (A.set H.length y) (H.length + 1) = blkAt A (H.length + 1) := fun y => blkAt_set_ne (by omega)
    simp [t4, t6, t7, t9, t10, a7, d7, a9, d9, hL1, hT1, hL, hT, h49, bzA, dzA, bwA, dwA, hsw]
    refine hQ _ _ _ (by simp) ?_
    obtain ⟨HF, hHF⟩ : ∃ HF : Heap, HF = (A.set H.length (some ⟨44, .wr, [l1]⟩)).set (H.length + 1) (some ⟨44, .wr, [l]⟩) := ⟨_, rfl⟩
    have kF : Keep [H.length, H.length + 1] A HF := by
      rw [hHF]
      exact (Keep.set _ _).trans (Keep.set _ _) (fun i hi _ => by simp at hi; simp [hi]) (fun i hi _ => by simp at hi; simp [hi])
    have nF : ∀ k, H.length + 2 ≤ k → k ∉ [H.length, H.length + 1] := fun k hk h => by simp at h; omega
    have f4 : blkAt HF H.length = some ⟨44, .wr, [l1]⟩ := by rw [hHF, blkAt_set_ne (by omega)]; exact blkAt_set dzA
    have f6 : blkAt HF (H.length + 1) = some ⟨44, .wr, [l]⟩ := by rw [hHF]; exact blkAt_set (by simpa using dwA)
    have of1 := oa1.keep kF (fun k hk => nF k (by have := hf1Y k hk; omega))
    have of2 := oa.keep kF (fun k hk => nF k (by have := hfa k hk; omega))
    have oqF := oq.keep kF (fun k hk => nF k (by have := hfda k hk; omega))
    have hcF : CurTo H HF c n := by rw [hHF]; exact (hcA.set (by omega) (by omega) _).set (by omega) (by omega) _
    have hil : i = N := by omega
    rw [← hHF]
    obtain ⟨aq, rfl, owq⟩ := oqF
    simp [Tryz.f56, f4, f6, hL1, hT1, hL, hT, t4, t6, -Int.ofNat_le]
    refine ⟨?_, hcF.leave hc _⟩
    rcases leave_opt H HF [W.agg l1, W.lf (.sl aq ds.length), W.agg l] with e | ⟨e, hr⟩ <;> rw [e]
    · refine ⟨l1, x0, f1, _, ds, fd, l, ⟨rfl, rfl, rfl⟩, of1, ⟨aq, rfl, owq⟩, y, f, of2, hx0, hyok, hxid, by omega, fun k hk => by have := hf1Y k hk; omega, fun k hk => by have := hfda k hk; omega, fun k hk => by have := hfa k hk; omega, hdj, fun k hk => ⟨fun h => by have := hfda k h; have := hf1Y k hk; omega, fun h => by have := hfa k h; have := hf1Y k hk; omega⟩⟩
    · simp at hr
      refine ⟨l1, x0, [], _, ds, [], l, ⟨rfl, rfl, rfl⟩, of1.free (by simpa using hr.1) H, (IsSl.free ⟨aq, rfl, owq⟩ hr.2.1 H), y, [], of2.free (by simpa using hr.2.2) H, hx0, hyok, hxid, by omega, by simp, by simp, by simp, by simp, by simp⟩

theorem l15DrawRight {H : Heap} {c n : Nat} (hc : Cur H c n) : Runs env 40 [.ptr c 0 0] H fun v H' => (∃ (l : List Lf) (x : Box) (fp : List Nat), v = .agg l ∧ IsBox H' l x fp ∧ x.ok = true ∧ ∀ i ∈ fp, H.length ≤ i) ∧ CurTo H H' c n := by
  have hcl := hc.lt
  refine Runs.walk ok40 Tryz.func40 rfl (by simp [Tryz.f40]) fun Q hQ => ?_
  simp only [Tryz.f40, strip, stripL, stripI, stripG, chkT, tagsB, tagsL, tagD, addT, tagA, lookN, tagOp, elmT, ty22, ty29, ty33, ty39, ty40, ty41, ty42, ty69, ty71, ty95, Nat.reduceEqDiff, if_false, reduceIte, Option.getD_some, Option.getD_none, dstAt, dstOk, Nat.reduceLT, decide_true, if_true]
  have hcX := hc.app [some ⟨44, .wr, [[.i .i64 0, .i .i64 0, .i .i64 0, .i .i64 0, .i .i64 0, .sl none 0, .sl none 0, .sl none 0, .sl none 0, .sl none 0]]⟩]
  simp
  refine stpL_runs (l15DrawRun hcX 50 (by omega) (by omega)) ?_
  rintro _ S ⟨⟨l1, x, f1, q, ds, fd, l2, y, f2, rfl, o1, oq, o2, hx, hy, hxn, hln, hf1, hfd, hf2, -, -⟩, hto⟩
  have bz := hto.1.blk (id := H.length) (b := ⟨44, .wr, [[.i .i64 0, .i .i64 0, .i .i64 0, .i .i64 0, .i .i64 0, .sl none 0, .sl none 0, .sl none 0, .sl none 0, .sl none 0]]⟩) (by simp) (by simp; omega)
  have hL1 := o1.len
  have hT1 : l1.take l1.length = l1 := List.take_length
  rw [hL1] at hT1
  have hL2 := o2.len
  have hT2 : l2.take l2.length = l2 := List.take_length
  rw [hL2] at hT2
  have hl := hto.len
  simp at hl
  have hlt2 := o2.lt
  have bzA := fun G => blkAt_app bz G
  have g1 : H.length < S.length + (1 + 1) := by omega
  have g2 : H.length < S.length + 2 := by omega
  simp [hL1, hT1, hL2, hT2, bzA, g1, g2, -set_lt]
  refine hQ _ _ _ (by simp) ?_
  obtain ⟨HF, hHF⟩ : ∃ HF : Heap, HF = List.set (S ++ [some ⟨44, .wr, [l1]⟩, some ⟨44, .wr, [l2]⟩] : Heap) H.length (some ⟨44, .wr, [l2]⟩) := ⟨_, rfl⟩
  have f0 : blkAt HF H.length = some ⟨44, .wr, [l2]⟩ := by rw [hHF]; exact blkAt_set (by simp; omega)
  have hcF : CurTo H HF c n := by rw [hHF]; exact ((hto.base).app _).set (by omega) (by omega) _
  have oF : IsBox HF l2 y f2 := by rw [hHF]; exact (o2.app _).keep (Keep.set _ _) (fun k hk h => by have := hf2 k hk; simp at h this; omega)
  rw [← hHF]
  simp [Tryz.f40, f0, hL2, hT2]
  refine ⟨?_, hcF.leave hc _⟩
  rcases leave_opt H HF [W.agg l2] with e | ⟨e, hr⟩ <;> rw [e]
  · exact ⟨y, f2, oF, hy, fun k hk => by have := hf2 k hk; simp at this; omega⟩
  · exact ⟨y, [], oF.free (by simpa using hr) H, hy, by simp⟩

theorem l12DrawRight {H : Heap} {c n : Nat} (hc : Cur H c n) : Runs env 38 [.ptr c 0 0] H fun v H' => (∃ (l : List Lf) (m : Minder) (fp : List Nat), v = .agg l ∧ IsMinder H' l m fp ∧ m.ok = true ∧ ∀ i ∈ fp, H.length ≤ i) ∧ CurTo H H' c n := by
  have hcl := hc.lt
  refine Runs.walk ok38 Tryz.func38 rfl (by simp [Tryz.f38]) fun Q hQ => ?_
  simp only [Tryz.f38, strip, stripL, stripI, stripG, chkT, tagsB, tagsL, tagD, addT, tagA, lookN, tagOp, elmT, ty22, ty29, ty33, ty39, ty40, ty41, ty42, ty69, ty71, ty95, Nat.reduceEqDiff, if_false, reduceIte, Option.getD_some, Option.getD_none, dstAt, dstOk, Nat.reduceLT, decide_true, if_true]
  have hcX := hc.app [some ⟨35, .wr, [[.b false, .i .i64 0, .i .i64 0, .sl none 0, .i .i64 0, .i .i64 0, .i .i64 0]]⟩]
  simp
  refine stpL_runs (l15DrawRight hcX) ?_
  rintro _ S ⟨⟨l, x, fp, rfl, ox, hx, hfp⟩, hto⟩
  have bz := hto.1.blk (id := H.length) (b := ⟨35, .wr, [[.b false, .i .i64 0, .i .i64 0, .sl none 0, .i .i64 0, .i .i64 0, .i .i64 0]]⟩) (by simp) (by simp; omega)
  have hL := ox.len
  have h2 := (Box.right hx).two
  obtain ⟨q0, q1, q2, q3, q4, f0, f1, f2, f3, f4, rfl, ⟨a, rows, fp0, fps, rfl, ho, hp, rfl, hnd0⟩, -, -, -, -, rfl, -⟩ := ox
  have hl := hto.len
  simp at hl
  simp [Box.enc, fieldV, env_P, Tryz.underlying44]
  refine stpL_runs (l1Below hto.2 2) ?_
  rintro _ T ⟨⟨k, rfl, hk0, hk1, -⟩, hto2⟩
  have hk2 := hk1 (by omega)
  obtain ⟨k, rfl⟩ : ∃ k' : Nat, k = (k' : Int) := ⟨k.toNat, by omega⟩
  have hkl : k < x.two.length := by omega
  obtain ⟨g1, g2, hM⟩ := hp.get hkl
  obtain ⟨id, bl, rfl, rfl, hb, hbe, hbm, hpre⟩ := ho.blk (by rintro rfl; simp at g1)
  obtain ⟨tl, htl⟩ := hpre
  have hrow : bl.rows[k]? = some rows[k] := by rw [← htl, List.getElem?_append_left g1, List.getElem?_eq_getElem g1]
  have no : ∀ i, H.length ≤ i → i ∉ [c] := fun i hi hj => by simp at hj; omega
  have hidH : H.length ≤ id := by have := hfp id (by simp); simp at this; omega
  have hbT := hto2.1.blk hb (no _ hidH)
  have dT := blkAt_len hbT
  have hMT := hM.keep hto2.1 (fun i hi => no i (by have := hfp i (by simp only [List.mem_append]; exact .inl (.inr (flat_mem (List.getElem?_eq_getElem g2) hi))); simp at this; omega))
  have mok := (Box.right hx).ok _ (List.getElem_mem hkl)
  have hms : x.two[k].sz ≤ 1048576 := by simp [Minder.ok, logOk] at mok; unfold Minder.sz; omega
  have hLr := hMT.len
  have hTr : rows[k].take rows[k].length = rows[k] := List.take_length
  rw [hLr] at hTr
  have hkI : (k : Int) < x.two.length := by omega
  have hkI0 : (0 : Int) ≤ k := by omega
  simp [indexAddrV, elemIs, hbT, dT, hbe, hkl, hkI, hrow, hLr, hTr]
  refine stpL_runs (specCopyM hMT.rd hms) ?_
  rintro _ _ ⟨l5, f5, rfl, o5, ⟨⟨G5, rfl⟩, hf5⟩⟩
  have bz2 := hto2.1.blk bz (no _ (by omega))
  have bz3 := blkAt_app bz2 G5
  have d3 := blkAt_len bz3
  have hL5 := o5.len
  have hT5 : l5.take l5.length = l5 := List.take_length
  rw [hL5] at hT5
  have hlT := hto2.len
  have d3' : H.length < T.length + G5.length := by simpa using d3
  simp [bz3, d3', hL5, hT5, -set_lt]
  refine hQ _ _ _ (by simp) ?_
  obtain ⟨HF, hHF⟩ : ∃ HF : Heap, HF = List.set (T ++ G5) H.length (some ⟨35, .wr, [l5]⟩) := ⟨_, rfl⟩
  have f0' : blkAt HF H.length = some ⟨35, .wr, [l5]⟩ := by rw [hHF]; exact blkAt_set d3
  have hcF : CurTo H HF c n := by rw [hHF]; exact ((hto.base.next hto2).app _).set (by omega) (by omega) _
  have oF := o5.keep (Keep.set (id := H.length) (T ++ G5) (some ⟨35, .wr, [l5]⟩)) (fun i hi h => by have := hf5 i hi; simp at h; omega)
  rw [← hHF] at oF ⊢
  simp [Tryz.f38, f0', hL5, hT5]
  refine ⟨?_, hcF.leave hc _⟩
  rcases leave_opt H HF [W.agg l5] with e | ⟨e, hr⟩ <;> rw [e]
  · exact ⟨x.two[k], f5, oF, mok, fun i hi => by have := hf5 i hi; omega⟩
  · exact ⟨x.two[k], [], oF.free (by simpa using hr) H, mok, by simp⟩

theorem l12Draw {H : Heap} {c n : Nat} (hc : Cur H c n) : Runs env 20 [.ptr c 0 0] H fun v H' => (∃ (l : List Lf) (m : Minder) (fp : List Nat), v = .agg l ∧ IsMinder H' l m fp ∧ m.sz ≤ 100 ∧ I64 m.ackLife ∧ ∀ i ∈ fp, H.length ≤ i) ∧ CurTo H H' c n := by
  have hcl := hc.lt
  refine Runs.walk ok20 Tryz.func20 rfl (by simp [Tryz.f20]) fun Q hQ => ?_
  simp only [Tryz.f20, strip, stripL, stripI, stripG, chkT, tagsB, tagsL, tagD, addT, tagA, lookN, tagOp, elmT, ty22, ty29, ty33, ty39, ty40, ty41, ty42, ty69, ty71, ty95, Nat.reduceEqDiff, if_false, reduceIte, Option.getD_some, Option.getD_none, dstAt, dstOk, Nat.reduceLT, decide_true, if_true]
  have fin : ∀ (HF : Heap) (tm : Ab.T) (x : Minder) (a : Option (Nat × Nat)) (fp : List Nat), tm 2 = .ptr H.length 0 0 → blkAt HF H.length = some ⟨35, .wr, [x.enc a]⟩ → Own HF 78 a (x.log.map In.enc) fp → x.sz ≤ 100 → I64 x.ackLife → (∀ i ∈ fp, H.length ≤ i) → CurTo H HF c n → Q .ret tm HF := by
    intro HF tm x a fp t2 hb ho hs hak hf hto
    refine hQ _ _ _ (by simp) ?_
    have hres : resT env.τ tm HF (Tryz.f20.results.toList) = some [W.agg (x.enc a)] := by simp [Tryz.f20, t2, hb, Minder.enc]
    rw [hres, optK_some]
    refine ⟨?_, hto.leave hc _⟩
    have oF : IsMinder HF (x.enc a) x fp := ⟨a, rfl, ho⟩
    rcases leave_opt H HF [W.agg (x.enc a)] with e | ⟨e, hr⟩ <;> rw [e]
    · exact ⟨_, x, fp, rfl, oF, hs, hak, hf⟩
    · exact ⟨_, x, [], rfl, oF.free (by simpa using hr) H, hs, hak, by simp⟩
  have hcX := hc.app [some ⟨35, .wr, [[.b false, .i .i64 0, .i .i64 0, .sl none 0, .i .i64 0, .i .i64 0, .i .i64 0]]⟩]
  have bzX : blkAt (H ++ [some ⟨35, .wr, [[.b false, .i .i64 0, .i .i64 0, .sl none 0, .i .i64 0, .i .i64 0, .i .i64 0]]⟩]) H.length = some ⟨35, .wr, [[.b false, .i .i64 0, .i .i64 0, .sl none 0, .i .i64 0, .i .i64 0, .i .i64 0]]⟩ := by simp
  have hlX : (H ++ [some ⟨35, .wr, [[.b false, .i .i64 0, .i .i64 0, .sl none 0, .i .i64 0, .i .i64 0, .i .i64 0]]⟩] : Heap).length = H.length + 1 := by simp
  simp
  refine stpL_runs (l12DrawRight hcX) ?_
  rintro _ H1 ⟨⟨l, m, fp, rfl, ⟨a, rfl, ow⟩, mok, hfp⟩, hto1⟩
  have hms : m.log.length ≤ 60 := by simp [Minder.ok, logOk] at mok; omega
  have hakm : I64 m.ackLife := by simp [Minder.ok] at mok; unfold I64; omega
  have bz1 := hto1.1.blk bzX (by simp; omega)
  have dz1 := blkAt_len bz1
  have hcc1 := hto1.base
  have hl1 := hto1.len
  have hlt1 := ow.lt
  rw [hlX] at hl1 hfp
  simp [Minder.enc]
  have hcM := hto1.2.app [some ⟨35, .wr, [[.b m.up, .i .i64 m.life, .i .i64 m.epoch, .sl a m.log.length, .i .i64 m.said, .i .i64 m.acked, .i .i64 m.ackLife]]⟩]
  refine stpL_runs (l1Below hcM 10) ?_
  rintro _ H2 ⟨⟨k, rfl, -⟩, hto2⟩
  have b3 : blkAt H2 H1.length = some ⟨35, .wr, [[.b m.up, .i .i64 m.life, .i .i64 m.epoch, .sl a m.log.length, .i .i64 m.said, .i .i64 m.acked, .i .i64 m.ackLife]]⟩ := hto2.1.blk (by simp) (by simp; omega)
  have bz2 := hto2.1.blk (blkAt_app bz1 _) (by simp; omega)
  have d3 := blkAt_len b3
  have dz2 := blkAt_len bz2
  have hcc2 := hcc1.next hto2.base
  have no : ∀ i ∈ fp, i ∉ [c] := fun i hi h => by have := hfp i hi; simp at h; omega
  have ow2 := (ow.app [some ⟨35, .wr, [[.b m.up, .i .i64 m.life, .i .i64 m.epoch, .sl a m.log.length, .i .i64 m.said, .i .i64 m.acked, .i .i64 m.ackLife]]⟩]).keep hto2.1 no
  have hl2 := hto2.len
  simp at hl2
  have hne3 : ∀ (Y : Heap) (y : Option Blk), blkAt (List.set Y H1.length y) H.length = blkAt Y H.length := fun Y y => blkAt_set_ne (by omega)
  have hne4 : ∀ (Y : Heap) (y : Blk), H1.length < Y.length → blkAt (List.set Y H1.length (some y)) H1.length = some y := fun Y y h => blkAt_set h
  have kp : ∀ (Y : Heap) (y z : Option Blk), Own Y 78 a (m.log.map In.enc) fp → Own ((List.set Y H1.length y).set H.length z) 78 a (m.log.map In.enc) fp := fun Y y z h =>
    (h.keep (Keep.set (id := H1.length) Y y) (fun i hi h => by have := hlt1 i hi; simp at h; omega)).keep (Keep.set (id := H.length) _ z) (fun i hi h => by have := hfp i hi; simp at h; omega)
  have kp1 : ∀ (Y : Heap) (z : Option Blk), Own Y 78 a (m.log.map In.enc) fp → Own (Y.set H.length z) 78 a (m.log.map In.enc) fp := fun Y z h =>
    h.keep (Keep.set (id := H.length) _ z) (fun i hi h => by have := hfp i hi; simp at h; omega)
  have hf' : ∀ i ∈ fp, H.length ≤ i := fun i hi => by have := hfp i hi; omega
  by_cases c0 : k = 0
  · simp [c0, b3, d3, bz2, dz2, hne3, hne4]
    refine fin _ _ ⟨!m.up, m.life, m.epoch, m.log, m.said, m.acked, m.ackLife⟩ a fp ?_ (blkAt_set (Nat.lt_of_lt_of_eq dz2 (List.length_set).symm)) (kp _ _ _ ow2) (by simp [Minder.sz]; omega) hakm hf' ((hcc2.set (by omega) (by omega) _).set (by omega) (by omega) _)
    simp
  by_cases c1 : k = 1
  · simp [c1]
    refine stpL_runs (l1Below hto2.2 9) ?_
    rintro _ H3 ⟨⟨y, rfl, -⟩, hto3⟩
    have b33 := hto3.1.blk b3 (by simp; omega)
    have bz3 := hto3.1.blk bz2 (by simp; omega)
    have ow3 := ow2.keep hto3.1 no
    have d33 := blkAt_len b33
    have dz3 := blkAt_len bz3
    have hcc3 := hcc2.next hto3
    simp [b33, d33, bz3, dz3, hne3, hne4]
    refine fin _ _ ⟨m.up, m.life, m.epoch, m.log, IntKind.i64.wrap (y - 1), m.acked, m.ackLife⟩ a fp ?_ (blkAt_set (Nat.lt_of_lt_of_eq dz3 (List.length_set).symm)) (kp _ _ _ ow3) (by simp [Minder.sz]; omega) hakm hf' ((hcc3.set (by omega) (by omega) _).set (by omega) (by omega) _)
    simp
  by_cases c2 : k = 2
  · simp [c2]
    refine stpL_runs (l1Below hto2.2 9) ?_
    rintro _ H3 ⟨⟨y, rfl, -⟩, hto3⟩
    have b33 := hto3.1.blk b3 (by simp; omega)
    have bz3 := hto3.1.blk bz2 (by simp; omega)
    have ow3 := ow2.keep hto3.1 no
    have d33 := blkAt_len b33
    have dz3 := blkAt_len bz3
    have hcc3 := hcc2.next hto3
    simp [b33, d33, bz3, dz3, hne3, hne4]
    refine fin _ _ ⟨m.up, m.life, m.epoch, m.log, m.said, IntKind.i64.wrap (y - 1), m.ackLife⟩ a fp ?_ (blkAt_set (Nat.lt_of_lt_of_eq dz3 (List.length_set).symm)) (kp _ _ _ ow3) (by simp [Minder.sz]; omega) hakm hf' ((hcc3.set (by omega) (by omega) _).set (by omega) (by omega) _)
    simp
  by_cases c3 : k = 3
  · simp [c3, b3, d3]
    refine stpL_cur (l8DrawBent hto2.2) hto2.2 (fun v H' h => h.2) ?_
    rintro _ H3 ⟨⟨y, rfl⟩, hto3⟩
    have b33 := hto3.1.blk b3 (by simp; omega)
    have bz3 := hto3.1.blk bz2 (by simp; omega)
    have ow3 := ow2.keep hto3.1 no
    have hcc3 := hcc2.next hto3
    have hl3 := hto3.len
    simp [In.enc]
    refine stpL_append (e := 78) (rows := m.log.map In.enc) (ys := [y.enc]) (ow3.app _) (Sl.of (by simp [In.enc])) rfl rfl rfl (by simp) (by simp; omega) (by simp) rfl fun aa C fc hoC hkC hfC => ?_
    have kC : Keep fp H3 C := hkC.base
    have hC := kC.1
    have bC := kC.blk b33 (fun h => by have := hlt1 _ h; omega)
    have bzC := kC.blk bz3 (fun h => by have := hfp _ h; omega)
    have dC := blkAt_len bC
    have dzC := blkAt_len bzC
    have hcC := hcc3.own kC (fun k hk => by have := hfp k hk; omega) hcl
    have hfc : ∀ i ∈ fc, H.length < i ∧ i ≠ H1.length := fun i hi => by
      rcases hfC i hi with h | h
      · exact ⟨by have := hfp i h; omega, by have := hlt1 i h; omega⟩
      · simp at h; omega
    simp [bC, dC, bzC, dzC, hne3, hne4]
    refine fin _ _ ⟨m.up, m.life, m.epoch, m.log ++ [y], m.said, m.acked, m.ackLife⟩ aa fc ?_ (by simp [Minder.enc]; exact blkAt_set (Nat.lt_of_lt_of_eq dzC (List.length_set).symm)) ?_ (by simp [Minder.sz]; omega) hakm (fun i hi => by have := hfc i hi; omega) ((hcC.set (by omega) (by omega) _).set (by omega) (by omega) _)
    · simp
    · simp only [List.map_append, List.map_cons, List.map_nil]
      exact (hoC.keep (Keep.set (id := H1.length) C _) (fun i hi h => by have := hfc i hi; simp at h; omega)).keep (Keep.set (id := H.length) _ _) (fun i hi h => by have := hfc i hi; simp at h; omega)
  by_cases c4 : k = 4
  · simp [c4]
    have hcL := hto2.2.app [some ⟨3, .wr, [encI (-1), encI 0, encI 1, encI 100001]⟩]
    simp only [encI] at hcL
    refine stpL_runs (l1PickInt (xs := [(-1), 0, 1, 100001]) hcL (Sl.of (by simp [encI])) (by simp) (by simp)) ?_
    rintro _ H3 ⟨⟨y, rfl, -⟩, hto3⟩
    have hto3 := hto3.base
    have b33 := hto3.1.blk b3 (by simp; omega)
    have bz3 := hto3.1.blk bz2 (by simp; omega)
    have ow3 := ow2.keep hto3.1 no
    have d33 := blkAt_len b33
    have dz3 := blkAt_len bz3
    have hcc3 := hcc2.next hto3
    simp [b33, d33, bz3, dz3, hne3, hne4]
    refine fin _ _ ⟨m.up, m.life, y, m.log, m.said, m.acked, m.ackLife⟩ a fp ?_ (blkAt_set (Nat.lt_of_lt_of_eq dz3 (List.length_set).symm)) (kp _ _ _ ow3) (by simp [Minder.sz]; omega) hakm hf' ((hcc3.set (by omega) (by omega) _).set (by omega) (by omega) _)
    simp
  simp [c0, c1, c2, c3, c4, b3, d3, bz2, dz2]
  refine fin _ _ m a fp ?_ (blkAt_set dz2) (kp1 _ _ ow2) (by simp [Minder.sz]; omega) hakm hf' (hcc2.set (by omega) (by omega) _)
  simp

theorem l13DrawReg {H : Heap} {c n : Nat} (hc : Cur H c n) : Runs env 41 [.ptr c 0 0] H fun v H' => (∃ x : Reg, v = .agg x.enc) ∧ CurTo H H' c n := by
  have hcl := hc.lt
  refine Runs.walk ok41 Tryz.func41 rfl (by simp [Tryz.f41]) fun Q hQ => ?_
  simp only [Tryz.f41, strip, stripL, stripI, stripG, chkT, tagsB, tagsL, tagD, addT, tagA, lookN, tagOp, elmT, ty22, ty29, ty33, ty39, ty40, ty41, ty42, ty69, ty71, ty95, Nat.reduceEqDiff, if_false, reduceIte, Option.getD_some, Option.getD_none, dstAt, dstOk, Nat.reduceLT, decide_true, if_true]
  have fin : ∀ (HF : Heap) (tm : Ab.T) (x : Reg), tm 2 = .ptr (H.length) 0 0 → blkAt HF (H.length) = some ⟨38, .wr, [x.enc]⟩ → CurTo H HF c n → Q .ret tm HF := by
    intro HF tm x t2 hb hto
    refine hQ _ _ _ (by simp) ?_
    have hres : resT env.τ tm HF (Tryz.f41.results.toList) = some [W.agg x.enc] := by simp [Tryz.f41, t2, hb, Reg.enc]
    rw [hres, optK_some]
    exact ⟨⟨x, rfl⟩, hto.leave hc _⟩
  have hcX := hc.app [some ⟨38, .wr, [[.i .i64 0, .i .i64 0, .i .i64 0]]⟩]
  have bzX : blkAt (H ++ [some ⟨38, .wr, [[.i .i64 0, .i .i64 0, .i .i64 0]]⟩]) H.length = some ⟨38, .wr, [[.i .i64 0, .i .i64 0, .i .i64 0]]⟩ := by simp
  have hlX : (H ++ [some ⟨38, .wr, [[.i .i64 0, .i .i64 0, .i .i64 0]]⟩] : Heap).length = H.length + 1 := by simp
  simp
  refine stpL_runs (l15DrawRight hcX) ?_
  rintro _ H1 ⟨⟨l, x, fp, rfl, ox, -, -⟩, hto1⟩
  obtain ⟨q0, q1, q2, q3, q4, f0, f1, f2, f3, f4, rfl, -⟩ := ox
  obtain ⟨r, hr⟩ : ∃ r, r = x.reg := ⟨_, rfl⟩
  have bz1 := hto1.1.blk bzX (by simp; omega)
  have dz1 := blkAt_len bz1
  have hcc1 := hto1.base
  have hl1 := hto1.len
  rw [hlX] at hl1
  simp [Box.enc, fieldV, env_P, Tryz.underlying44, ← hr]
  have hcM := hto1.2.app [some ⟨38, .wr, [[.i .i64 r.epoch, .i .i64 r.owner, .i .i64 r.pair]]⟩]
  refine stpL_runs (l1Below hcM 10) ?_
  rintro _ H2 ⟨⟨k, rfl, -⟩, hto2⟩
  have b3 : blkAt H2 H1.length = some ⟨38, .wr, [[.i .i64 r.epoch, .i .i64 r.owner, .i .i64 r.pair]]⟩ := hto2.1.blk (by simp) (by simp; omega)
  have bz2 := hto2.1.blk (blkAt_app bz1 _) (by simp; omega)
  have d3 := blkAt_len b3
  have dz2 := blkAt_len bz2
  have hcc2 := hcc1.next hto2.base
  have hne3 : ∀ (Y : Heap) (y : Option Blk), blkAt (List.set Y H1.length y) H.length = blkAt Y H.length := fun Y y => blkAt_set_ne (by omega)
  have hne4 : ∀ (Y : Heap) (y : Blk), H1.length < Y.length → blkAt (List.set Y H1.length (some y)) H1.length = some y := fun Y y h => blkAt_set h
  by_cases c0 : k = 0
  · simp [c0]
    have hcL := hto2.2.app [some ⟨3, .wr, [encI 0, encI 1, encI 100000, encI 100001]⟩]
    simp only [encI] at hcL
    refine stpL_runs (l1PickInt (xs := [0, 1, 100000, 100001]) hcL (Sl.of (by simp [encI])) (by simp) (by simp)) ?_
    rintro _ H3 ⟨⟨y, rfl, -⟩, hto3⟩
    have hto3 := hto3.base
    have b33 := hto3.1.blk b3 (by simp; omega)
    have bz3 := hto3.1.blk bz2 (by simp; omega)
    have d33 := blkAt_len b33
    have dz3 := blkAt_len bz3
    have hcc3 := hcc2.next hto3
    simp [b33, d33, bz3, dz3, hne3, hne4, Reg.enc]
    refine fin _ _ ⟨y, r.owner, r.pair⟩ ?_ (blkAt_set (Nat.lt_of_lt_of_eq dz3 (List.length_set).symm)) ((hcc3.set (by omega) (by omega) _).set (by omega) (by omega) _)
    simp
  by_cases c1 : k = 1
  · simp [c1]
    refine stpL_runs (l1Below hto2.2 4) ?_
    rintro _ H3 ⟨⟨y, rfl, -⟩, hto3⟩
    have b33 := hto3.1.blk b3 (by simp; omega)
    have bz3 := hto3.1.blk bz2 (by simp; omega)
    have d33 := blkAt_len b33
    have dz3 := blkAt_len bz3
    have hcc3 := hcc2.next hto3
    simp [b33, d33, bz3, dz3, hne3, hne4, Reg.enc]
    refine fin _ _ ⟨r.epoch, IntKind.i64.wrap (y - 1), r.pair⟩ ?_ (blkAt_set (Nat.lt_of_lt_of_eq dz3 (List.length_set).symm)) ((hcc3.set (by omega) (by omega) _).set (by omega) (by omega) _)
    simp
  by_cases c2 : k = 2
  · simp [c2]
    have hcL := hto2.2.app [some ⟨3, .wr, [encI (-1), encI 0, encI 1, encI 2]⟩]
    simp only [encI] at hcL
    refine stpL_runs (l1PickInt (xs := [(-1), 0, 1, 2]) hcL (Sl.of (by simp [encI])) (by simp) (by simp)) ?_
    rintro _ H3 ⟨⟨y, rfl, -⟩, hto3⟩
    have hto3 := hto3.base
    have b33 := hto3.1.blk b3 (by simp; omega)
    have bz3 := hto3.1.blk bz2 (by simp; omega)
    have d33 := blkAt_len b33
    have dz3 := blkAt_len bz3
    have hcc3 := hcc2.next hto3
    simp [b33, d33, bz3, dz3, hne3, hne4, Reg.enc]
    refine fin _ _ ⟨r.epoch, r.owner, y⟩ ?_ (blkAt_set (Nat.lt_of_lt_of_eq dz3 (List.length_set).symm)) ((hcc3.set (by omega) (by omega) _).set (by omega) (by omega) _)
    simp
  simp [c0, c1, c2, b3, d3, bz2, dz2]
  refine fin _ _ r ?_ (blkAt_set dz2) (hcc2.set (by omega) (by omega) _)
  simp

theorem keepCut {f : List Nat} {A B : Heap} (h : Keep f A B) : Keep f A (B.take A.length) := ⟨by have := h.1; simp; omega, fun id hi hn => by rw [List.getElem?_take_of_lt hi]; exact h.2 id hi hn⟩
theorem keepTake (n : Nat) (B : Heap) : Keep [] (B.take n) B := ⟨by simp; omega, fun id hi _ => by simp at hi; rw [List.getElem?_take_of_lt (by omega)]⟩
/-- A minder put into a box, where meanwhile a cursor went on. -/
theorem boxPut {A B : Heap} {c id : Nat} {l : List Lf} {x : Box} {fp : List Nat} (hb : blkAt A id = some ⟨44, .wr, [l]⟩) (hI : IsBox A l x fp) (hid : id ∉ fp) (hk : Keep [c] A B) (hc : c ∉ fp) (hci : c ≠ id) {s : Nat} (hs : s < x.two.length) {l2 : List Lf} {m : Minder} {f2 : List Nat} (hm : IsMinder B l2 m f2) (hf2 : ∀ i ∈ f2, A.length ≤ i) :
    ∃ (bid : Nat) (blo : Blk) (q1 q2 q3 q4 : Lf) (row : List Lf) (fp' : List Nat), l = x.enc (.sl (some (bid, 0)) x.two.length) q1 q2 q3 q4 ∧ bid ∈ fp ∧ bid ≠ id ∧ blkAt B bid = some blo ∧ blo.elem = 35 ∧ blo.md = .wr ∧ blo.rows[s]? = some row ∧ row.length = 7 ∧
      blkAt (B.set bid (some ⟨35, .wr, blo.rows.set s l2⟩)) id = some ⟨44, .wr, [l]⟩ ∧ IsBox (B.set bid (some ⟨35, .wr, blo.rows.set s l2⟩)) l (setTwo x s m) fp' ∧ ∀ i ∈ fp', i ∈ fp ∨ A.length ≤ i := by
  have k1 := keepCut hk
  have k2 := keepTake A.length B
  have hDl : (B.take A.length).length = A.length := by have := hk.1; simp; omega
  have hbD := k1.blk hb (by simpa using fun h => hci h.symm)
  have hID := hI.keep k1 (fun i hi h => by simp at h; subst h; exact hc hi)
  obtain ⟨bid, blo, q1, q2, q3, q4, row, rfl, hbne, hbl, hbb, hbe, hbm, hrow, hrd, hput⟩ := boxTwo hbD hID hid hs
  obtain ⟨fp', z1, z2, z3, z4, z5⟩ := hput B l2 m f2 k2 hm (fun i hi => by rw [hDl]; exact hf2 i hi)
  refine ⟨bid, blo, q1, q2, q3, q4, row, fp', rfl, ?_, hbne, k2.blk hbb (by simp), hbe, hbm, hrow, hrd.len, z1, z2, fun i hi => by have := z5 i hi; rwa [hDl] at this⟩
  obtain ⟨_, _, _, _, _, f0, f1, f2', f3, f4, e, ⟨a, rows, fp0, fps, ea, ho, -, ef, -⟩, -, -, -, -, ef2, -⟩ := hID
  simp only [Box.enc, List.cons.injEq, and_true, true_and] at e
  obtain ⟨e, -⟩ := e
  rw [ea] at e
  injection e with e
  have := ho.ids bid 0 e.symm
  rw [ef2, ef]
  simp [this]

def setPorts (x : Box) (p : Int) : Box := ⟨x.id, p, x.reg, x.two, x.net, x.gates, x.line, x.said⟩
def setGate (x : Box) (g : Bool) : Box := ⟨x.id, x.ports, x.reg, x.two, x.net, x.gates.set 0 g, x.line, x.said⟩
theorem boxPorts {H H1 : Heap} {id : Nat} {x : Box} {q0 q1 q2 q3 q4 : Lf} {fp : List Nat} (hidl : id < H.length) (hI : IsBox H (x.enc q0 q1 q2 q3 q4) x fp) (hid : id ∉ fp) (k : Keep [] H H1) (p : Int) :
    BoxTo H (H1.set id (some ⟨44, .wr, [(setPorts x p).enc q0 q1 q2 q3 q4]⟩)) id fp (setPorts x p) := by
  have ks := Keep.set (id := id) H1 (some ⟨44, .wr, [(setPorts x p).enc q0 q1 q2 q3 q4]⟩)
  have hl := k.1
  have h2 := (hI.keep k (by simp)).keep ks (fun i hi hj => by simp at hj; subst hj; exact hid hi)
  obtain ⟨r0, r1, r2, r3, r4, f0, f1, f2, f3, f4, e, i0, i1, i2, i3, i4, hf, hnd⟩ := h2
  simp only [Box.enc, List.cons.injEq, and_true, true_and] at e
  obtain ⟨rfl, rfl, rfl, rfl, rfl⟩ := e
  exact ⟨_, fp, blkAt_set (by omega), ⟨q0, q1, q2, q3, q4, f0, f1, f2, f3, f4, rfl, i0, i1, i2, i3, i4, hf, hnd⟩, hid, k.trans ks (by simp) (fun i hi _ => by simp at hi; simp [hi]), fun i hi => .inl hi⟩
/-- A box's first gate put. -/
theorem boxGate {H : Heap} {x : Box} {l : List Lf} {fp : List Nat} (hI : IsBox H l x fp) (hg : 0 < x.gates.length) (g : Bool) :
    ∃ (bid : Nat) (blo : Blk) (q0 q1 q3 q4 : Lf), l = x.enc q0 q1 (.sl (some (bid, 0)) x.gates.length) q3 q4 ∧ bid ∈ fp ∧ blkAt H bid = some blo ∧ blo.elem = 4 ∧ blo.md = .wr ∧ blo.rows[0]? = some [.b x.gates[0]] ∧ IsBox (H.set bid (some ⟨4, .wr, blo.rows.set 0 [.b g]⟩)) l (setGate x g) fp := by
  obtain ⟨q0, q1, q2, q3, q4, f0, f1, f2, f3, f4, rfl, i0, i1, ⟨a2, rfl, i2⟩, i3, i4, rfl, hnd⟩ := hI
  obtain ⟨bid, blo, rfl, rfl, hbb, hbe, hbm, hpre⟩ := i2.blk (by intro h; simp at h; rw [h] at hg; simp at hg)
  have hset := i2.set (row := encB g) hbb (i := 0) (by simpa using hg)
  rw [hbe, hbm] at hset
  obtain ⟨tl, htl⟩ := hpre
  have n0 := List.nodup_append.1 hnd
  have n1 := List.nodup_append.1 n0.2.1
  have n2 := List.nodup_append.1 n1.2.1
  have ks := Keep.set (id := bid) H (some ⟨4, .wr, blo.rows.set 0 [.b g]⟩)
  have m0 : ∀ i ∈ f0, i ∉ [bid] := fun i hi h => n0.2.2 i hi i (by simp at h; simp [h]) rfl
  have m1 : ∀ i ∈ f1, i ∉ [bid] := fun i hi h => n1.2.2 i hi i (by simp at h; simp [h]) rfl
  have m3 : ∀ i ∈ f3, i ∉ [bid] := fun i hi h => n2.2.2 i h i (by simp [hi]) rfl
  have m4 : ∀ i ∈ f4, i ∉ [bid] := fun i hi h => n2.2.2 i h i (by simp [hi]) rfl
  refine ⟨bid, blo, q0, q1, q3, q4, rfl, by simp, hbb, hbe, hbm, ?_, ?_⟩
  · rw [← htl, List.getElem?_append_left (by simpa using hg), List.getElem?_map, List.getElem?_eq_getElem hg]; rfl
  · refine ⟨q0, q1, _, q3, q4, f0, f1, [bid], f3, f4, rfl, i0.keep okMinder ks m0, i1.keep ks m1, ⟨some (bid, 0), by simp [setGate], ?_⟩, i3.keep ks m3, i4.keep ks m4, rfl, hnd⟩
    have e : (setGate x g).gates.map encB = (x.gates.map encB).set 0 (encB g) := by simp [setGate, List.map_set]
    rw [e]
    exact hset

theorem setTwo_sz {x : Box} (hx : x.ok = true) {s : Nat} {m : Minder} (hm : m.sz ≤ 100) : (setTwo x s m).sz ≤ 2000 := by
  obtain ⟨hS, -, -, hl⟩ := Box.smallOf hx
  have h2 := hS.two
  have h3 := hS.net; have h4 := hS.gates; have h5 := hS.line; have h6 := hS.said
  have hmm : ∀ y ∈ x.two.set s m, y.sz ≤ 100 := fun y hy => by
    rcases List.mem_or_eq_of_mem_set hy with h | rfl
    · have := hl y h; unfold Minder.sz; omega
    · exact hm
  obtain ⟨a, b, hab⟩ : ∃ a b, x.two.set s m = [a, b] := by
    have : (x.two.set s m).length = 2 := by simpa using h2
    match h : x.two.set s m, this with
    | [a, b], _ => exact ⟨a, b, rfl⟩
  rw [hab] at hmm
  have ha := hmm a (by simp)
  have hb := hmm b (by simp)
  simp [setTwo, Box.sz, hab, MinderS.sz] at *
  omega
theorem l15Draw {H : Heap} {c n : Nat} (hc : Cur H c n) : Runs env 21 [.ptr c 0 0] H fun v H' => (∃ (l : List Lf) (x : Box) (fp : List Nat), v = .agg l ∧ IsBox H' l x fp ∧ x.sz ≤ 2000 ∧ ∀ i ∈ fp, H.length ≤ i) ∧ CurTo H H' c n := by
  have hcl := hc.lt
  refine Runs.walk ok21 Tryz.func21 rfl (by simp [Tryz.f21]) fun Q hQ => ?_
  simp only [Tryz.f21, strip, stripL, stripI, stripG, chkT, tagsB, tagsL, tagD, addT, tagA, lookN, tagOp, elmT, ty22, ty29, ty33, ty39, ty40, ty41, ty42, ty69, ty71, ty95, Nat.reduceEqDiff, if_false, reduceIte, Option.getD_some, Option.getD_none, dstAt, dstOk, Nat.reduceLT, decide_true, if_true]
  have fin : ∀ (HF Y : Heap) (tm : Ab.T) (l : List Lf) (x : Box) (fp : List Nat), HF = Y.set H.length (some ⟨44, .wr, [l]⟩) → tm 2 = .ptr H.length 0 0 → IsBox Y l x fp → x.sz ≤ 2000 → (∀ i ∈ fp, H.length < i) → H.length < Y.length → CurTo H Y c n → Q .ret tm HF := by
    intro HF Y tm l x fp hHF t2 ho hs hf hYl hto
    have hb : blkAt HF H.length = some ⟨44, .wr, [l]⟩ := by rw [hHF]; exact blkAt_set hYl
    have oF : IsBox HF l x fp := by rw [hHF]; exact ho.keep (Keep.set _ _) (fun i hi h => by have := hf i hi; simp at h; omega)
    have htoF : CurTo H HF c n := by rw [hHF]; exact hto.set (by omega) (by omega) _
    refine hQ _ _ _ (by simp) ?_
    have hL := oF.len
    have hT : l.take l.length = l := List.take_length
    rw [hL] at hT
    simp [Tryz.f21, t2, hb, hL, hT]
    refine ⟨?_, htoF.leave hc _⟩
    rcases leave_opt H HF [W.agg l] with e | ⟨e, hr⟩ <;> rw [e]
    · exact ⟨x, fp, oF, hs, fun i hi => by have := hf i hi; omega⟩
    · exact ⟨x, [], oF.free (by simpa using hr) H, hs, by simp⟩
  obtain ⟨X, hX⟩ : ∃ X : Heap, X = H ++ [some ⟨44, .wr, [[.i .i64 0, .i .i64 0, .i .i64 0, .i .i64 0, .i .i64 0, .sl none 0, .sl none 0, .sl none 0, .sl none 0, .sl none 0]]⟩] := ⟨_, rfl⟩
  have bzX : blkAt X H.length = some ⟨44, .wr, [[.i .i64 0, .i .i64 0, .i .i64 0, .i .i64 0, .i .i64 0, .sl none 0, .sl none 0, .sl none 0, .sl none 0, .sl none 0]]⟩ := by rw [hX]; simp
  have hlX : X.length = H.length + 1 := by rw [hX]; simp
  have hcX : CurTo H X c n := by rw [hX]; exact (CurTo.refl hc).app _
  simp
  rw [← hX]
  clear hX
  refine stpL_runs (l15DrawRight hcX.2) ?_
  rintro _ H1 ⟨⟨l, x, fp, rfl, ox, hx, hfp⟩, hto1⟩
  have hL := ox.len
  have hT : l.take l.length = l := List.take_length
  rw [hL] at hT
  simp [hL, hT]
  obtain ⟨Y, hY⟩ : ∃ Y : Heap, Y = H1 ++ [some ⟨44, .wr, [l]⟩] := ⟨_, rfl⟩
  have b3Y : blkAt Y H1.length = some ⟨44, .wr, [l]⟩ := by rw [hY]; simp
  have hlt1 := ox.lt
  have oxY : IsBox Y l x fp := by rw [hY]; exact ox.app _
  have hcY : CurTo H Y c n := by rw [hY]; exact (hcX.next hto1).app _
  have bzY := blkAt_app (hto1.1.blk bzX (by simp; omega)) [some ⟨44, .wr, [l]⟩]
  rw [← hY] at bzY
  have hl1 := hto1.len
  have hlY : Y.length = H1.length + 1 := by rw [hY]; simp
  rw [← hY]
  obtain ⟨K, hK⟩ : ∃ K, K = H1.length := ⟨_, rfl⟩
  rw [← hK] at b3Y hlt1 hlY ⊢
  clear hY ox
  refine stpL_runs (l1Below hcY.2 16) ?_
  rintro _ H2 ⟨⟨k, rfl, -⟩, hto2⟩
  have hcc2 := hcY.next hto2
  have b3 := hto2.1.blk b3Y (by simp; omega)
  have bz2 := hto2.1.blk bzY (by simp; omega)
  have no : ∀ i ∈ fp, i ∉ [c] := fun i hi h => by have := hfp i hi; simp at h; omega
  have ox2 := oxY.keep hto2.1 no
  have hKfp : K ∉ fp := fun h => by have := hlt1 _ h; omega
  have hcfp : c ∉ fp := fun h => no c h (by simp)
  have d3 := blkAt_len b3
  have dz2 := blkAt_len bz2
  have hS := Box.smallOf hx
  have hsz := hS.1.sz
  have hlo : ∀ i ∈ fp, H.length < i := fun i hi => by have := hfp i hi; omega
  have hne3 : ∀ (Y : Heap) (y : Option Blk), blkAt (List.set Y K y) H.length = blkAt Y H.length := fun Y y => blkAt_set_ne (by omega)
  have hne4 : ∀ (Y : Heap) (y : Blk), K < Y.length → blkAt (List.set Y K (some y)) K = some y := fun Y y h => blkAt_set h
  have ox20 := ox2
  obtain ⟨q0, q1, q2, q3, q4, f0, f1, f2, f3, f4, hle, i0, ⟨a1, rfl, o1⟩, i2, ⟨a3, rfl, o3⟩, i4, hfe, hnd⟩ := ox2
  have no' := no
  rw [hfe] at no'
  have cp : ∀ Y, Keep [c] H2 Y → IsMinderS Y q0 x.two f0 ∧ Own Y 82 a1 (x.net.map Wire.enc) f1 ∧ IsBoolS Y q2 x.gates f2 ∧ Own Y 78 a3 (x.line.map In.enc) f3 ∧ IsOutS Y q4 x.said f4 := fun Y hY =>
    ⟨i0.keep okMinder hY (fun i hi => no' i (by simp [hi])), o1.keep hY (fun i hi => no' i (by simp [hi])), i2.keep hY (fun i hi => no' i (by simp [hi])), o3.keep hY (fun i hi => no' i (by simp [hi])), i4.keep hY (fun i hi => no' i (by simp [hi]))⟩
  have hg1 : 0 < x.gates.length := by have := Box.ok_ids hx; omega
  have hloF : ∀ (fp' : List Nat) (m : Nat), H.length < m → (∀ i ∈ fp', i ∈ fp ∨ m ≤ i) → ∀ i ∈ fp', H.length < i := fun fp' m hm h i hi => by
    rcases h i hi with h | h
    · exact hlo i h
    · omega
  have b3l := b3
  rw [hle] at b3l
  simp only [Box.enc] at b3l
  by_cases c0 : k = 0
  · simp [c0, b3l, d3]
    refine stpL_cur (l1Below hto2.2 2) hto2.2 (fun v H' h => h.2) ?_
    rintro _ H3 ⟨⟨k2, rfl, hk0, hk1, -⟩, hto3⟩
    have hk2 := hk1 (by omega)
    obtain ⟨k2, rfl⟩ : ∃ k' : Nat, k2 = (k' : Int) := ⟨k2.toNat, by omega⟩
    have hs : k2 < x.two.length := by rw [hS.1.two]; omega
    have ox3 := (oxY.keep hto2.1 no).keep hto3.1 no
    have b33 := hto3.1.blk b3 (by simp; omega)
    simp
    refine stpL_cur (l12Draw hto3.2) hto3.2 (fun v H' h => h.2) ?_
    rintro _ H4 ⟨⟨l5, m5, f5, rfl, o5, hs5, -, hf5⟩, hto4⟩
    obtain ⟨bid, blo, r1, r2, r3, r4, row, fp', hle2, hbi, hbne, hbb, hbe, hbm, hrow, hrl, z1, z2, z3⟩ := boxPut b33 ox3 hKfp hto4.1 hcfp (by omega) hs o5 hf5
    have hq0 : q0 = .sl (some (bid, 0)) x.two.length := by
      rw [hle2] at hle
      simp only [Box.enc, List.cons.injEq, and_true, true_and] at hle
      exact hle.1.symm
    subst hq0
    have nbid := blkAt_len hbb
    have hDr : row.drop 7 = [] := by rw [← hrl]; exact List.drop_length
    have hLm := o5.len
    have hTm : l5.take l5.length = l5 := List.take_length
    rw [hLm] at hTm
    have hsI : (k2 : Int) < x.two.length := by omega
    have hcc4 := (hcc2.next hto3).next hto4
    have bz4 := hto4.1.blk (hto3.1.blk bz2 (by simp; omega)) (by simp; omega)
    have hbidlo := hlo _ hbi
    have hzb : blkAt (H4.set bid (some ⟨35, .wr, blo.rows.set k2 l5⟩)) H.length = _ := (blkAt_set_ne (by omega)).trans bz4
    have hzl := blkAt_len bz4
    simp [indexAddrV, elemIs, hbb, nbid, hbe, hbm, hs, hsI, hrow, hrl, hDr, hLm, hTm, z1, hL, hT, hzb, hzl]
    refine fin _ _ _ _ _ fp' rfl ?_ z2 (setTwo_sz hx hs5) (hloF _ H3.length (by have := hto3.len; have := hto2.len; omega) z3) (by simpa using hzl) (hcc4.set (by omega) (by omega) _)
    simp
  by_cases c1 : k = 1
  · simp [c1]
    refine stpL_runs (l13DrawReg hto2.2) ?_
    rintro _ H3 ⟨⟨r, rfl⟩, hto3⟩
    have ox3 := ox20.keep hto3.1 no
    rw [hle] at ox3
    have b33 := hto3.1.blk b3l (by simp; omega)
    have bz3 := hto3.1.blk bz2 (by simp; omega)
    have d33 := blkAt_len b33
    have dz3 := blkAt_len bz3
    have hcc3 := hcc2.next hto3
    obtain ⟨l', fp', z1, z2, z3, z4, z5⟩ := boxReg d33 ox3 hKfp (Keep.refl _ _) r
    have e := (blkAt_set d33).symm.trans z1
    simp at e
    subst e
    simp [b33, d33, bz3, dz3, hne3, hne4, Reg.enc]
    refine fin _ _ _ _ _ fp' rfl ?_ z2 (by have : (setReg x r).sz = x.sz := rfl; omega) (hloF _ H3.length (by omega) z5) (by simpa using dz3) (hcc3.set (by omega) (by omega) _)
    simp
  by_cases c5 : k = 5
  · simp [c5]
    refine stpL_runs (l1Below hto2.2 6) ?_
    rintro _ H3 ⟨⟨r, rfl, -⟩, hto3⟩
    have ox3 := ox20.keep hto3.1 no
    rw [hle] at ox3
    have b33 := hto3.1.blk b3l (by simp; omega)
    have bz3 := hto3.1.blk bz2 (by simp; omega)
    have d33 := blkAt_len b33
    have dz3 := blkAt_len bz3
    have hcc3 := hcc2.next hto3
    obtain ⟨l', fp', z1, z2, z3, z4, z5⟩ := boxPorts d33 ox3 hKfp (Keep.refl _ _) r
    have e := (blkAt_set d33).symm.trans z1
    simp at e
    subst e
    simp [b33, d33, bz3, dz3, hne3, hne4]
    refine fin _ _ _ _ _ fp' rfl ?_ z2 (by have : (setPorts x r).sz = x.sz := rfl; omega) (hloF _ H3.length (by omega) z5) (by simpa using dz3) (hcc3.set (by omega) (by omega) _)
    simp
  by_cases c4 : k = 4
  · obtain ⟨bid, blo, r0, r1, r3, r4, hle2, hbi, hbb, hbe, hbm, hrow, z2⟩ := boxGate ox20 hg1 (!x.gates[0])
    have hq2 : q2 = .sl (some (bid, 0)) x.gates.length := by
      rw [hle2] at hle
      simp only [Box.enc, List.cons.injEq, and_true, true_and] at hle
      exact hle.2.2.1.symm
    subst hq2
    have nbid := blkAt_len hbb
    have hbK : bid ≠ K := fun h => hKfp (h ▸ hbi)
    have hbH : bid ≠ H.length := fun h => by have := hlo _ hbi; omega
    have hbh2 : H.length < bid := hlo _ hbi
    have hgI : (0 : Int) < x.gates.length := by omega
    have hzb : ∀ y, blkAt (H2.set bid y) H.length = _ := fun y => (blkAt_set_ne hbH).trans bz2
    have hzk : ∀ y, blkAt (H2.set bid y) K = _ := fun y => (blkAt_set_ne hbK).trans b3l
    simp [c4, b3l, d3, indexAddrV, elemIs, hbb, nbid, hbe, hbm, hgI, hg1, hrow, hzb, hzk, dz2]
    have hgz : (setGate x (!x.gates[0])).sz = x.sz := by simp [setGate, Box.sz]
    refine fin _ _ _ _ _ fp ?_ ?_ z2 (by omega) hlo (by simpa using dz2) (hcc2.set (by omega) (by omega) _)
    · rw [hle]; rfl
    · simp
  by_cases c2 : k = 2
  · simp [c2, b3l, d3]
    refine stpL_cur (l1Below hto2.2 3) hto2.2 (fun v H' h => h.2) ?_
    rintro _ H3 ⟨⟨k2, rfl, -⟩, hto3⟩
    simp
    refine stpL_cur (l1Below hto3.2 3) hto3.2 (fun v H' h => h.2) ?_
    rintro _ H4 ⟨⟨k3, rfl, -⟩, hto4⟩
    simp
    refine stpL_cur (l8DrawBent hto4.2) hto4.2 (fun v H' h => h.2) ?_
    rintro _ H5 ⟨⟨y, rfl⟩, hto5⟩
    have hto25 := (hto3.next hto4).next hto5
    have kY5 := hto25.1
    have hto5c := hto25.1
    have hcc5 := hcc2.next hto25
    have hszA : (setNet x (x.net ++ [⟨k2, false, 1, k3, y⟩])).sz = x.sz + 1 := by simp [setNet, setLine, Box.sz]; omega
    obtain ⟨j0, j1, j2, j3, j4⟩ := cp H5 kY5
    have b35 := hto5c.blk b3l (by simp; omega)
    have bz5 := hto5c.blk bz2 (by simp; omega)
    have d35 := blkAt_len b35
    have hl5 := kY5.1
    simp [Wire.enc, In.enc]
    refine stpL_append (e := 82) (rows := x.net.map Wire.enc) (ys := [(Wire.mk k2 false 1 k3 y).enc]) (j1.app _) (Sl.of (by simp [Wire.enc, In.enc])) rfl rfl rfl (by simp) (by simp; omega) (by simp) rfl fun aa C fc hoC hkC hfC => ?_
    have kC : Keep f1 H5 C := hkC.base
    have hC := kC.1
    have hfl : ∀ i ∈ f1, H.length < i ∧ i ≠ K := fun i hi => ⟨hlo i (by rw [hfe]; simp [hi]), fun h => hKfp (by rw [hfe, ← h]; simp [hi])⟩
    have hfc : ∀ i ∈ fc, i ∈ f1 ∨ H5.length ≤ i := fun i hi => by
      rcases hfC i hi with h | h
      · exact .inl h
      · simp at h; exact .inr (by omega)
    have bC := kC.blk b35 (fun h => (hfl _ h).2 rfl)
    have bzC := kC.blk bz5 (fun h => by have := (hfl _ h).1; omega)
    have dC := blkAt_len bC
    have dzC := blkAt_len bzC
    have hcC := hcc5.own kC (fun i hi => by have := (hfl i hi).1; omega) hcl
    have hKf := hKfp
    rw [hfe] at hKf
    obtain ⟨l', fp', z1, z2, z3, z4, z5⟩ := boxNet (x := x) (q1' := .sl aa (x.net.length + 1)) (ws := x.net ++ [⟨k2, false, 1, k3, y⟩]) d35 hKf j0 j2 ⟨a3, rfl, j3⟩ j4 (hfe ▸ hnd) kC ⟨aa, by simp, by simpa using hoC⟩ hfc
    have e := (blkAt_set dC).symm.trans z1
    simp at e
    subst e
    simp [bC, dC, bzC, dzC, hne3, hne4]
    refine fin _ _ _ _ _ fp' rfl ?_ z2 (by rw [hszA]; omega) (hloF _ H5.length (by omega) (by rw [hfe]; exact z5)) (by simpa using dzC) (hcC.set (by omega) (by omega) _)
    simp
  by_cases c3 : k = 3
  · simp [c3, b3l, d3]
    refine stpL_cur (l8DrawBent hto2.2) hto2.2 (fun v H' h => h.2) ?_
    rintro _ H5 ⟨⟨y, rfl⟩, hto5⟩
    have kY5 := hto5.1
    have hto5c := hto5.1
    have hcc5 := hcc2.next hto5
    have hszA : (setLine x (x.line ++ [y])).sz = x.sz + 1 := by simp [setNet, setLine, Box.sz]; omega
    obtain ⟨j0, j1, j2, j3, j4⟩ := cp H5 kY5
    have b35 := hto5c.blk b3l (by simp; omega)
    have bz5 := hto5c.blk bz2 (by simp; omega)
    have d35 := blkAt_len b35
    have hl5 := kY5.1
    simp [In.enc]
    refine stpL_append (e := 78) (rows := x.line.map In.enc) (ys := [y.enc]) (j3.app _) (Sl.of (by simp [In.enc])) rfl rfl rfl (by simp) (by simp; omega) (by simp) rfl fun aa C fc hoC hkC hfC => ?_
    have kC : Keep f3 H5 C := hkC.base
    have hC := kC.1
    have hfl : ∀ i ∈ f3, H.length < i ∧ i ≠ K := fun i hi => ⟨hlo i (by rw [hfe]; simp [hi]), fun h => hKfp (by rw [hfe, ← h]; simp [hi])⟩
    have hfc : ∀ i ∈ fc, i ∈ f3 ∨ H5.length ≤ i := fun i hi => by
      rcases hfC i hi with h | h
      · exact .inl h
      · simp at h; exact .inr (by omega)
    have bC := kC.blk b35 (fun h => (hfl _ h).2 rfl)
    have bzC := kC.blk bz5 (fun h => by have := (hfl _ h).1; omega)
    have dC := blkAt_len bC
    have dzC := blkAt_len bzC
    have hcC := hcc5.own kC (fun i hi => by have := (hfl i hi).1; omega) hcl
    have hKf := hKfp
    rw [hfe] at hKf
    obtain ⟨l', fp', z1, z2, z3, z4, z5⟩ := boxLine (x := x) (q3' := .sl aa (x.line.length + 1)) (ls := x.line ++ [y]) d35 hKf j0 ⟨a1, rfl, j1⟩ j2 j4 (hfe ▸ hnd) kC ⟨aa, by simp, by simpa using hoC⟩ hfc
    have e := (blkAt_set dC).symm.trans z1
    simp at e
    subst e
    simp [bC, dC, bzC, dzC, hne3, hne4]
    refine fin _ _ _ _ _ fp' rfl ?_ z2 (by rw [hszA]; omega) (hloF _ H5.length (by omega) (by rw [hfe]; exact z5)) (by simpa using dzC) (hcC.set (by omega) (by omega) _)
    simp
  simp [c0, c1, c2, c3, c4, c5, b3, d3, hL, hT, bz2, dz2]
  refine fin _ _ _ _ _ fp rfl ?_ ox20 (by omega) hlo dz2 hcc2
  simp

/-- A text, of its bytes. -/
abbrev BA (l : List UInt8) : ByteArray := ⟨l.toArray⟩
theorem BA_append (a b : List UInt8) : BA a ++ BA b = BA (a ++ b) := by
  apply ByteArray.ext
  apply Array.ext'
  simp
@[simp] theorem BA_size (a : List UInt8) : (BA a).size = a.length := by
  show (a.toArray).size = _
  simp
theorem BA_inj {a b : List UInt8} (h : BA a = BA b) : a = b := by
  have := congrArg (fun x => x.data.toList) h
  simpa using this
theorem binStr_add {a b : List UInt8} (h : a.length + b.length ≤ 9223372036854775807) : binStr .add (BA a) (BA b) = some (.str (BA (a ++ b))) := by
  unfold binStr
  simp only [BA_size, if_pos h, BA_append]
theorem binV_add (τ : Tab) (t : Nat) {a b : List UInt8} (h : a.length + b.length ≤ 9223372036854775807) : binV τ .add t (.str (BA a)) (.str (BA b)) = some (.str (BA (a ++ b))) := by
  show binStr .add (BA a) (BA b) = _
  exact binStr_add h
theorem wrap8 {n : Int} (h0 : 0 ≤ n) (h1 : n < 256) : IntKind.u8.wrap n = n := by
  simp [IntKind.wrap, IntKind.bits, IntKind.signed]
  omega

/-- The digits of a number but 0. -/
def decD (u : Nat) : List UInt8 := if u = 0 then [] else Lib.decDigits u
theorem decD_step {u : Nat} (h : u ≠ 0) : decD u = decD (u / 10) ++ [UInt8.ofNat (48 + u % 10)] := by
  unfold decD
  rw [if_neg h, Lib.decDigits]
  split
  · rename_i h1
    have h2 : u / 10 = 0 := by omega
    have h3 : u % 10 = u := by omega
    rw [h2, h3]; simp
  · rename_i h1
    have h2 : u / 10 ≠ 0 := by omega
    rw [if_neg h2]
theorem decD_len : ∀ (j u : Nat), u < 10 ^ j → (decD u).length ≤ j
  | 0, u, h => by
    have : u = 0 := by simpa using h
    subst this; simp [decD]
  | j + 1, u, h => by
    by_cases h0 : u = 0
    · subst h0; simp [decD]
    · rw [decD_step h0, List.length_append]
      have := decD_len j (u / 10) (by rw [Nat.pow_succ] at h; omega)
      simp; omega
theorem bytesStr_new {H : Heap} {n : Nat} (hn : n < 256) : bytesStr env.τ (H ++ [some ⟨5, .wr, [[.i .u8 (n : Int)]]⟩]) 22 9 (.sl H.length 0 1) = some (.str (BA [UInt8.ofNat n])) := by
  have hb : blkAt (H ++ [some ⟨5, .wr, [[.i .u8 (n : Int)]]⟩]) H.length = some ⟨5, .wr, [[.i .u8 (n : Int)]]⟩ := by simp [blkAt]
  have h1 : (0 : Int) ≤ (n : Int) ∧ (n : Int) < 256 := by omega
  simp [bytesStr, elemIs, rowsOf, hb, bytesV, h1]
theorem specDigits {H : Heap} {n : Int} (hn : I64 n) : run env 31 [.int n] H = some (.str (BA (Lib.itoa n)), H) := by
  refine run_walk ok31 Tryz.func31 rfl (by simp [Tryz.f31]) fun Q hQ => ?_
  simp only [Tryz.f31, strip, stripL, stripI, stripG, chkT, tagsB, tagsL, tagD, addT, tagA, lookN, tagOp, elmT, ty22, ty29, ty33, ty39, ty40, ty41, ty42, ty69, ty71, ty95, Nat.reduceEqDiff, if_false, reduceIte, Option.getD_some, Option.getD_none, dstAt, dstOk, Nat.reduceLT, decide_true, if_true]
  simp
  refine selS_intro (fun hc => ?_) (fun hc => ?_)
  · simp at hc
    subst hc
    simp
    refine hQ _ _ _ (by simp) ?_
    simp [Tryz.f31, leave]
    simp [Lib.itoa, Lib.decDigits]
  · simp at hc
    simp
    refine wpS_loop (fun j tm A => ∃ (x : Int) (acc : List UInt8) (G : Heap), A = H ++ G ∧ I64 x ∧ x.natAbs < 10 ^ j ∧ tm 0 = .int x ∧ tm 3 = .bool (decide (n < 0)) ∧ tm 4 = .str (BA acc) ∧ decD x.natAbs ++ acc = Lib.decDigits n.natAbs) 20 (by rw [env_K]; omega) ⟨n, [], [], by simp, hn, by unfold I64 at hn; simp; omega, by simp, by simp, rfl, by simp [decD]; omega⟩ ?_
    rintro j tm A hj ⟨x, acc, G, hA, hx, hxj, t0, t3, t4, hd⟩ Q2 hn2 he2 hr2
    have hacc : acc.length ≤ 100 := by
      have h1 : (decD x.natAbs ++ acc).length ≤ 20 := by
        rw [hd]
        have h2 := decD_len 20 n.natAbs (by unfold I64 at hn; omega)
        unfold decD at h2
        rw [if_neg (by omega)] at h2
        exact h2
      simp at h1; omega
    simp [t0, t4]
    refine selS_intro (fun hx0 => ?_) (fun hx0 => ?_)
    · simp at hx0
      obtain ⟨d, hdd⟩ : ∃ d : Nat, d = x.natAbs % 10 := ⟨_, rfl⟩
      have hd10 : d < 10 := by omega
      have hj0 : 0 < j := by
        rcases Nat.eq_zero_or_pos j with h | h
        · subst h; simp at hxj; omega
        · exact h
      have hstep := decD_step (u := x.natAbs) (by omega)
      rw [← hdd] at hstep
      obtain ⟨c, hc8⟩ : ∃ c : UInt8, c = UInt8.ofNat (48 + d) := ⟨_, rfl⟩
      rw [← hc8] at hstep
      have hq : (x.tdiv 10).natAbs = x.natAbs / 10 := by rw [Int.natAbs_tdiv]; rfl
      have hq2 : (x.tdiv 10).natAbs < 10 ^ (j - 1) := by
        rw [hq]
        have : 10 ^ j = 10 ^ (j - 1) * 10 := by rw [← Nat.pow_succ]; congr 1; omega
        omega
      have hq64 : I64 (x.tdiv 10) := by unfold I64 at hx ⊢; omega
      have hwq : IntKind.i64.wrap (x.tdiv 10) = x.tdiv 10 := wrap64 (by unfold I64 at hq64; omega) (by unfold I64 at hq64; omega)
      have hw5 : IntKind.i64.wrap (48 + (d : Int)) = 48 + (d : Int) := wrap64 (by omega) (by omega)
      have hw8 : IntKind.u8.wrap (48 + (d : Int)) = ((48 + d : Nat) : Int) := by
        rw [show (48 + (d : Int)) = ((48 + d : Nat) : Int) by omega]
        exact wrap8 (by omega) (by omega)
      have e6 : (x.tmod 10).natAbs = x.natAbs % 10 := Int.natAbs_tmod x 10
      have hadd := binV_add env.τ 9 (a := [c]) (b := acc) (by simp; omega)
      have hnew : bytesStr env.τ (A ++ [some ⟨5, .wr, [[.i .u8 (48 + (d : Int))]]⟩]) 22 9 (.sl A.length 0 1) = some (.str (BA [c])) := by
        rw [hc8, show (48 + (d : Int)) = ((48 + d : Nat) : Int) by omega]
        exact bytesStr_new (by omega)
      by_cases hneg : x.tmod 10 < 0
      · have e5 : -x.tmod 10 = d := by omega
        have hw0 : IntKind.i64.wrap (d : Int) = (d : Int) := wrap64 (by omega) (by omega)
        simp [t0, t3, t4, hneg, e5, hw0, hw5, hw8, convV, hnew, hadd, hwq]
        refine hn2 (j - 1) _ _ (by omega) ⟨x.tdiv 10, c :: acc, _, by rw [hA, List.append_assoc], hq64, hq2, by simp, by simp [t3], by simp, ?_⟩
        rw [hq, ← hd, hstep]; simp
      · have e5 : x.tmod 10 = d := by omega
        have hdn : ¬ ((d : Int) < 0) := by omega
        simp [t0, t3, t4, e5, hdn, hw5, hw8, convV, hnew, hadd, hwq]
        refine hn2 (j - 1) _ _ (by omega) ⟨x.tdiv 10, c :: acc, _, by rw [hA, List.append_assoc], hq64, hq2, by simp, by simp [t3], by simp, ?_⟩
        rw [hq, ← hd, hstep]; simp
    · simp at hx0
      subst hx0
      simp
      refine he2 _ _ _ ?_
      have hd' : acc = Lib.decDigits n.natAbs := by rw [← hd]; simp [decD]
      simp [t3, t4]
      refine selS_intro (fun hneg => ?_) (fun hneg => ?_)
      · simp at hneg
        have hadd := binV_add env.τ 9 (a := [45]) (b := acc) (by simp; omega)
        simp [t4, hadd]
        refine hQ _ _ _ (by simp) ?_
        simp [Tryz.f31, leave, hA]
        simp [Lib.itoa, hneg, hd']
      · simp at hneg
        simp [t4]
        refine hQ _ _ _ (by simp) ?_
        simp [Tryz.f31, leave, hA]
        rw [hd', Lib.itoa, if_neg (by omega)]
        rw [show n.natAbs = n.toNat by omega]

def Vec.rg (v : Vec) : Prop := I64 v.root ∧ I64 v.cost ∧ I64 v.bridge ∧ I64 v.port
def Port.rg (p : Port) : Prop := p.vec.rg ∧ I64 p.role ∧ I64 p.wait

/-- The plain texts. -/
def vecT (v : Vec) : List UInt8 := Lib.itoa v.root ++ [46] ++ Lib.itoa v.cost ++ [46] ++ Lib.itoa v.bridge ++ [46] ++ Lib.itoa v.port
def roleT (r : Int) : List UInt8 := if r = 0 then [111, 102, 102] else if r = 1 then [114, 111, 111, 116] else if r = 2 then [100, 101, 115] else if r = 3 then [97, 108, 116] else [110, 111, 110, 101]
def openT (b : Bool) : List UInt8 := if b then [111, 112, 101, 110] else [115, 104, 117, 116]
def portT (p : Port) : List UInt8 := roleT p.role ++ [32] ++ openT p.opn ++ [32] ++ Lib.itoa p.wait ++ [32] ++ (if p.has then vecT p.vec else [45])
theorem itoa_len {n : Int} (h : I64 n) : (Lib.itoa n).length ≤ 21 := Lib.itoa_length_le n h.1 h.2
theorem vecT_len {v : Vec} (h : v.rg) : (vecT v).length ≤ 87 := by
  have h1 := itoa_len h.1
  have h2 := itoa_len h.2.1
  have h3 := itoa_len h.2.2.1
  have h4 := itoa_len h.2.2.2
  simp [vecT]; omega
theorem roleT_len (r : Int) : (roleT r).length ≤ 4 := by
  unfold roleT
  repeat' split
  all_goals simp
theorem openT_len (b : Bool) : (openT b).length = 4 := by cases b <;> rfl
theorem portT_len {p : Port} (h : p.rg) : (portT p).length ≤ 120 := by
  have h1 := vecT_len h.1
  have h2 := itoa_len h.2.2
  have h3 := roleT_len p.role
  have h4 := openT_len p.opn
  simp [portT]
  split <;> (try simp) <;> omega

theorem itoaRun {H : Heap} {n : Int} (h : I64 n) : run env 43 [.int n] H = some (.str (BA (Lib.itoa n)), H) := by
  refine run_ext nok43 ?_
  rw [ext_is, if_pos rfl]
  unfold I64 at h
  simp [itoaX, h]
theorem joinRun {H : Heap} {a : Option (Nat × Nat)} {xs : List (List UInt8)} {sep : List UInt8} (hr : rowsOf H a xs.length = some (xs.map fun x => [Lf.s (BA x)])) (hn : xs.length ≤ 140737488355328) (hl : (Lib.join xs sep).length ≤ 140737488355328) :
    run env 28 [.w (.lf (.sl a xs.length)), .str (BA sep)] H = some (.str (BA (Lib.join xs sep)), H) := by
  have h1 : ∀ ys : List (List UInt8), strsV (ys.map fun x => [Lf.s (BA x)]) = some (ys.map BA) := by
    intro ys
    induction ys with
    | nil => rfl
    | cons y ys ih => simp [strsV, ih]
  have h2 : joinT (xs.map BA) (BA sep) = Lib.join xs sep := by
    unfold joinT
    rw [List.map_map]
    show Lib.join (xs.map fun x => x) sep = _
    rw [List.map_id']
  refine run_ext nok28 ?_
  rw [ext_is, if_neg (by decide), if_pos rfl]
  simp [joinX, hr, h1, h2, hn, hl]

theorem implDigits {H : Heap} {n : Int} (h : I64 n) : run env 24 [.int n] H = some (.str (BA (Lib.itoa n)), H) := by
  refine run_walk ok24 Tryz.func24 rfl (by simp [Tryz.f24]) fun Q hQ => ?_
  simp only [Tryz.f24, strip, stripL, stripI, stripG, chkT, tagsB, tagsL, tagD, addT, tagA, lookN, tagOp, elmT, ty22, ty29, ty33, ty39, ty40, ty41, ty42, ty69, ty71, ty95, Nat.reduceEqDiff, if_false, reduceIte, Option.getD_some, Option.getD_none, dstAt, dstOk, Nat.reduceLT, decide_true, if_true]
  have e0 := fun H => itoaRun (H := H) h
  simp [e0]
  all_goals (refine hQ _ _ _ (by simp) ?_)
  all_goals (clear hQ; simp [Tryz.f24])

theorem specVecText {H : Heap} {v : Vec} (h : v.rg) : run env 32 [.agg v.enc] H = some (.str (BA (vecT v)), H) := by
  refine run_walk ok32 Tryz.func32 rfl (by simp [Tryz.f32]) fun Q hQ => ?_
  simp only [Tryz.f32, strip, stripL, stripI, stripG, chkT, tagsB, tagsL, tagD, addT, tagA, lookN, tagOp, elmT, ty22, ty29, ty33, ty39, ty40, ty41, ty42, ty69, ty71, ty95, Nat.reduceEqDiff, if_false, reduceIte, Option.getD_some, Option.getD_none, dstAt, dstOk, Nat.reduceLT, decide_true, if_true]
  have e1 := fun H => specDigits (H := H) h.1
  have e2 := fun H => specDigits (H := H) h.2.1
  have e3 := fun H => specDigits (H := H) h.2.2.1
  have e4 := fun H => specDigits (H := H) h.2.2.2
  have h1 := itoa_len h.1
  have h2 := itoa_len h.2.1
  have h3 := itoa_len h.2.2.1
  have h4 := itoa_len h.2.2.2
  simp [Vec.enc, e1, e2, e3, e4]
  rw [binV_add _ _ (by simp; omega)]
  simp [Vec.enc, e1, e2, e3, e4]
  rw [binV_add _ _ (by simp; omega)]
  simp
  rw [binV_add _ _ (by simp; omega)]
  simp [e3]
  rw [binV_add _ _ (by simp; omega)]
  simp
  rw [binV_add _ _ (by simp; omega)]
  simp [e4]
  rw [binV_add _ _ (by simp; omega)]
  simp
  all_goals (refine hQ _ _ _ (by simp) ?_)
  all_goals (clear hQ; simp [Tryz.f32, leave, vecT])

theorem implVecText {H : Heap} {v : Vec} (h : v.rg) : run env 27 [.agg v.enc] H = some (.str (BA (vecT v)), H) := by
  refine run_walk ok27 Tryz.func27 rfl (by simp [Tryz.f27]) fun Q hQ => ?_
  simp only [Tryz.f27, strip, stripL, stripI, stripG, chkT, tagsB, tagsL, tagD, addT, tagA, lookN, tagOp, elmT, ty22, ty29, ty33, ty39, ty40, ty41, ty42, ty69, ty71, ty95, Nat.reduceEqDiff, if_false, reduceIte, Option.getD_some, Option.getD_none, dstAt, dstOk, Nat.reduceLT, decide_true, if_true]
  have e1 := fun H => implDigits (H := H) h.1
  have e2 := fun H => implDigits (H := H) h.2.1
  have e3 := fun H => implDigits (H := H) h.2.2.1
  have e4 := fun H => implDigits (H := H) h.2.2.2
  have h1 := itoa_len h.1
  have h2 := itoa_len h.2.1
  have h3 := itoa_len h.2.2.1
  have h4 := itoa_len h.2.2.2
  simp [Vec.enc, e1, e2, e3, e4]
  rw [binV_add _ _ (by simp; omega)]
  simp [Vec.enc, e1, e2, e3, e4]
  rw [binV_add _ _ (by simp; omega)]
  simp
  rw [binV_add _ _ (by simp; omega)]
  simp [e3]
  rw [binV_add _ _ (by simp; omega)]
  simp
  rw [binV_add _ _ (by simp; omega)]
  simp [e4]
  rw [binV_add _ _ (by simp; omega)]
  simp
  all_goals (refine hQ _ _ _ (by simp) ?_)
  all_goals (clear hQ; simp [Tryz.f27, leave, vecT])

theorem implRoleText {H : Heap} {r : Int} : run env 29 [.int r] H = some (.str (BA (roleT r)), H) := by
  refine run_walk ok29 Tryz.func29 rfl (by simp [Tryz.f29]) fun Q hQ => ?_
  simp only [Tryz.f29, strip, stripL, stripI, stripG, chkT, tagsB, tagsL, tagD, addT, tagA, lookN, tagOp, elmT, ty22, ty29, ty33, ty39, ty40, ty41, ty42, ty69, ty71, ty95, Nat.reduceEqDiff, if_false, reduceIte, Option.getD_some, Option.getD_none, dstAt, dstOk, Nat.reduceLT, decide_true, if_true]
  by_cases h0 : r = 0
  · simp [h0]
    all_goals (refine hQ _ _ _ (by simp) ?_)
    all_goals (clear hQ; simp [Tryz.f29, leave, roleT, h0])
  by_cases h1 : r = 1
  · simp [h0, h1]
    all_goals (refine hQ _ _ _ (by simp) ?_)
    all_goals (clear hQ; simp [Tryz.f29, leave, roleT, h0, h1])
  by_cases h2 : r = 2
  · simp [h0, h1, h2]
    all_goals (refine hQ _ _ _ (by simp) ?_)
    all_goals (clear hQ; simp [Tryz.f29, leave, roleT, h0, h1, h2])
  by_cases h3 : r = 3
  · simp [h0, h1, h2, h3]
    all_goals (refine hQ _ _ _ (by simp) ?_)
    all_goals (clear hQ; simp [Tryz.f29, leave, roleT, h0, h1, h2, h3])
  · simp [h0, h1, h2, h3]
    all_goals (refine hQ _ _ _ (by simp) ?_)
    all_goals (clear hQ; simp [Tryz.f29, leave, roleT, h0, h1, h2, h3])

theorem specPortText {H : Heap} {p : Port} (h : p.rg) : run env 11 [.agg p.enc] H = some (.str (BA (portT p)), H) := by
  have e1 := fun H => specDigits (H := H) h.2.2
  have e2 := fun H => specVecText (H := H) h.1
  have h1 := itoa_len h.2.2
  have h2 := vecT_len h.1
  simp only [Vec.enc] at e2
  refine run_walk ok11 Tryz.func11 rfl (by simp [Tryz.f11]) fun Q hQ => ?_
  simp only [Tryz.f11, strip, stripL, stripI, stripG, chkT, tagsB, tagsL, tagD, addT, tagA, lookN, tagOp, elmT, ty22, ty29, ty33, ty39, ty40, ty41, ty42, ty69, ty71, ty95, Nat.reduceEqDiff, if_false, reduceIte, Option.getD_some, Option.getD_none, dstAt, dstOk, Nat.reduceLT, decide_true, if_true]
  obtain ⟨up, has, vec, hops, left, role, wait, opn⟩ := p
  simp only at h1 h2 e1 e2
  by_cases hr : 0 ≤ role ∧ role ≤ 3
  · have hr4 : role = 0 ∨ role = 1 ∨ role = 2 ∨ role = 3 := by omega
    rcases hr4 with rfl | rfl | rfl | rfl <;> cases opn <;> cases has
    all_goals simp (disch := (simp; try omega)) [Port.enc, l1In, e1, e2, indexAddrV, elemIs, binV_add]
    all_goals (refine hQ _ _ _ (by simp) ?_)
    all_goals (simp [Tryz.f11, leave, portT, roleT, openT])
  · have hx : roleT role = [110, 111, 110, 101] := by
      unfold roleT
      rw [if_neg (by omega), if_neg (by omega), if_neg (by omega), if_neg (by omega)]
    have hr2 : (decide (0 ≤ role) && decide (role ≤ 3)) = false := by
      rw [Bool.and_eq_false_iff]
      simp; omega
    clear hr
    cases opn <;> cases has
    all_goals simp (disch := (simp; try omega)) [Port.enc, l1In, hr2, e1, e2, indexAddrV, elemIs, binV_add]
    all_goals (refine hQ _ _ _ (by simp) ?_)
    all_goals (simp [Tryz.f11, leave, portT, hx, openT])

theorem implPortText {H : Heap} {p : Port} (h : p.rg) : run env 10 [.agg p.enc] H = some (.str (BA (portT p)), H) := by
  have e1 := fun H => implDigits (H := H) h.2.2
  have e2 := fun H => implVecText (H := H) h.1
  have e3 := fun H => implRoleText (H := H) (r := p.role)
  have h1 := itoa_len h.2.2
  have h2 := vecT_len h.1
  have h3 := roleT_len p.role
  have h4 := portT_len h
  simp only [Vec.enc] at e2
  refine run_walk ok10 Tryz.func10 rfl (by simp [Tryz.f10]) fun Q hQ => ?_
  simp only [Tryz.f10, strip, stripL, stripI, stripG, chkT, tagsB, tagsL, tagD, addT, tagA, lookN, tagOp, elmT, ty22, ty29, ty33, ty39, ty40, ty41, ty42, ty69, ty71, ty95, Nat.reduceEqDiff, if_false, reduceIte, Option.getD_some, Option.getD_none, dstAt, dstOk, Nat.reduceLT, decide_true, if_true]
  obtain ⟨up, has, vec, hops, left, role, wait, opn⟩ := p
  simp only at h1 h2 h3 e1 e2 e3
  have ej : ∀ (H : Heap) (B : Option Blk) (o x : List UInt8), o.length ≤ 4 → x.length ≤ 100 →
      run env 28 [.sl (H.length + 1) 0 4, .str (BA [32])] (H ++ [B, some ⟨9, .wr, [[.s (BA (roleT role))], [.s (BA o)], [.s (BA (Lib.itoa wait))], [.s (BA x)]]⟩]) =
        some (.str (BA (Lib.join [roleT role, o, Lib.itoa wait, x] [32])), H ++ [B, some ⟨9, .wr, [[.s (BA (roleT role))], [.s (BA o)], [.s (BA (Lib.itoa wait))], [.s (BA x)]]⟩]) := by
    intro H B o x ho hx
    refine joinRun (xs := [roleT role, o, Lib.itoa wait, x]) (by simp [rowsOf, blkAt]) (by simp) ?_
    rw [Lib.join_cons]
    simp [Lib.joinTail]
    omega
  cases opn <;> cases has
  all_goals simp (disch := ((try simp); (try omega))) [Port.enc, e1, e2, e3, ej]
  all_goals (refine hQ _ _ _ (by simp) ?_)
  all_goals (simp [Tryz.f10, leave, portT, openT, Lib.join_cons, Lib.joinTail])

abbrev strRow (l : List UInt8) : List Lf := [.s (BA l)]
theorem joinSl {H : Heap} {a : Option (Nat × Nat)} {xs : List (List UInt8)} {sep : List UInt8} {m : Nat} (h : Sl H 9 a (xs.map strRow)) (hm : m = xs.length) (hn : xs.length ≤ 140737488355328) (hl : (Lib.join xs sep).length ≤ 140737488355328) :
    run env 28 [.w (.lf (.sl a m)), .str (BA sep)] H = some (.str (BA (Lib.join xs sep)), H) := by
  subst hm
  exact joinRun (rowsOf_sl h (by simp)) hn hl
theorem joinLen (xs : List (List UInt8)) (h : ∀ x ∈ xs, x.length ≤ 21) : (Lib.join xs [32]).length ≤ 22 * xs.length := by
  have key : ∀ ys : List (List UInt8), (∀ x ∈ ys, x.length ≤ 21) → (Lib.joinTail [32] ys).length ≤ 22 * ys.length := by
    intro ys
    induction ys with
    | nil => intro _; simp [Lib.joinTail]
    | cons y ys ih =>
      intro hy
      have h1 := ih fun x hx => hy x (by simp [hx])
      have h2 := hy y (by simp)
      simp [Lib.joinTail] at h1 ⊢
      omega
  cases xs with
  | nil => simp [Lib.join_nil]
  | cons x xs =>
    rw [Lib.join_cons, List.length_append]
    have h1 := key xs fun y hy => h y (by simp [hy])
    have h2 := h x (by simp)
    simp
    omega

theorem implNumbers {H : Heap} {a : Option (Nat × Nat)} {ns : List Int} (hs : Sl H 3 a (ns.map encI)) (hr : ∀ n ∈ ns, I64 n) (hn : ns.length ≤ 100) :
    run env 23 [.w (.lf (.sl a ns.length))] H = some (.str (BA (Lib.join (ns.map Lib.itoa) [32])), H) := by
  refine run_walk ok23 Tryz.func23 rfl (by simp [Tryz.f23]) fun Q hQ => ?_
  simp only [Tryz.f23, strip, stripL, stripI, stripG, chkT, tagsB, tagsL, tagD, addT, tagA, lookN, tagOp, elmT, ty22, ty29, ty33, ty39, ty40, ty41, ty42, ty69, ty71, ty95, Nat.reduceEqDiff, if_false, reduceIte, Option.getD_some, Option.getD_none, dstAt, dstOk, Nat.reduceLT, decide_true, if_true]
  simp [builtinV, pureB, lenV]
  refine wpS_loop (fun j tm A => ∃ (i : Nat) (aa : Option (Nat × Nat)) (fd : List Nat), i + j = ns.length ∧ tm 6 = .w (.lf (.sl a ns.length)) ∧ tm 7 = .int ns.length ∧ tm 8 = .int i ∧ tm 3 = .w (.lf (.sl aa i)) ∧ Own A 9 aa (((ns.take i).map Lib.itoa).map strRow) fd ∧ (∀ k ∈ fd, H.length ≤ k) ∧ Keep [] H A) ns.length (by rw [env_K]; omega) ⟨0, none, [], by simp, by simp, by simp, by simp, by simp, Own.nil _ _, by simp, Keep.refl _ _⟩ ?_
  rintro j tm A hj ⟨i, aa, fd, hij, t6, t7, t8, t3, oD, hfd, hk⟩ Q2 hn2 he2 hr2
  simp [t3, t6, t7, t8]
  refine selS_intro (fun hc => ?_) (fun hc => ?_)
  · simp at hc
    obtain ⟨id, r, bl, rfl, hbl, hbe, hrow⟩ := (hs.keep hk (by simp)) i _ (by simp [hc]; rfl)
    have g4 : IntKind.i64.wrap ((i : Int) + 1) = (i : Int) + 1 := wrap64 (by omega) (by omega)
    have e1 := fun H => implDigits (H := H) (hr ns[i] (by simp))
    simp [t3, t6, t7, t8, indexAddrV, elemIs, hbl, hbe, hc, hrow, encI, e1]
    refine stpL_append (e := 9) (rows := ((ns.take i).map Lib.itoa).map strRow) (ys := [strRow (Lib.itoa ns[i])]) (oD.app _) (Sl.of (by simp)) rfl rfl rfl (by simp) (by simp; omega) (by simp; omega) rfl fun a2 E fc hoE hkE hfE => ?_
    simp [t8, g4]
    have hlA := hk.1
    refine hn2 (j - 1) _ _ (by omega) ⟨i + 1, a2, fc, by omega, by simp [t6], by simp [t7], by simp, by simp, ?_, ?_, ?_⟩
    · rw [List.take_add_one, List.getElem?_eq_getElem hc]
      rw [List.map_append, List.map_append]
      exact hoE
    · intro k hkk
      rcases hfE k hkk with h | h
      · exact hfd k h
      · simp at h; omega
    · exact (hk.next (Keep.app [] _ _) (by simp)).next hkE hfd
  · simp at hc
    have hi : i = ns.length := by omega
    subst hi
    rw [List.take_length] at oD
    have hj1 := joinSl (sep := [32]) (m := ns.length) oD.sl (by simp) (by simp; omega) (by have := joinLen (ns.map Lib.itoa) (by simp; exact fun n hn => itoa_len (hr n hn)); simp at this ⊢; omega)
    simp [t3, t6, t7, t8]
    refine he2 _ _ _ ?_
    simp [t3, hj1]
    refine hQ _ _ _ (by simp) ?_
    obtain ⟨G, rfl⟩ := hk.ext
    simp [Tryz.f23, leave]

def minderT (m : Minder) : List UInt8 := (if m.up then [117, 112] else [100, 111, 119, 110]) ++ [32] ++ Lib.join ([m.life, m.epoch, (m.log.length : Int), m.said, m.acked, m.ackLife].map Lib.itoa) [32]
def Minder.rg (m : Minder) : Prop := I64 m.life ∧ I64 m.epoch ∧ I64 m.said ∧ I64 m.acked ∧ I64 m.ackLife
theorem minderT_len {m : Minder} (h : m.rg) (hl : m.log.length ≤ 1048576) : (minderT m).length ≤ 140 := by
  obtain ⟨h1, h2, h3, h4, h5⟩ := h
  have h6 := joinLen ([m.life, m.epoch, (m.log.length : Int), m.said, m.acked, m.ackLife].map Lib.itoa) (by
    intro x hx
    obtain ⟨n, hn, rfl⟩ := List.mem_map.1 hx
    simp at hn
    rcases hn with rfl | rfl | rfl | rfl | rfl | rfl <;> apply itoa_len <;> first | assumption | (unfold I64; omega))
  simp only [List.length_map, List.length_cons, List.length_nil] at h6
  unfold minderT
  simp only [List.length_append]
  split <;> simp only [List.length_cons, List.length_nil] <;> omega
theorem implMinderText_is {H : Heap} {l : List Lf} {m : Minder} (h : RdMinder H l m) (hl : m.log.length ≤ 1048576) (hg : m.rg) : run env 14 [.agg l] H = some (.str (BA (minderT m)), H) := by
  obtain ⟨a, rfl, hs⟩ := h
  obtain ⟨g1, g2, g3, g4, g5⟩ := hg
  have en : ∀ (H : Heap) (B : Option Blk), run env 23 [.sl (H.length + 1) 0 6] (H ++ [B, some ⟨3, .wr, [[.i .i64 m.life], [.i .i64 m.epoch], [.i .i64 (m.log.length : Int)], [.i .i64 m.said], [.i .i64 m.acked], [.i .i64 m.ackLife]]⟩]) =
      some (.str (BA (Lib.join ([m.life, m.epoch, (m.log.length : Int), m.said, m.acked, m.ackLife].map Lib.itoa) [32])), H ++ [B, some ⟨3, .wr, [[.i .i64 m.life], [.i .i64 m.epoch], [.i .i64 (m.log.length : Int)], [.i .i64 m.said], [.i .i64 m.acked], [.i .i64 m.ackLife]]⟩]) := fun H B =>
    implNumbers (a := some (H.length + 1, 0)) (ns := [m.life, m.epoch, (m.log.length : Int), m.said, m.acked, m.ackLife]) (fun i row hr => ⟨H.length + 1, 0, ⟨3, .wr, _⟩, rfl, by simp [blkAt]; rfl, rfl, by simpa [encI] using hr⟩) (by
      intro n hn
      simp at hn
      rcases hn with rfl | rfl | rfl | rfl | rfl | rfl <;> first | assumption | (unfold I64; omega)) (by simp)
  have hlen := minderT_len (m := m) ⟨g1, g2, g3, g4, g5⟩ hl
  unfold minderT at hlen
  simp only [List.length_append] at hlen
  refine run_walk ok14 Tryz.func14 rfl (by simp [Tryz.f14]) fun Q hQ => ?_
  simp only [Tryz.f14, strip, stripL, stripI, stripG, chkT, tagsB, tagsL, tagD, addT, tagA, lookN, tagOp, elmT, ty22, ty29, ty33, ty39, ty40, ty41, ty42, ty69, ty71, ty95, Nat.reduceEqDiff, if_false, reduceIte, Option.getD_some, Option.getD_none, dstAt, dstOk, Nat.reduceLT, decide_true, if_true]
  cases hup : m.up
  all_goals simp [Minder.enc, hup, builtinV, pureB, lenV]
  all_goals rw [binV_add _ _ (by simp)]
  all_goals simp [Minder.enc, hup, builtinV, pureB, lenV, en]
  all_goals rw [binV_add _ _ (by simp [hup] at hlen ⊢; omega)]
  all_goals simp
  all_goals (refine hQ _ _ _ (by simp) ?_)
  all_goals (simp [Tryz.f14, leave, minderT, hup])

theorem specMinderText_is {H : Heap} {l : List Lf} {m : Minder} (h : RdMinder H l m) (hl : m.log.length ≤ 1048576) (hg : m.rg) : run env 15 [.agg l] H = some (.str (BA (minderT m)), H) := by
  obtain ⟨a, rfl, hs⟩ := h
  obtain ⟨ns, hns⟩ : ∃ ns : List Int, ns = [m.life, m.epoch, (m.log.length : Int), m.said, m.acked, m.ackLife] := ⟨_, rfl⟩
  have hnl : ns.length = 6 := by rw [hns]; rfl
  have hr : ∀ n ∈ ns, I64 n := by
    obtain ⟨g1, g2, g3, g4, g5⟩ := hg
    intro n hn
    rw [hns] at hn
    simp at hn
    rcases hn with rfl | rfl | rfl | rfl | rfl | rfl <;> first | assumption | (unfold I64; omega)
  obtain ⟨base, hbase⟩ : ∃ base : List UInt8, base = if m.up then [117, 112] else [100, 111, 119, 110] := ⟨_, rfl⟩
  have hbl : base.length ≤ 4 := by rw [hbase]; split <;> simp
  have hfin : base ++ (ns.map fun n => 32 :: Lib.itoa n).flatten = minderT m := by
    rw [hns, hbase, minderT]
    simp [Lib.join_cons, Lib.joinTail]
  have hlen : ∀ i, (base ++ ((ns.take i).map fun n => 32 :: Lib.itoa n).flatten).length ≤ 4 + 22 * i := by
    intro i
    induction i with
    | zero => simp; omega
    | succ i ih =>
      rw [List.take_add_one]
      cases hi : ns[i]? with
      | none => simp at ih ⊢; omega
      | some n =>
        have := itoa_len (hr n (List.mem_of_getElem? hi))
        simp at ih ⊢; omega
  refine run_walk ok15 Tryz.func15 rfl (by simp [Tryz.f15]) fun Q hQ => ?_
  simp only [Tryz.f15, strip, stripL, stripI, stripG, chkT, tagsB, tagsL, tagD, addT, tagA, lookN, tagOp, elmT, ty22, ty29, ty33, ty39, ty40, ty41, ty42, ty69, ty71, ty95, Nat.reduceEqDiff, if_false, reduceIte, Option.getD_some, Option.getD_none, dstAt, dstOk, Nat.reduceLT, decide_true, if_true]
  cases hup : m.up
  all_goals simp [Minder.enc, hup, builtinV, pureB, lenV]
  all_goals refine wpS_loop (fun j tm A => ∃ (i : Nat) (G : Heap), A = H ++ G ∧ i + j = 6 ∧ tm 3 = .str (BA (base ++ ((ns.take i).map fun n => 32 :: Lib.itoa n).flatten)) ∧ tm 4 = .sl (H.length + 1) 0 6 ∧ tm 5 = .int i ∧ blkAt A (H.length + 1) = some ⟨3, .wr, ns.map encI⟩) 6 (by rw [env_K]; omega) ⟨0, _, rfl, by simp, by simp [hbase, hup], by simp, by simp, by rw [hns]; simp [blkAt, encI]⟩ ?_
  all_goals rintro j tm A hj ⟨i, G, hA, hij, t3, t4, t5, hb⟩ Q2 hn2 he2 hr2
  all_goals simp [t3, t4, t5, builtinV, pureB, lenV]
  all_goals refine selS_intro (fun hc => ?_) (fun hc => ?_)
  all_goals simp at hc
  case false.refine_1 | true.refine_1 =>
    have hi6 : i < ns.length := by omega
    have hrow : (ns.map encI)[i]? = some (encI ns[i]) := by simp [hi6]
    have g4 : IntKind.i64.wrap ((i : Int) + 1) = (i : Int) + 1 := wrap64 (by omega) (by omega)
    have e1 := fun H => specDigits (H := H) (hr ns[i] (by simp))
    have h1 := hlen i
    have h2 := itoa_len (hr ns[i] (by simp))
    have hi6' : (i : Int) < 6 := by omega
    obtain ⟨acc, hacc⟩ : ∃ acc, acc = base ++ ((ns.take i).map fun n => 32 :: Lib.itoa n).flatten := ⟨_, rfl⟩
    rw [← hacc] at t3 h1
    have a1 := binV_add env.τ 9 (a := acc) (b := [32]) (by simp; omega)
    have a2 := binV_add env.τ 9 (a := acc ++ [32]) (b := Lib.itoa ns[i]) (by simp; omega)
    simp [t3, t4, t5, indexAddrV, elemIs, hb, hrow, encI, e1, a1, g4, hi6', hc]
    rw [a2]
    simp [t4, t5, g4]
    refine hn2 (j - 1) _ _ (by omega) ⟨i + 1, G, hA, by omega, ?_, by simp [t4], by simp, hb⟩
    have e : base ++ ((ns.take (i + 1)).map fun n => 32 :: Lib.itoa n).flatten = acc ++ [32] ++ Lib.itoa ns[i] := by
      rw [List.take_add_one, List.getElem?_eq_getElem hi6, hacc]
      simp only [Option.toList_some, List.map_append, List.flatten_append, List.map_cons, List.map_nil, List.flatten_cons, List.flatten_nil, List.append_assoc, List.append_nil, List.cons_append, List.nil_append]
    rw [e]
    simp
  case false.refine_2 | true.refine_2 =>
    have hi : i = 6 := by omega
    subst hi
    rw [List.take_of_length_le (by omega), hfin] at t3
    simp [hc, t3]
    refine he2 _ _ _ ?_
    simp [t3]
    refine hQ _ _ _ (by simp) ?_
    simp [Tryz.f15, leave, hA]

def bridgeT (b : Bridge) : List UInt8 := Lib.itoa b.id ++ [10] ++ (b.ports.map fun p => portT p ++ [10]).flatten
def Bridge.rg (b : Bridge) : Prop := I64 b.id ∧ ∀ p ∈ b.ports, p.rg
theorem bridgeT_len {b : Bridge} (h : b.rg) (i : Nat) : (Lib.itoa b.id ++ [10] ++ ((b.ports.take i).map fun p => portT p ++ [10]).flatten).length ≤ 22 + 121 * i := by
  have h0 := itoa_len h.1
  induction i with
  | zero => simp; omega
  | succ i ih =>
    rw [List.take_add_one]
    cases hi : b.ports[i]? with
    | none => simp at ih ⊢; omega
    | some p =>
      have := portT_len (h.2 p (List.mem_of_getElem? hi))
      simp at ih ⊢; omega

theorem specBridgeText_is {H : Heap} {l : List Lf} {b : Bridge} (h : RdBridge H l b) (hl : b.ports.length ≤ 1048576) (hg : b.rg) : run env 13 [.agg l] H = some (.str (BA (bridgeT b)), H) := by
  obtain ⟨a, rfl, hs⟩ := h
  have hlen := bridgeT_len hg
  have e0 := fun H => specDigits (H := H) hg.1
  have h0 := itoa_len hg.1
  refine run_walk ok13 Tryz.func13 rfl (by simp [Tryz.f13]) fun Q hQ => ?_
  simp only [Tryz.f13, strip, stripL, stripI, stripG, chkT, tagsB, tagsL, tagD, addT, tagA, lookN, tagOp, elmT, ty22, ty29, ty33, ty39, ty40, ty41, ty42, ty69, ty71, ty95, Nat.reduceEqDiff, if_false, reduceIte, Option.getD_some, Option.getD_none, dstAt, dstOk, Nat.reduceLT, decide_true, if_true]
  simp [Bridge.enc, e0]
  rw [binV_add _ _ (by simp; omega)]
  simp
  refine wpS_loop (fun j tm A => ∃ (i : Nat) (G : Heap), A = H ++ G ∧ i + j = b.ports.length ∧ tm 1 = .ptr H.length 0 0 ∧ tm 3 = .str (BA (Lib.itoa b.id ++ [10] ++ ((b.ports.take i).map fun p => portT p ++ [10]).flatten)) ∧ tm 4 = .int i ∧ blkAt A H.length = some ⟨31, .wr, [b.enc a]⟩) b.ports.length (by rw [env_K]; omega) ⟨0, _, rfl, by simp, by simp, by simp, by simp, by simp [blkAt, Bridge.enc]⟩ ?_
  rintro j tm A hj ⟨i, G, hA, hij, t1, t3, t4, hb⟩ Q2 hn2 he2 hr2
  simp [t1, t3, t4, hb, Bridge.enc, builtinV, pureB, lenV]
  refine selS_intro (fun hc => ?_) (fun hc => ?_)
  · simp at hc
    obtain ⟨id, r, bl, rfl, hbl, hbe, hrow⟩ := (hs.app G) i _ (by simp [hc]; rfl)
    rw [← hA] at hbl
    have g4 : IntKind.i64.wrap ((i : Int) + 1) = (i : Int) + 1 := wrap64 (by omega) (by omega)
    have hp := hg.2 b.ports[i] (by simp)
    have e1 := fun H => specPortText (H := H) hp
    have h1 := hlen i
    have h2 := portT_len hp
    obtain ⟨acc, hacc⟩ : ∃ acc, acc = Lib.itoa b.id ++ [10] ++ ((b.ports.take i).map fun p => portT p ++ [10]).flatten := ⟨_, rfl⟩
    rw [← hacc] at t3 h1
    simp [t1, t3, t4, hb, Bridge.enc, builtinV, pureB, lenV, indexAddrV, elemIs, hbl, hbe, hc, hrow, e1, g4]
    rw [binV_add _ _ (by omega)]
    simp [t1, t3, t4]
    rw [binV_add _ _ (by simp; omega)]
    simp [t1, t4, g4]
    refine hn2 (j - 1) _ _ (by omega) ⟨i + 1, G, hA, by omega, by simp [t1], ?_, by simp, hb⟩
    have e : Lib.itoa b.id ++ [10] ++ ((b.ports.take (i + 1)).map fun p => portT p ++ [10]).flatten = acc ++ portT b.ports[i] ++ [10] := by
      rw [List.take_add_one, List.getElem?_eq_getElem hc, hacc]
      simp only [Option.toList_some, List.map_append, List.flatten_append, List.map_cons, List.map_nil, List.flatten_cons, List.flatten_nil, List.append_assoc, List.append_nil, List.cons_append, List.nil_append]
    rw [e]
    simp
  · simp at hc
    have hi : i = b.ports.length := by omega
    subst hi
    rw [List.take_length] at t3
    simp [t1, t3, t4]
    refine he2 _ _ _ ?_
    simp [t3]
    refine hQ _ _ _ (by simp) ?_
    simp [Tryz.f13, leave, hA, bridgeT]

theorem implBridgeText_is {H : Heap} {l : List Lf} {b : Bridge} (h : RdBridge H l b) (hl : b.ports.length ≤ 1048576) (hg : b.rg) : run env 12 [.agg l] H = some (.str (BA (bridgeT b)), H) := by
  obtain ⟨a, rfl, hs⟩ := h
  have hlen := bridgeT_len hg
  have e0 := fun H => implDigits (H := H) hg.1
  have h0 := itoa_len hg.1
  refine run_walk ok12 Tryz.func12 rfl (by simp [Tryz.f12]) fun Q hQ => ?_
  simp only [Tryz.f12, strip, stripL, stripI, stripG, chkT, tagsB, tagsL, tagD, addT, tagA, lookN, tagOp, elmT, ty22, ty29, ty33, ty39, ty40, ty41, ty42, ty69, ty71, ty95, Nat.reduceEqDiff, if_false, reduceIte, Option.getD_some, Option.getD_none, dstAt, dstOk, Nat.reduceLT, decide_true, if_true]
  simp [Bridge.enc, e0]
  rw [binV_add _ _ (by simp; omega)]
  simp [Bridge.enc, builtinV, pureB, lenV]
  refine wpS_loop (fun j tm A => ∃ (i : Nat) (G : Heap), A = H ++ G ∧ i + j = b.ports.length ∧ tm 11 = .w (.lf (.sl a b.ports.length)) ∧ tm 12 = .int b.ports.length ∧ tm 3 = .str (BA (Lib.itoa b.id ++ [10] ++ ((b.ports.take i).map fun p => portT p ++ [10]).flatten)) ∧ tm 13 = .int i) b.ports.length (by rw [env_K]; omega) ⟨0, _, rfl, by simp, by simp, by simp, by simp, by simp⟩ ?_
  rintro j tm A hj ⟨i, G, hA, hij, t11, t12, t3, t13⟩ Q2 hn2 he2 hr2
  simp [t11, t12, t3, t13]
  refine selS_intro (fun hc => ?_) (fun hc => ?_)
  · simp at hc
    obtain ⟨id, r, bl, rfl, hbl, hbe, hrow⟩ := (hs.app G) i _ (by simp [hc]; rfl)
    rw [← hA] at hbl
    have g4 : IntKind.i64.wrap ((i : Int) + 1) = (i : Int) + 1 := wrap64 (by omega) (by omega)
    have hp := hg.2 b.ports[i] (by simp)
    have e1 := fun H => implPortText (H := H) hp
    have h1 := hlen i
    have h2 := portT_len hp
    have hbl2 := fun G => blkAt_app hbl G
    have hid := blkAt_len hbl
    obtain ⟨acc, hacc⟩ : ∃ acc, acc = Lib.itoa b.id ++ [10] ++ ((b.ports.take i).map fun p => portT p ++ [10]).flatten := ⟨_, rfl⟩
    rw [← hacc] at t3 h1
    simp [t11, t12, t3, t13, indexAddrV, elemIs, hbl, hbe, hc, hrow, e1, g4]
    rw [binV_add _ _ (by simp; omega)]
    simp [t3]
    rw [binV_add _ _ (by simp; omega)]
    simp [t11, t12, t13, g4]
    refine hn2 (j - 1) _ _ (by omega) ⟨i + 1, _, by rw [hA, List.append_assoc], by omega, by simp [t11], by simp [t12], ?_, by simp⟩
    have e : Lib.itoa b.id ++ [10] ++ ((b.ports.take (i + 1)).map fun p => portT p ++ [10]).flatten = acc ++ (portT b.ports[i] ++ [10]) := by
      rw [List.take_add_one, List.getElem?_eq_getElem hc, hacc]
      simp only [Option.toList_some, List.map_append, List.flatten_append, List.map_cons, List.map_nil, List.flatten_cons, List.flatten_nil, List.append_assoc, List.append_nil, List.cons_append, List.nil_append]
    rw [e]
    simp
  · simp at hc
    have hi : i = b.ports.length := by omega
    subst hi
    rw [List.take_length] at t3
    simp [t3]
    refine he2 _ _ _ ?_
    simp [t3]
    refine hQ _ _ _ (by simp) ?_
    simp [Tryz.f12, leave, hA, bridgeT]

def gateT (b : Bool) : List UInt8 := if b then [32, 111] else [32, 115]
def boxHead (x : Box) : List UInt8 := [114, 101, 103, 32] ++ Lib.itoa x.reg.epoch ++ [32] ++ Lib.itoa x.reg.owner ++ [32] ++ Lib.itoa x.reg.pair ++ [10]
def boxA (x : Box) (i : Nat) : List UInt8 := boxHead x ++ ((x.two.take i).map fun m => minderT m ++ [10]).flatten
def boxB (x : Box) : List UInt8 := boxA x x.two.length ++ [108, 105, 110, 101, 32] ++ Lib.itoa (x.line.length : Int)
def boxC (x : Box) (i : Nat) : List UInt8 := boxB x ++ ((x.gates.take i).map gateT).flatten
def boxT (x : Box) : List UInt8 := boxC x x.gates.length ++ [10]
def Box.rg (x : Box) : Prop := I64 x.reg.epoch ∧ I64 x.reg.owner ∧ I64 x.reg.pair ∧ ∀ m ∈ x.two, m.rg
theorem boxA_succ {x : Box} {i : Nat} (hi : i < x.two.length) : boxA x (i + 1) = boxA x i ++ minderT x.two[i] ++ [10] := by
  unfold boxA
  rw [List.take_add_one, List.getElem?_eq_getElem hi]
  simp only [Option.toList_some, List.map_append, List.flatten_append, List.map_cons, List.map_nil, List.flatten_cons, List.flatten_nil, List.append_assoc, List.append_nil]
theorem boxC_succ {x : Box} {i : Nat} (hi : i < x.gates.length) : boxC x (i + 1) = boxC x i ++ gateT x.gates[i] := by
  unfold boxC
  rw [List.take_add_one, List.getElem?_eq_getElem hi]
  simp only [Option.toList_some, List.map_append, List.flatten_append, List.map_cons, List.map_nil, List.flatten_cons, List.flatten_nil, List.append_assoc, List.append_nil]
theorem logOf {x : Box} (hn : x.sz ≤ 1048576) : ∀ m ∈ x.two, m.log.length ≤ 1048576 := by
  intro m hm
  have := MinderS.sz_at hm
  unfold Box.sz at hn
  unfold Minder.sz at this
  omega
theorem boxHead_len {x : Box} (h : x.rg) : (boxHead x).length ≤ 80 := by
  have h1 := itoa_len h.1
  have h2 := itoa_len h.2.1
  have h3 := itoa_len h.2.2.1
  simp [boxHead]; omega
theorem boxA_len {x : Box} (h : x.rg) (hn : x.sz ≤ 1048576) (i : Nat) : (boxA x i).length ≤ 80 + 141 * i := by
  have h0 := boxHead_len h
  induction i with
  | zero => simp [boxA]; omega
  | succ i ih =>
    by_cases hi : i < x.two.length
    · have h1 := minderT_len (h.2.2.2 _ (List.getElem_mem hi)) (logOf hn _ (List.getElem_mem hi))
      rw [boxA_succ hi]
      simp; omega
    · have : boxA x (i + 1) = boxA x i := by unfold boxA; rw [List.take_of_length_le (by omega), List.take_of_length_le (by omega)]
      rw [this]; omega
theorem gateT_len (b : Bool) : (gateT b).length = 2 := by cases b <;> rfl
theorem boxB_len {x : Box} (h : x.rg) (hn : x.sz ≤ 1048576) : (boxB x).length ≤ 200000000 := by
  have h0 := boxA_len h hn x.two.length
  have h1 : x.two.length ≤ 1048576 := by have := MinderS.sz_len x.two; unfold Box.sz at hn; omega
  have h2 := itoa_len (n := (x.line.length : Int)) (by unfold Box.sz at hn; unfold I64; omega)
  simp [boxB]; omega
theorem boxC_len {x : Box} (h : x.rg) (hn : x.sz ≤ 1048576) (i : Nat) : (boxC x i).length ≤ 200000000 + 2 * i := by
  have h0 := boxB_len h hn
  induction i with
  | zero => simp [boxC]; omega
  | succ i ih =>
    by_cases hi : i < x.gates.length
    · rw [boxC_succ hi]
      have := gateT_len x.gates[i]
      simp; omega
    · have : boxC x (i + 1) = boxC x i := by unfold boxC; rw [List.take_of_length_le (by omega), List.take_of_length_le (by omega)]
      rw [this]; omega

theorem specBoxText_is {H : Heap} {l : List Lf} {x : Box} (h : RdBox H l x) (hn : x.sz ≤ 1048576) (hg : x.rg) : run env 16 [.agg l] H = some (.str (BA (boxT x)), H) := by
  obtain ⟨q0, q1, q2, q3, q4, rfl, hm, -, ⟨a2, rfl, hs2⟩, ⟨a3, rfl, hs3⟩, -⟩ := h
  obtain ⟨a, rws, rfl, hs, hrl, hat⟩ := hm
  have e1 := fun H => specDigits (H := H) hg.1
  have e2 := fun H => specDigits (H := H) hg.2.1
  have e3 := fun H => specDigits (H := H) hg.2.2.1
  have h1 := itoa_len hg.1
  have h2 := itoa_len hg.2.1
  have h3 := itoa_len hg.2.2.1
  refine run_walk ok16 Tryz.func16 rfl (by simp [Tryz.f16]) fun Q hQ => ?_
  simp only [Tryz.f16, strip, stripL, stripI, stripG, chkT, tagsB, tagsL, tagD, addT, tagA, lookN, tagOp, elmT, ty22, ty29, ty33, ty39, ty40, ty41, ty42, ty69, ty71, ty95, Nat.reduceEqDiff, if_false, reduceIte, Option.getD_some, Option.getD_none, dstAt, dstOk, Nat.reduceLT, decide_true, if_true]
  simp (disch := ((try simp); (try omega))) [Box.enc, e1, e2, e3, binV_add]
  have hgl : x.gates.length ≤ 1048576 := by unfold Box.sz at hn; omega
  have htl : x.two.length ≤ 1048576 := by have := MinderS.sz_len x.two; unfold Box.sz at hn; omega
  have hll : I64 (x.line.length : Int) := by unfold Box.sz at hn; unfold I64; omega
  refine wpS_loop (fun j tm A => ∃ (i : Nat), A = H ++ [some ⟨44, .wr, [x.enc (.sl a x.two.length) q1 (.sl a2 x.gates.length) (.sl a3 x.line.length) q4]⟩] ∧ i + j = x.two.length ∧ tm 1 = .ptr H.length 0 0 ∧ tm 3 = .str (BA (boxA x i)) ∧ tm 4 = .int i) x.two.length (by rw [env_K]; omega) ⟨0, rfl, by simp, by simp, by simp [boxA, boxHead], by simp⟩ ?_
  rintro j tm A hj ⟨i, hA, hij, t1, t3, t4⟩ Q2 hn2 he2 hr2
  have hb : blkAt A H.length = some ⟨44, .wr, [x.enc (.sl a x.two.length) q1 (.sl a2 x.gates.length) (.sl a3 x.line.length) q4]⟩ := by rw [hA]; simp
  simp [t1, t3, t4, hb, Box.enc, builtinV, pureB, lenV]
  refine selS_intro (fun hc => ?_) (fun hc => ?_)
  · simp at hc
    have hi' : i < rws.length := by omega
    have hsA : Sl A 35 a rws := by rw [hA]; exact hs.app _
    have hmi : RdMinder A rws[i] x.two[i] := by rw [hA]; exact (hat i rws[i] x.two[i] (List.getElem?_eq_getElem hi') (List.getElem?_eq_getElem hc)).app _
    obtain ⟨id, r, bl, rfl, hbl, hbe, hrow⟩ := hsA i _ (List.getElem?_eq_getElem hi')
    have hlr := hmi.len
    have hlt : rws[i].take rws[i].length = rws[i] := List.take_length
    rw [hlr] at hlt
    have g4 : IntKind.i64.wrap ((i : Int) + 1) = (i : Int) + 1 := wrap64 (by omega) (by omega)
    have e4 := specMinderText_is hmi (logOf hn _ (List.getElem_mem hc)) (hg.2.2.2 _ (List.getElem_mem hc))
    have l1 := boxA_len hg hn i
    have l2 := minderT_len (hg.2.2.2 _ (List.getElem_mem hc)) (logOf hn _ (List.getElem_mem hc))
    have l3 : i ≤ 1048576 := by omega
    simp [t1, t3, t4, hb, Box.enc, builtinV, pureB, lenV, indexAddrV, elemIs, hbl, hbe, hc, hrow, hlr, hlt, e4, g4]
    rw [binV_add _ _ (by omega)]
    simp [t1, t3, t4]
    rw [binV_add _ _ (by simp; omega)]
    simp [t1, t4, g4]
    exact hn2 (j - 1) _ _ (by omega) ⟨i + 1, hA, by omega, by simp [t1], by rw [boxA_succ hc]; simp, by simp⟩
  · simp at hc
    have hi : i = x.two.length := by omega
    subst hi
    simp [t1, t3, t4]
    refine he2 _ _ _ ?_
    have e5 := fun H => specDigits (H := H) hll
    have h4 := itoa_len hll
    have l1 := boxA_len hg hn x.two.length
    simp (disch := ((try simp); (try omega))) [t1, t3, t4, hb, Box.enc, builtinV, pureB, lenV, e5, binV_add]
    have hbB : boxA x x.two.length ++ ([108, 105, 110, 101, 32] ++ Lib.itoa (x.line.length : Int)) = boxB x := by unfold boxB; simp
    refine wpS_loop (fun j tm A => ∃ (i : Nat), A = H ++ [some ⟨44, .wr, [x.enc (.sl a x.two.length) q1 (.sl a2 x.gates.length) (.sl a3 x.line.length) q4]⟩] ∧ i + j = x.gates.length ∧ tm 1 = .ptr H.length 0 0 ∧ tm 3 = .str (BA (boxC x i)) ∧ tm 5 = .int i) x.gates.length (by rw [env_K]; omega) ⟨0, hA, by simp, by simp [t1], by simp [boxC, boxB], by simp⟩ ?_
    clear t1 t3 t4 hb hA hn2 he2 hr2
    rintro j tm A hj ⟨i, hA, hij, t1, t3, t5⟩ Q2 hn2 he2 hr2
    have hb : blkAt A H.length = some ⟨44, .wr, [x.enc (.sl a x.two.length) q1 (.sl a2 x.gates.length) (.sl a3 x.line.length) q4]⟩ := by rw [hA]; simp
    simp [t1, t3, t5, hb, Box.enc, builtinV, pureB, lenV]
    refine selS_intro (fun hc => ?_) (fun hc => ?_)
    · simp at hc
      have hsA : Sl A 4 a2 (x.gates.map encB) := by rw [hA]; exact hs2.app _
      obtain ⟨id, r, bl, rfl, hbl, hbe, hrow⟩ := hsA i _ (by simp [hc]; rfl)
      have g4 : IntKind.i64.wrap ((i : Int) + 1) = (i : Int) + 1 := wrap64 (by omega) (by omega)
      have l1 := boxC_len hg hn i
      have hsu := boxC_succ hc
      cases hgi : x.gates[i]
      all_goals simp [t1, t3, t5, hb, Box.enc, builtinV, pureB, lenV, indexAddrV, elemIs, hbl, hbe, hc, hrow, hgi, encB, g4]
      all_goals rw [binV_add _ _ (by simp; omega)]
      all_goals simp [t1, t5, g4]
      all_goals exact hn2 (j - 1) _ _ (by omega) ⟨i + 1, hA, by omega, by simp [t1], by rw [hsu, hgi]; simp [gateT], by simp⟩
    · simp at hc
      have hi : i = x.gates.length := by omega
      subst hi
      have l1 := boxC_len hg hn x.gates.length
      simp [t1, t3, t5]
      refine he2 _ _ _ ?_
      simp [t3]
      rw [binV_add _ _ (by simp; omega)]
      simp
      refine hQ _ _ _ (by simp) ?_
      simp [Tryz.f16, leave, hA, boxT]

abbrev u8row (b : UInt8) : List Lf := [.i .u8 (b.toNat : Int)]
/-- A strings.Builder that holds these bytes. -/
def Bld (H : Heap) (id : Nat) (bs : List UInt8) (fd : List Nat) : Prop := ∃ pa aa, blkAt H id = some ⟨58, .wr, [[.p pa, .sl aa bs.length]]⟩ ∧ (pa = none ∨ pa = some (id, 0, 0)) ∧ Own H 5 aa (bs.map u8row) fd ∧ id ∉ fd
theorem byteRows_BA (s : List UInt8) : byteRows (BA s) = s.map u8row := rfl
theorem copyCheck_run {H : Heap} {id : Nat} {bs : List UInt8} {fd : List Nat} (h : Bld H id bs fd) : ∃ H' aa, run env 42 [.ptr id 0 0] H = some (.tup [], H') ∧ Keep [id] H H' ∧ blkAt H' id = some ⟨58, .wr, [[.p (some (id, 0, 0)), .sl aa bs.length]]⟩ ∧ Own H' 5 aa (bs.map u8row) fd := by
  obtain ⟨pa, aa, hb, hp, ho, hid⟩ := h
  have hx : ∀ args H, env.ext 42 args H = checkX args H := fun args H => rfl
  have hnw : noW 58 = false := rfl
  rcases hp with rfl | rfl
  · refine ⟨H.set id (some ⟨58, .wr, [[.p (some (id, 0, 0)), .sl aa bs.length]]⟩), aa, run_ext nok42 ?_, Keep.set _ _, ?_, ho.keep (Keep.set _ _) (fun i hi h => by simp at h; subst h; exact hid hi)⟩
    · rw [hx]
      simp [checkX, hb, hnw]
    · have := blkAt_len hb
      simp [blkAt, this]
  · refine ⟨H, aa, run_ext nok42 ?_, Keep.refl _ _, hb, ho⟩
    rw [hx]
    simp [checkX, hb, hnw]
theorem stpL_appendStr {call : Fun} {draw : Bool} {tm : T} {Q : Ex → T → Heap → Prop} {fr : List Fr} {is : List I2} {H : Heap} {a : Option (Nat × Nat)} {bs s : List UInt8} {fp : List Nat} {d : Option Nat} (ho : Own H 5 a (bs.map u8row) fp) (hsz : bs.length + s.length ≤ 140737488355328)
    (hk : ∀ a' H' fp', Own H' 5 a' ((bs ++ s).map u8row) fp' → Keep fp H H' → (∀ i ∈ fp', i ∈ fp ∨ H.length ≤ i) → stpL env call (some (.w (.lf (.sl a' (bs ++ s).length)), H')) d draw is fr tm Q) :
    stpL env call (appendStr env.τ H [22, 9] [.w (.lf (.sl a bs.length)), .w (.lf (.s (BA s)))]) d draw is fr tm Q := by
  obtain ⟨a', H', fp', h1, h2, h3, h4⟩ := append_own (τ := env.τ) (ys := s.map u8row) (len := bs.length) ho ty5 (by simp) (by simp; omega) (by simp)
  have e : appendStr env.τ H [22, 9] [.w (.lf (.sl a bs.length)), .w (.lf (.s (BA s)))] = some (.w (.lf (.sl a' (bs ++ s).length)), H') := by
    show appendV env.τ 5 H a bs.length (byteRows (BA s)) = _
    rw [byteRows_BA, h1]
    simp
  rw [e]
  exact hk a' H' fp' (by simpa using h2) h3 h4

theorem writeString {H : Heap} {id : Nat} {bs s : List UInt8} {fd : List Nat} (h : Bld H id bs fd) (hl : bs.length + s.length ≤ 140737488355328) :
    Runs env 22 [.ptr id 0 0, .str (BA s)] H fun v H' => ∃ fd', Bld H' id (bs ++ s) fd' ∧ Keep (id :: fd) H H' ∧ ∀ i ∈ fd', i ∈ fd ∨ H.length ≤ i := by
  obtain ⟨H1, aa, hr, hk1, hb1, ho1⟩ := copyCheck_run h
  obtain ⟨pa, a0, hb0, -, -, hid⟩ := h
  have hid0 := blkAt_len hb0
  refine Runs.walk_bad ok22 Tryz.func22 rfl (by simp [Tryz.f22]) rfl fun Q hQ => ?_
  simp only [Tryz.f22, strip, stripL, stripI, stripG, chkT, tagsB, tagsL, tagD, addT, tagA, lookN, tagOp, elmT, ty22, ty29, ty33, ty39, ty40, ty41, ty42, ty69, ty71, ty95, Nat.reduceEqDiff, if_false, reduceIte, Option.getD_some, Option.getD_none, dstAt, dstOk, Nat.reduceLT, decide_true, if_true]
  simp [hr, hb1]
  refine stpL_appendStr ho1 hl fun a2 E fc hoE hkE hfE => ?_
  have hbE : blkAt E id = some ⟨58, .wr, [[.p (some (id, 0, 0)), .sl aa bs.length]]⟩ := hkE.blk hb1 hid
  have hidE := blkAt_len hbE
  simp [hbE, storeV, putRow, builtinV, pureB, lenV]
  refine hQ _ _ _ (by simp) (by simp [Tryz.f22, resT, ofVal, lfOf]) ?_
  have hl1 := hk1.1
  have hidc : id ∉ fc := fun h => by
    rcases hfE id h with h | h
    · exact hid h
    · omega
  have kS : ∀ y, Keep [id] E (E.set id y) := fun y => Keep.set _ _
  refine ⟨fc, ⟨some (id, 0, 0), a2, by simp [blkAt, hidE], .inr rfl, hoE.keep (kS _) (fun i hi h => by simp at h; subst h; exact hidc hi), hidc⟩, ?_, ?_⟩
  · exact (hk1.trans hkE (h := id :: fd) (by simp) (by intro i hi _; simp [hi])).trans (kS _) (by intro i hi _; exact hi) (by simp)
  · intro i hi
    rcases hfE i hi with h | h
    · exact .inl h
    · exact .inr (by omega)

theorem writeByte {H : Heap} {id : Nat} {bs : List UInt8} {fd : List Nat} (h : Bld H id bs fd) (c : UInt8) (hl : bs.length + 1 ≤ 140737488355328) :
    Runs env 25 [.ptr id 0 0, .w (.lf (.i .u8 (c.toNat : Int)))] H fun v H' => ∃ fd', Bld H' id (bs ++ [c]) fd' ∧ Keep (id :: fd) H H' ∧ ∀ i ∈ fd', i ∈ fd ∨ H.length ≤ i := by
  obtain ⟨H1, aa, hr, hk1, hb1, ho1⟩ := copyCheck_run h
  obtain ⟨pa, a0, hb0, -, -, hid⟩ := h
  have hid0 := blkAt_len hb0
  refine Runs.walk_bad ok25 Tryz.func25 rfl (by simp [Tryz.f25]) rfl fun Q hQ => ?_
  simp only [Tryz.f25, strip, stripL, stripI, stripG, chkT, tagsB, tagsL, tagD, addT, tagA, lookN, tagOp, elmT, ty22, ty29, ty33, ty39, ty40, ty41, ty42, ty69, ty71, ty95, Nat.reduceEqDiff, if_false, reduceIte, Option.getD_some, Option.getD_none, dstAt, dstOk, Nat.reduceLT, decide_true, if_true]
  simp [hr, hb1]
  refine stpL_append (e := 5) (rows := bs.map u8row) (ys := [u8row c]) (ho1.app _) (Sl.of (by simp)) rfl rfl rfl (by simp) (by simp; omega) (by simp) rfl fun a2 E fc hoE hkE hfE => ?_
  have hid1 := blkAt_len hb1
  have hbE : blkAt E id = some ⟨58, .wr, [[.p (some (id, 0, 0)), .sl aa bs.length]]⟩ := hkE.blk (blkAt_app hb1 _) hid
  have hidE := blkAt_len hbE
  simp [hbE, storeV, putRow]
  refine hQ _ _ _ (by simp) (by simp [Tryz.f25, resT, ofVal, lfOf]) ?_
  have hl1 := hk1.1
  have hidc : id ∉ fc := fun h => by
    rcases hfE id h with h | h
    · exact hid h
    · simp at h; omega
  have kS : ∀ y, Keep [id] E (E.set id y) := fun y => Keep.set _ _
  refine ⟨fc, ⟨some (id, 0, 0), a2, by simp [blkAt, hidE], .inr rfl, ?_, hidc⟩, ?_, ?_⟩
  · rw [List.map_append]
    exact hoE.keep (kS _) (fun i hi h => by simp at h; subst h; exact hidc hi)
  · exact (hk1.trans hkE.base (h := id :: fd) (by simp) (by intro i hi _; simp [hi])).trans (kS _) (by intro i hi _; exact hi) (by simp)
  · intro i hi
    rcases hfE i hi with h | h
    · exact .inl h
    · simp at h; exact .inr (by omega)

theorem builderString {H : Heap} {id : Nat} {bs : List UInt8} {fd : List Nat} (h : Bld H id bs fd) (h0 : bs ≠ []) (hl : bs.length ≤ 140737488355328) :
    ∃ H', run env 26 [.ptr id 0 0] H = some (.str (BA bs), H') ∧ Keep fd H H' := by
  obtain ⟨pa, aa, hb, -, ho, hid⟩ := h
  have hnw : noW 58 = false := rfl
  obtain ⟨i2, b2, rfl, rfl, hb2, he, hm, hpre⟩ := ho.blk (by simpa using h0)
  have hne : bs.length ≠ 0 := by simpa using h0
  have hlen := hpre.length_le
  simp at hlen
  have hbv : ∀ l : List UInt8, bytesV (l.map u8row) = some l := by
    intro l
    induction l with
    | nil => rfl
    | cons c l ih =>
      have h1 := UInt8.toNat_lt c
      have h2 : (0 : Int) ≤ (c.toNat : Int) ∧ (c.toNat : Int) < 256 := by omega
      simp [bytesV, ih, h2]
  have htk : b2.rows.take bs.length = bs.map u8row := by
    obtain ⟨t, ht⟩ := hpre
    rw [← ht, List.take_append_of_le_length (by simp), List.take_of_length_le (by simp)]
  refine ⟨H.set i2 none, run_ext nok26 ?_, Keep.set _ _⟩
  have hx : ∀ args H, env.ext 26 args H = bstrX 5 args H := fun args H => rfl
  rw [hx]
  simp [bstrX, hb, hnw, hb2, he, hm, hne, hl, hlen, htk, hbv]

theorem Bld.app {H : Heap} {id : Nat} {bs : List UInt8} {fd : List Nat} (h : Bld H id bs fd) (G : Heap) : Bld (H ++ G) id bs fd := by
  obtain ⟨pa, aa, hb, hp, ho, hid⟩ := h
  exact ⟨pa, aa, blkAt_app hb G, hp, ho.app G, hid⟩
theorem Bld.new {H : Heap} {id : Nat} (hb : blkAt H id = some ⟨58, .wr, [[.p none, .sl none 0]]⟩) : Bld H id [] [] := ⟨none, none, hb, .inl rfl, Own.nil _ _, by simp⟩
theorem Bld.cast {H : Heap} {id : Nat} {bs bs' : List UInt8} {fd : List Nat} (h : Bld H id bs fd) (e : bs = bs') : Bld H id bs' fd := e ▸ h

theorem implBoxText_is {H : Heap} {l : List Lf} {x : Box} (h : RdBox H l x) (hn : x.sz ≤ 1048576) (hg : x.rg) : run env 9 [.agg l] H = some (.str (BA (boxT x)), H) := by
  obtain ⟨q0, q1, q2, q3, q4, rfl, hm, -, ⟨a2, rfl, hs2⟩, ⟨a3, rfl, hs3⟩, -⟩ := h
  obtain ⟨a, rws, rfl, hs, hrl, hat⟩ := hm
  have hgl : x.gates.length ≤ 1048576 := by unfold Box.sz at hn; omega
  have htl : x.two.length ≤ 1048576 := by have := MinderS.sz_len x.two; unfold Box.sz at hn; omega
  have hll : I64 (x.line.length : Int) := by unfold Box.sz at hn; unfold I64; omega
  obtain ⟨ns, hns⟩ : ∃ ns : List Int, ns = [x.reg.epoch, x.reg.owner, x.reg.pair] := ⟨_, rfl⟩
  have hnr : ∀ n ∈ ns, I64 n := by
    obtain ⟨r1, r2, r3, -⟩ := hg
    intro n hn
    rw [hns] at hn
    simp at hn
    rcases hn with rfl | rfl | rfl <;> assumption
  have hhead : [114, 101, 103, 32] ++ Lib.join (ns.map Lib.itoa) [32] ++ [10] = boxHead x := by
    rw [hns, boxHead]
    simp [Lib.join_cons, Lib.joinTail]
  have hhl := boxHead_len hg
  have hjl : (Lib.join (ns.map Lib.itoa) [32]).length ≤ 80 := by rw [← hhead] at hhl; simp at hhl; omega
  obtain ⟨bx, hbx⟩ : ∃ bx : Blk, bx = ⟨44, .wr, [x.enc (.sl a x.two.length) q1 (.sl a2 x.gates.length) (.sl a3 x.line.length) q4]⟩ := ⟨_, rfl⟩
  have en : ∀ (H : Heap) (B C : Option Blk), run env 23 [.sl (H.length + 2) 0 3] (H ++ [B, C, some ⟨3, .wr, [[.i .i64 x.reg.epoch], [.i .i64 x.reg.owner], [.i .i64 x.reg.pair]]⟩]) =
      some (.str (BA (Lib.join (ns.map Lib.itoa) [32])), H ++ [B, C, some ⟨3, .wr, [[.i .i64 x.reg.epoch], [.i .i64 x.reg.owner], [.i .i64 x.reg.pair]]⟩]) := fun H B C => by
    have h3 : ns.length = 3 := by rw [hns]; rfl
    have := implNumbers (H := H ++ [B, C, some ⟨3, .wr, [[.i .i64 x.reg.epoch], [.i .i64 x.reg.owner], [.i .i64 x.reg.pair]]⟩]) (a := some (H.length + 2, 0)) (ns := ns) (fun i row hr => ⟨H.length + 2, 0, ⟨3, .wr, [[.i .i64 x.reg.epoch], [.i .i64 x.reg.owner], [.i .i64 x.reg.pair]]⟩, rfl, by simp [blkAt], rfl, by rw [hns] at hr; simpa [encI] using hr⟩) hnr (by rw [h3]; omega)
    rw [h3] at this
    exact this
  refine run_walk ok9 Tryz.func9 rfl (by simp [Tryz.f9]) fun Q hQ => ?_
  simp only [Tryz.f9, strip, stripL, stripI, stripG, chkT, tagsB, tagsL, tagD, addT, tagA, lookN, tagOp, elmT, ty22, ty29, ty33, ty39, ty40, ty41, ty42, ty69, ty71, ty95, Nat.reduceEqDiff, if_false, reduceIte, Option.getD_some, Option.getD_none, dstAt, dstOk, Nat.reduceLT, decide_true, if_true]
  simp [Box.enc, en]
  rw [binV_add _ _ (by simp; omega)]
  simp
  rw [binV_add _ _ (by simp; omega)]
  simp
  refine stpL_runs (writeString (Bld.new (by simp)) (by simp; omega)) ?_
  rintro _ A ⟨fd, hB, hK, hF⟩
  have kA : Keep [] H A := (Keep.app [] H _).next hK (by simp)
  have bA : blkAt A H.length = some bx := hK.blk (by rw [hbx]; simp [Box.enc]) (by simp)
  have dA : ∀ k ∈ fd, H.length + 2 ≤ k := fun k hk => by
    rcases hF k hk with h | h
    · simp at h
    · simp at h; omega
  replace hB := hB.cast (bs' := boxA x 0) (by rw [← hhead.trans (by simp [boxA] : boxHead x = boxA x 0)]; simp)
  clear hK hF
  have hnA := blkAt_len bA
  rw [hbx] at bA
  simp [bA, Box.enc, builtinV, pureB, lenV]
  rw [← hbx] at bA
  refine wpS_loop (fun j tm A => ∃ (i : Nat) (fd : List Nat), i + j = x.two.length ∧ Bld A (H.length + 1) (boxA x i) fd ∧ (∀ k ∈ fd, H.length + 2 ≤ k) ∧ Keep [] H A ∧ blkAt A H.length = some bx ∧ tm 1 = .ptr H.length 0 0 ∧ tm 3 = .ptr (H.length + 1) 0 0 ∧ tm 23 = .w (.lf (.sl a x.two.length)) ∧ tm 24 = .int x.two.length ∧ tm 25 = .int i) x.two.length (by rw [env_K]; omega) ⟨0, fd, by simp, hB, dA, kA, bA, by simp, by simp, by simp, by simp, by simp⟩ ?_
  clear hB dA kA bA hnA
  rintro j tm A hj ⟨i, fd, hij, hB, dA, kA, bA, t1, t3, t23, t24, t25⟩ Q2 hn2 he2 hr2
  simp [t1, t3, t23, t24, t25]
  refine selS_intro (fun hc => ?_) (fun hc => ?_)
  · simp at hc
    have hi' : i < rws.length := by omega
    have hsA : Sl A 35 a rws := hs.keep kA (by simp)
    have hmi : RdMinder A rws[i] x.two[i] := (hat i rws[i] x.two[i] (List.getElem?_eq_getElem hi') (List.getElem?_eq_getElem hc)).base kA
    obtain ⟨id, r, bl, rfl, hbl, hbe, hrow⟩ := hsA i _ (List.getElem?_eq_getElem hi')
    have hlr := hmi.len
    have hlt : rws[i].take rws[i].length = rws[i] := List.take_length
    rw [hlr] at hlt
    have g4 : IntKind.i64.wrap ((i : Int) + 1) = (i : Int) + 1 := wrap64 (by omega) (by omega)
    have e4 := fun G => implMinderText_is (hmi.app G) (logOf hn _ (List.getElem_mem hc)) (hg.2.2.2 _ (List.getElem_mem hc))
    have l1 := boxA_len hg hn i
    have l2 := minderT_len (hg.2.2.2 _ (List.getElem_mem hc)) (logOf hn _ (List.getElem_mem hc))
    have hid := blkAt_len hbl
    have hbl2 := fun G => blkAt_app hbl G
    simp [t3, t23, t24, t25, indexAddrV, elemIs, hbl, hbe, hc, hrow, hlr, hlt, e4, storeV, putRow]
    rw [binV_add _ _ (by simp; omega)]
    simp [t3]
    refine stpL_runs (writeString (hB.app _) (by simp; omega)) ?_
    rintro _ E ⟨fd2, hB2, hK2, hF2⟩
    have dK : ∀ k ∈ (H.length + 1) :: fd, H.length ≤ k := fun k hk => by
      rcases List.mem_cons.1 hk with rfl | hk
      · omega
      · have := dA k hk; omega
    have kE : Keep [] H E := (kA.next (Keep.app [] _ _) (by simp)).next hK2 dK
    have bE : blkAt E H.length = some bx := hK2.blk (blkAt_app bA _) (fun h => by
      rcases List.mem_cons.1 h with h | h
      · omega
      · have := dA _ h; omega)
    have hlA := blkAt_len bA
    have hbdA := hB
    obtain ⟨_, _, hbA, -⟩ := hbdA
    have hlB := blkAt_len hbA
    simp [t25, g4]
    exact hn2 (j - 1) _ _ (by omega) ⟨i + 1, fd2, by omega, hB2.cast (by rw [boxA_succ hc]; simp), fun k hk => by
      rcases hF2 k hk with h | h
      · exact dA k h
      · simp at h; omega, kE, bE, by simp [t1], by simp [t3], by simp [t23], by simp [t24], by simp⟩
  · simp at hc
    have hi : i = x.two.length := by omega
    subst hi
    simp [t1, t3]
    refine he2 _ _ _ ?_
    have e5 := fun H => implDigits (H := H) hll
    have h4 := itoa_len hll
    have l1 := boxA_len hg hn x.two.length
    have bA2 := bA
    rw [hbx] at bA2
    simp [t1, t3, bA2, Box.enc, builtinV, pureB, lenV, e5]
    rw [binV_add _ _ (by simp; omega)]
    simp [t1, t3]
    refine stpL_runs (writeString hB (by simp; omega)) ?_
    rintro _ E ⟨fd2, hB2, hK2, hF2⟩
    have dK : ∀ k ∈ (H.length + 1) :: fd, H.length ≤ k := fun k hk => by
      rcases List.mem_cons.1 hk with rfl | hk
      · omega
      · have := dA k hk; omega
    have kE : Keep [] H E := kA.next hK2 dK
    have bE : blkAt E H.length = some bx := hK2.blk bA (fun h => by
      rcases List.mem_cons.1 h with h | h
      · omega
      · have := dA _ h; omega)
    have hbdA := hB
    obtain ⟨_, _, hbA, -⟩ := hbdA
    have hlB := blkAt_len hbA
    have dE : ∀ k ∈ fd2, H.length + 2 ≤ k := fun k hk => by
      rcases hF2 k hk with h | h
      · exact dA k h
      · omega
    replace hB := hB2.cast (bs' := boxC x 0) (by simp [boxC, boxB])
    clear hB2 hK2 hF2 dK hbA hlB bA2
    have bE2 := bE
    rw [hbx] at bE2
    simp [t1, bE2, Box.enc, builtinV, pureB, lenV]
    refine wpS_loop (fun j tm A => ∃ (i : Nat) (fd : List Nat), i + j = x.gates.length ∧ Bld A (H.length + 1) (boxC x i) fd ∧ (∀ k ∈ fd, H.length + 2 ≤ k) ∧ Keep [] H A ∧ tm 3 = .ptr (H.length + 1) 0 0 ∧ tm 41 = .w (.lf (.sl a2 x.gates.length)) ∧ tm 42 = .int x.gates.length ∧ tm 43 = .int i) x.gates.length (by rw [env_K]; omega) ⟨0, fd2, by simp, hB, dE, kE, by simp [t3], by simp, by simp, by simp⟩ ?_
    clear hB dA kA bA t1 t3 t23 t24 t25 hn2 he2 hr2 dE kE bE bE2
    rintro j tm A hj ⟨i, fd, hij, hB, dA, kA, t3, t41, t42, t43⟩ Q2 hn2 he2 hr2
    have dK : ∀ k ∈ (H.length + 1) :: fd, H.length ≤ k := fun k hk => by
      rcases List.mem_cons.1 hk with rfl | hk
      · omega
      · have := dA k hk; omega
    have hbdA := hB
    obtain ⟨_, _, hbA, -⟩ := hbdA
    have hlB := blkAt_len hbA
    simp [t3, t41, t42, t43]
    refine selS_intro (fun hc => ?_) (fun hc => ?_)
    · simp at hc
      have hsA : Sl A 4 a2 (x.gates.map encB) := hs2.keep kA (by simp)
      obtain ⟨id, r, bl, rfl, hbl, hbe, hrow⟩ := hsA i _ (by simp [hc]; rfl)
      have g4 : IntKind.i64.wrap ((i : Int) + 1) = (i : Int) + 1 := wrap64 (by omega) (by omega)
      have l1 := boxC_len hg hn i
      have hsu := boxC_succ hc
      cases hgi : x.gates[i]
      all_goals simp [t3, t41, t42, t43, indexAddrV, elemIs, hbl, hbe, hc, hrow, hgi, encB]
      all_goals refine stpL_runs (writeString hB (by simp; omega)) ?_
      all_goals rintro _ E ⟨fd2, hB2, hK2, hF2⟩
      all_goals simp [t43, g4]
      all_goals exact hn2 (j - 1) _ _ (by omega) ⟨i + 1, fd2, by omega, hB2.cast (by rw [hsu, hgi]; simp [gateT]), fun k hk => by
        rcases hF2 k hk with h | h
        · exact dA k h
        · omega, kA.next hK2 dK, by simp [t3], by simp [t41], by simp [t42], by simp⟩
    · simp at hc
      have hi : i = x.gates.length := by omega
      subst hi
      have l1 := boxC_len hg hn x.gates.length
      simp [t3]
      refine he2 _ _ _ ?_
      simp [t3]
      refine stpL_runs (writeByte hB 10 (by omega)) ?_
      rintro _ E ⟨fd2, hB2, hK2, hF2⟩
      have kE : Keep [] H E := kA.next hK2 dK
      obtain ⟨F, hr, hkF⟩ := builderString hB2 (by simp) (by simp; omega)
      have kF : Keep [] H F := kE.next hkF fun k hk => by
        rcases hF2 k hk with h | h
        · have := dA k h; omega
        · omega
      simp [t3, hr]
      refine hQ _ _ _ (by simp) ?_
      obtain ⟨G, rfl⟩ := kF.ext
      simp [Tryz.f9, leave, boxT]

theorem I64_wrap (n : Int) : I64 (IntKind.i64.wrap n) := by
  unfold I64
  simp [IntKind.wrap, IntKind.bits, IntKind.signed]
  split <;> omega
theorem Vec.rg0 : (⟨0, 0, 0, 0⟩ : Vec).rg := by simp [Vec.rg, I64]
theorem claimP_rg {p : Port} {v : Vec} {h : Int} (hp : p.rg) (hv : v.rg) : (claimP p v h).rg := by
  unfold claimP
  repeat' split
  all_goals first | exact hp | exact ⟨hv, hp.2.1, hp.2.2⟩ | exact ⟨hv, hp.2.1, by simp [I64]⟩
theorem fadeP_rg {p : Port} (hp : p.rg) : (fadeP p).rg := by
  unfold fadeP
  repeat' split
  all_goals first | exact hp | exact ⟨hp.1, hp.2.1, hp.2.2⟩ | exact ⟨Vec.rg0, hp.2.1, hp.2.2⟩
theorem turnW_rg {p : Port} {r : Int} (hp : p.rg) : I64 (turnW p r) := by
  unfold turnW
  repeat' split
  all_goals first | exact hp.2.2 | simp [I64]
theorem turnP_rg {p : Port} {r : Int} (hp : p.rg) (hr : I64 r) : (turnP p r).rg := by
  unfold turnP
  repeat' split
  all_goals first | exact hp | exact ⟨hp.1, hr, hp.2.2⟩ | exact ⟨hp.1, hr, turnW_rg hp⟩

theorem l6DrawRight_rg {H : Heap} {c n : Nat} (hc : Cur H c n) : Runs env 48 [.ptr c 0 0] H fun v H' => (∃ x : Vec, v = .agg x.enc ∧ x.rg) ∧ CurTo H H' c n := by
  have hcl := hc.lt
  refine Runs.walk ok48 Tryz.func48 rfl (by simp [Tryz.f48]) fun Q hQ => ?_
  simp only [Tryz.f48, strip, stripL, stripI, stripG, chkT, tagsB, tagsL, tagD, addT, tagA, lookN, tagOp, elmT, ty22, ty29, ty33, ty39, ty40, ty41, ty42, ty69, ty71, ty95, Nat.reduceEqDiff, if_false, reduceIte, Option.getD_some, Option.getD_none, dstAt, dstOk, Nat.reduceLT, decide_true, if_true]
  have fin : ∀ (HF : Heap) (tm : Ab.T) (x : Vec), tm 2 = .ptr H.length 0 0 → blkAt HF H.length = some ⟨25, .wr, [x.enc]⟩ → CurTo H HF c n → x.rg → Q .ret tm HF := by
    intro HF tm x t2 hb hto hg
    refine hQ _ _ _ (by simp) ?_
    have hres : resT env.τ tm HF (Tryz.f48.results.toList) = some [W.agg x.enc] := by simp [Tryz.f48, t2, hb]
    rw [hres, optK_some]
    exact ⟨⟨x, rfl, hg⟩, hto.leave hc _⟩
  have hcX := hc.app [some ⟨25, .wr, [[.i .i64 0, .i .i64 0, .i .i64 0, .i .i64 0]]⟩]
  have bzX : blkAt (H ++ [some ⟨25, .wr, [[.i .i64 0, .i .i64 0, .i .i64 0, .i .i64 0]]⟩]) H.length = some ⟨25, .wr, [[.i .i64 0, .i .i64 0, .i .i64 0, .i .i64 0]]⟩ := by simp
  have hlX : (H ++ [some ⟨25, .wr, [[.i .i64 0, .i .i64 0, .i .i64 0, .i .i64 0]]⟩] : Heap).length = H.length + 1 := by simp
  simp
  refine stpL_runs (l1Below hcX 4) ?_
  rintro _ H1 ⟨⟨x, rfl, hx⟩, hto1⟩
  simp
  refine stpL_runs (l1Below hto1.2 4) ?_
  rintro _ H2 ⟨⟨y, rfl, hy⟩, hto2⟩
  have hto := hto1.next hto2
  have bz2 := hto.1.blk bzX (by simp; omega)
  have dz2 := blkAt_len bz2
  have hcc2 := hto.base
  have hl2 := hto.len
  rw [hlX] at hl2
  obtain ⟨r, hr⟩ : ∃ r, r = IntKind.i64.wrap (1 + x) := ⟨_, rfl⟩
  simp [← hr]
  have hcM := hto.2.app [some ⟨25, .wr, [[.i .i64 r, .i .i64 0, .i .i64 0, .i .i64 y]]⟩]
  refine stpL_cur (l1Below hcM 3) hcM (fun v H' h => h.2) ?_
  rintro _ H3 ⟨⟨z, rfl, hz⟩, hto3⟩
  have b3 : blkAt H3 H2.length = some ⟨25, .wr, [[.i .i64 r, .i .i64 0, .i .i64 0, .i .i64 y]]⟩ := hto3.1.blk (by simp) (by simp; omega)
  have bz3 := hto3.1.blk (blkAt_app bz2 _) (by simp; omega)
  have d3 := blkAt_len b3
  have dz3 := blkAt_len bz3
  have hcc3 := hcc2.next hto3.base
  obtain ⟨g, hg⟩ : ∃ g, g = IntKind.i64.wrap (r + z) := ⟨_, rfl⟩
  have hset : ∀ (Y : Heap) (y : Blk), H2.length < Y.length → blkAt (List.set Y H2.length (some y)) H2.length = some y := fun Y y h => blkAt_set h
  have hne3 : ∀ (Y : Heap) (y : Option Blk), blkAt (List.set Y H2.length y) H.length = blkAt Y H.length := fun Y y => blkAt_set_ne (by omega)
  simp [b3, d3, ← hg, hset]
  refine selS_intro (fun hq => ?_) (fun hq => ?_)
  · simp
    have hcS := (hcc3.set (id := H2.length) (by omega) (by omega) (some ⟨25, .wr, [[.i .i64 r, .i .i64 0, .i .i64 g, .i .i64 y]]⟩))
    refine stpL_runs (l1Below hcS.2 3) ?_
    rintro _ H4 ⟨⟨u, rfl, hu⟩, hto4⟩
    have b4 := hto4.1.blk (blkAt_set d3) (by simp; omega)
    have bz4 := hto4.1.blk (show blkAt (H3.set H2.length _) H.length = _ from (hne3 _ _).trans bz3) (by simp; omega)
    have d4 := blkAt_len b4
    have dz4 := blkAt_len bz4
    have hcc4 := hcS.next hto4
    simp [b4, d4, bz4, dz4, hset, hne3]
    refine fin _ _ ⟨_, _, _, _⟩ ?_ (blkAt_set (Nat.lt_of_lt_of_eq dz4 (List.length_set).symm)) ((hcc4.set (by omega) (by omega) _).set (by omega) (by omega) _) ?_
    · simp
    · refine ⟨?_, ?_, ?_, ?_⟩ <;> (try dsimp only) <;> first | assumption | exact hgx.1 | exact hgx.2.1 | exact hgx.2.2.1 | exact hgx.2.2.2 | exact I64_wrap _ | (rw [hr]; exact I64_wrap _) | (rw [hg]; exact I64_wrap _) | (simp at hgy; unfold I64; omega) | (unfold I64; omega) | (unfold I64; omega)
  · simp [b3, d3, bz3, dz3, hset, hne3]
    refine fin _ _ ⟨_, _, _, _⟩ ?_ (blkAt_set (Nat.lt_of_lt_of_eq dz3 (List.length_set).symm)) ((hcc3.set (by omega) (by omega) _).set (by omega) (by omega) _) ?_
    · simp
    · refine ⟨?_, ?_, ?_, ?_⟩ <;> (try dsimp only) <;> first | assumption | exact hgx.1 | exact hgx.2.1 | exact hgx.2.2.1 | exact hgx.2.2.2 | exact I64_wrap _ | (rw [hr]; exact I64_wrap _) | (rw [hg]; exact I64_wrap _) | (simp at hgy; unfold I64; omega) | (unfold I64; omega) | (unfold I64; omega)

theorem l6Draw_rg {H : Heap} {c n : Nat} (hc : Cur H c n) : Runs env 35 [.ptr c 0 0] H fun v H' => (∃ x : Vec, v = .agg x.enc ∧ x.rg) ∧ CurTo H H' c n := by
  have hcl := hc.lt
  refine Runs.walk ok35 Tryz.func35 rfl (by simp [Tryz.f35]) fun Q hQ => ?_
  simp only [Tryz.f35, strip, stripL, stripI, stripG, chkT, tagsB, tagsL, tagD, addT, tagA, lookN, tagOp, elmT, ty22, ty29, ty33, ty39, ty40, ty41, ty42, ty69, ty71, ty95, Nat.reduceEqDiff, if_false, reduceIte, Option.getD_some, Option.getD_none, dstAt, dstOk, Nat.reduceLT, decide_true, if_true]
  have fin : ∀ (HF : Heap) (tm : Ab.T) (x : Vec), tm 2 = .ptr H.length 0 0 → blkAt HF H.length = some ⟨25, .wr, [x.enc]⟩ → CurTo H HF c n → x.rg → Q .ret tm HF := by
    intro HF tm x t2 hb hto hg
    refine hQ _ _ _ (by simp) ?_
    have hres : resT env.τ tm HF (Tryz.f35.results.toList) = some [W.agg x.enc] := by simp [Tryz.f35, t2, hb]
    rw [hres, optK_some]
    exact ⟨⟨x, rfl, hg⟩, hto.leave hc _⟩
  have hcX := hc.app [some ⟨25, .wr, [[.i .i64 0, .i .i64 0, .i .i64 0, .i .i64 0]]⟩]
  have bzX : blkAt (H ++ [some ⟨25, .wr, [[.i .i64 0, .i .i64 0, .i .i64 0, .i .i64 0]]⟩]) H.length = some ⟨25, .wr, [[.i .i64 0, .i .i64 0, .i .i64 0, .i .i64 0]]⟩ := by simp
  have hlX : (H ++ [some ⟨25, .wr, [[.i .i64 0, .i .i64 0, .i .i64 0, .i .i64 0]]⟩] : Heap).length = H.length + 1 := by simp
  simp
  refine stpL_runs (l6DrawRight_rg hcX) ?_
  rintro _ H1 ⟨⟨x, rfl, hgx⟩, hto1⟩
  have bz1 := hto1.1.blk bzX (by simp; omega)
  have dz1 := blkAt_len bz1
  have hcc1 := hto1.base
  have hl1 := hto1.len
  rw [hlX] at hl1
  simp [Vec.enc]
  have hcM := hto1.2.app [some ⟨25, .wr, [[.i .i64 x.root, .i .i64 x.cost, .i .i64 x.bridge, .i .i64 x.port]]⟩]
  refine stpL_runs (l1Below hcM 10) ?_
  rintro _ H2 ⟨⟨k, rfl, -⟩, hto2⟩
  have b3 : blkAt H2 H1.length = some ⟨25, .wr, [[.i .i64 x.root, .i .i64 x.cost, .i .i64 x.bridge, .i .i64 x.port]]⟩ := hto2.1.blk (by simp) (by simp; omega)
  have bz2 := hto2.1.blk (blkAt_app bz1 _) (by simp; omega)
  have d3 := blkAt_len b3
  have dz2 := blkAt_len bz2
  have hcc2 := hcc1.next hto2.base
  have hne3 : ∀ (Y : Heap) (y : Option Blk), blkAt (List.set Y H1.length y) H.length = blkAt Y H.length := fun Y y => blkAt_set_ne (by omega)
  have hne4 : ∀ (Y : Heap) (y : Blk), H1.length < Y.length → blkAt (List.set Y H1.length (some y)) H1.length = some y := fun Y y h => blkAt_set h
  by_cases c0 : k = 0
  · simp [c0]
    have hcL := hto2.2.app [some ⟨3, .wr, [encI 0, encI 9, encI 10]⟩]
    simp only [encI] at hcL
    refine stpL_runs (l1PickInt (xs := [0, 9, 10]) hcL (Sl.of (by simp [encI])) (by simp) (by simp)) ?_
    rintro _ H3 ⟨⟨y, rfl, hgy⟩, hto3⟩
    have hto3 := hto3.base
    have b33 := hto3.1.blk b3 (by simp; omega)
    have bz3 := hto3.1.blk bz2 (by simp; omega)
    have d33 := blkAt_len b33
    have dz3 := blkAt_len bz3
    have hcc3 := hcc2.next hto3
    simp [b33, d33, bz3, dz3, hne3, hne4, Vec.enc]
    refine fin _ _ ⟨y, x.cost, x.bridge, x.port⟩ ?_ (blkAt_set (Nat.lt_of_lt_of_eq dz3 (List.length_set).symm)) ((hcc3.set (by omega) (by omega) _).set (by omega) (by omega) _) ?_
    · simp
    · refine ⟨?_, ?_, ?_, ?_⟩ <;> (try dsimp only) <;> first | assumption | exact hgx.1 | exact hgx.2.1 | exact hgx.2.2.1 | exact hgx.2.2.2 | exact I64_wrap _ | (rw [hr]; exact I64_wrap _) | (rw [hg]; exact I64_wrap _) | (simp at hgy; unfold I64; omega) | (unfold I64; omega) | (unfold I64; omega)
  by_cases c1 : k = 1
  · simp [c1]
    have hcL := hto2.2.app [some ⟨3, .wr, [encI (-1), encI 0, encI 20, encI 21]⟩]
    simp only [encI] at hcL
    refine stpL_runs (l1PickInt (xs := [(-1), 0, 20, 21]) hcL (Sl.of (by simp [encI])) (by simp) (by simp)) ?_
    rintro _ H3 ⟨⟨y, rfl, hgy⟩, hto3⟩
    have hto3 := hto3.base
    have b33 := hto3.1.blk b3 (by simp; omega)
    have bz3 := hto3.1.blk bz2 (by simp; omega)
    have d33 := blkAt_len b33
    have dz3 := blkAt_len bz3
    have hcc3 := hcc2.next hto3
    simp [b33, d33, bz3, dz3, hne3, hne4, Vec.enc]
    refine fin _ _ ⟨x.root, y, x.bridge, x.port⟩ ?_ (blkAt_set (Nat.lt_of_lt_of_eq dz3 (List.length_set).symm)) ((hcc3.set (by omega) (by omega) _).set (by omega) (by omega) _) ?_
    · simp
    · refine ⟨?_, ?_, ?_, ?_⟩ <;> (try dsimp only) <;> first | assumption | exact hgx.1 | exact hgx.2.1 | exact hgx.2.2.1 | exact hgx.2.2.2 | exact I64_wrap _ | (rw [hr]; exact I64_wrap _) | (rw [hg]; exact I64_wrap _) | (simp at hgy; unfold I64; omega) | (unfold I64; omega) | (unfold I64; omega)
  by_cases c2 : k = 2
  · simp [c2]
    have hcL := hto2.2.app [some ⟨3, .wr, [encI 0, encI 9, encI 10]⟩]
    simp only [encI] at hcL
    refine stpL_runs (l1PickInt (xs := [0, 9, 10]) hcL (Sl.of (by simp [encI])) (by simp) (by simp)) ?_
    rintro _ H3 ⟨⟨y, rfl, hgy⟩, hto3⟩
    have hto3 := hto3.base
    have b33 := hto3.1.blk b3 (by simp; omega)
    have bz3 := hto3.1.blk bz2 (by simp; omega)
    have d33 := blkAt_len b33
    have dz3 := blkAt_len bz3
    have hcc3 := hcc2.next hto3
    simp [b33, d33, bz3, dz3, hne3, hne4, Vec.enc]
    refine fin _ _ ⟨x.root, x.cost, y, x.port⟩ ?_ (blkAt_set (Nat.lt_of_lt_of_eq dz3 (List.length_set).symm)) ((hcc3.set (by omega) (by omega) _).set (by omega) (by omega) _) ?_
    · simp
    · refine ⟨?_, ?_, ?_, ?_⟩ <;> (try dsimp only) <;> first | assumption | exact hgx.1 | exact hgx.2.1 | exact hgx.2.2.1 | exact hgx.2.2.2 | exact I64_wrap _ | (rw [hr]; exact I64_wrap _) | (rw [hg]; exact I64_wrap _) | (simp at hgy; unfold I64; omega) | (unfold I64; omega) | (unfold I64; omega)
  by_cases c3 : k = 3
  · simp [c3]
    have hcL := hto2.2.app [some ⟨3, .wr, [encI (-1), encI 3, encI 4]⟩]
    simp only [encI] at hcL
    refine stpL_runs (l1PickInt (xs := [(-1), 3, 4]) hcL (Sl.of (by simp [encI])) (by simp) (by simp)) ?_
    rintro _ H3 ⟨⟨y, rfl, hgy⟩, hto3⟩
    have hto3 := hto3.base
    have b33 := hto3.1.blk b3 (by simp; omega)
    have bz3 := hto3.1.blk bz2 (by simp; omega)
    have d33 := blkAt_len b33
    have dz3 := blkAt_len bz3
    have hcc3 := hcc2.next hto3
    simp [b33, d33, bz3, dz3, hne3, hne4, Vec.enc]
    refine fin _ _ ⟨x.root, x.cost, x.bridge, y⟩ ?_ (blkAt_set (Nat.lt_of_lt_of_eq dz3 (List.length_set).symm)) ((hcc3.set (by omega) (by omega) _).set (by omega) (by omega) _) ?_
    · simp
    · refine ⟨?_, ?_, ?_, ?_⟩ <;> (try dsimp only) <;> first | assumption | exact hgx.1 | exact hgx.2.1 | exact hgx.2.2.1 | exact hgx.2.2.2 | exact I64_wrap _ | (rw [hr]; exact I64_wrap _) | (rw [hg]; exact I64_wrap _) | (simp at hgy; unfold I64; omega) | (unfold I64; omega) | (unfold I64; omega)
  simp [c0, c1, c2, c3, b3, d3, bz2, dz2]
  refine fin _ _ ⟨_, _, _, _⟩ ?_ (blkAt_set dz2) (hcc2.set (by omega) (by omega) _) ?_
  · simp
  · refine ⟨?_, ?_, ?_, ?_⟩ <;> (try dsimp only) <;> first | assumption | exact hgx.1 | exact hgx.2.1 | exact hgx.2.2.1 | exact hgx.2.2.2 | exact I64_wrap _ | (rw [hr]; exact I64_wrap _) | (rw [hg]; exact I64_wrap _) | (simp at hgy; unfold I64; omega) | (unfold I64; omega) | (unfold I64; omega)

theorem l7DrawRight_rg {H : Heap} {c n : Nat} (hc : Cur H c n) : Runs env 33 [.ptr c 0 0] H fun v H' => (∃ x : Port, v = .agg x.enc ∧ x.rg) ∧ CurTo H H' c n := by
  have hcl := hc.lt
  refine Runs.walk ok33 Tryz.func33 rfl (by simp [Tryz.f33]) fun Q hQ => ?_
  simp only [Tryz.f33, strip, stripL, stripI, stripG, chkT, tagsB, tagsL, tagD, addT, tagA, lookN, tagOp, elmT, ty22, ty29, ty33, ty39, ty40, ty41, ty42, ty69, ty71, ty95, Nat.reduceEqDiff, if_false, reduceIte, Option.getD_some, Option.getD_none, dstAt, dstOk, Nat.reduceLT, decide_true, if_true]
  have fin : ∀ (HF : Heap) (tm : Ab.T) (x : Port), tm 2 = .ptr H.length 0 0 → blkAt HF H.length = some ⟨27, .wr, [x.enc]⟩ → CurTo H HF c n → x.rg → Q .ret tm HF := by
    intro HF tm x t2 hb hto hg
    refine hQ _ _ _ (by simp) ?_
    have hres : resT env.τ tm HF (Tryz.f33.results.toList) = some [W.agg x.enc] := by simp [Tryz.f33, t2, hb]
    rw [hres, optK_some]
    exact ⟨⟨x, rfl, hg⟩, hto.leave hc _⟩
  have hcX := hc.app [some ⟨27, .wr, [[.b false, .b false, .i .i64 0, .i .i64 0, .i .i64 0, .i .i64 0, .i .i64 0, .i .i64 0, .i .i64 0, .i .i64 0, .b false]]⟩]
  have bzX : blkAt (H ++ [some ⟨27, .wr, [[.b false, .b false, .i .i64 0, .i .i64 0, .i .i64 0, .i .i64 0, .i .i64 0, .i .i64 0, .i .i64 0, .i .i64 0, .b false]]⟩]) H.length = some ⟨27, .wr, [[.b false, .b false, .i .i64 0, .i .i64 0, .i .i64 0, .i .i64 0, .i .i64 0, .i .i64 0, .i .i64 0, .i .i64 0, .b false]]⟩ := by simp
  have hlX : (H ++ [some ⟨27, .wr, [[.b false, .b false, .i .i64 0, .i .i64 0, .i .i64 0, .i .i64 0, .i .i64 0, .i .i64 0, .i .i64 0, .i .i64 0, .b false]]⟩] : Heap).length = H.length + 1 := by simp
  have eO := fun H p => l7Open H p
  have eF := fun H p => specFade H p
  have eT := fun H p r => specTurn H p r
  have eC := fun H p v h => specClaim H p v h
  simp only [Port.enc, Vec.enc] at eO eF eT eC
  simp
  refine stpL_runs (l1Once hcX 5) ?_
  rintro _ H1 ⟨⟨b, rfl⟩, hto1⟩
  have bz1 := hto1.1.blk bzX (by simp; omega)
  have dz1 := blkAt_len bz1
  have hcc1 := hto1.base
  have hl1 := hto1.len
  rw [hlX] at hl1
  cases b
  rotate_left
  · simp [bz1, dz1]
    refine fin _ _ ⟨_, _, ⟨_, _, _, _⟩, _, _, _, _, _⟩ ?_ (blkAt_set dz1) (hcc1.set (by omega) (by omega) _) ?_
    · simp
    · first | exact ⟨Vec.rg0, by simp [I64], by simp [I64]⟩ | (refine turnP_rg ?_ (I64_wrap _); first | exact ⟨Vec.rg0, by simp [I64], hw64⟩ | exact hp2g | exact hp3g) | (refine ⟨?_, ?_, ?_⟩ <;> (try dsimp only) <;> first | exact hgx.1 | exact hgx.2.1 | exact hgx.2.2 | exact hgy | exact I64_wrap _ | (simp at hgy; unfold I64; omega) | (unfold I64; omega))
  simp
  have hcL := hto1.2.app [some ⟨3, .wr, [encI 0, encI 2, encI 4]⟩]
  simp only [encI] at hcL
  refine stpL_runs (l1PickInt (xs := [0, 2, 4]) hcL (Sl.of (by simp [encI])) (by simp) (by simp)) ?_
  rintro _ H2 ⟨⟨w, rfl, hgw⟩, hto2⟩
  have hw64 : I64 w := by simp at hgw; unfold I64; omega
  have bz2 := hto2.1.blk (blkAt_app bz1 _) (by simp; omega)
  have dz2 := blkAt_len bz2
  have hcc2 := hcc1.next hto2.base
  have hl2 := hto2.base.len
  simp
  have hcM := hto2.2.app [some ⟨27, .wr, [[.b true, .b false, .i .i64 0, .i .i64 0, .i .i64 0, .i .i64 0, .i .i64 0, .i .i64 0, .i .i64 2, .i .i64 w, .b false]]⟩]
  refine stpL_runs (l1Once hcM 3) ?_
  rintro _ H3 ⟨⟨b, rfl⟩, hto3⟩
  have b3 : blkAt H3 H2.length = some ⟨27, .wr, [[.b true, .b false, .i .i64 0, .i .i64 0, .i .i64 0, .i .i64 0, .i .i64 0, .i .i64 0, .i .i64 2, .i .i64 w, .b false]]⟩ := hto3.1.blk (by simp) (by simp; omega)
  have bz3 := hto3.1.blk (blkAt_app bz2 _) (by simp; omega)
  have hcc3 := hcc2.next hto3.base
  have hne3 : ∀ (Y : Heap) (y : Option Blk), blkAt (List.set Y H2.length y) H.length = blkAt Y H.length := fun Y y => blkAt_set_ne (by omega)
  have d3 := blkAt_len b3
  have dz3 := blkAt_len bz3
  obtain ⟨p0, hp0⟩ : ∃ p0 : Port, p0 = ⟨true, false, ⟨0, 0, 0, 0⟩, 0, 0, 2, w, false⟩ := ⟨_, rfl⟩
  cases b
  rotate_left
  · simp
    simp [b3, d3]
    have e0 := fun H => l7Open H p0
    rw [hp0] at e0
    simp only [Port.enc] at e0
    simp [e0]
    refine stpL_runs (l1Below hcc3.2 3) ?_
    rintro _ H7 ⟨⟨r, rfl, -⟩, hto7⟩
    have bz7 := hto7.1.blk bz3 (by simp; omega)
    have dz7 := blkAt_len bz7
    have et := fun H => specTurn H (⟨true, false, ⟨0, 0, 0, 0⟩, 0, 0, 2, w, openBy 2 w⟩ : Port) (IntKind.i64.wrap (1 + r))
    simp only [Port.enc] at et
    simp [et, bz7, dz7]
    refine fin _ _ (turnP (⟨true, false, ⟨0, 0, 0, 0⟩, 0, 0, 2, w, openBy 2 w⟩ : Port) (IntKind.i64.wrap (1 + r))) ?_ (blkAt_set dz7) ((hcc3.next hto7).set (by omega) (by omega) _) ?_
    · simp
    · first | exact ⟨Vec.rg0, by simp [I64], by simp [I64]⟩ | (refine turnP_rg ?_ (I64_wrap _); first | exact ⟨Vec.rg0, by simp [I64], hw64⟩ | exact hp2g | exact hp3g) | (refine ⟨?_, ?_, ?_⟩ <;> (try dsimp only) <;> first | exact hgx.1 | exact hgx.2.1 | exact hgx.2.2 | exact hgy | exact I64_wrap _ | (simp at hgy; unfold I64; omega) | (unfold I64; omega))
  simp [b3, d3]
  have e0 := fun H => l7Open H p0
  rw [hp0] at e0
  simp only [Port.enc] at e0
  simp [e0]
  obtain ⟨p1, hp1⟩ : ∃ p1 : Port, p1 = ⟨true, false, ⟨0, 0, 0, 0⟩, 0, 0, 2, w, openBy 2 w⟩ := ⟨_, rfl⟩
  refine stpL_runs (l6DrawRight_rg hto3.2) ?_
  rintro _ H4 ⟨⟨v, rfl, hgv⟩, hto4⟩
  simp [Vec.enc]
  refine stpL_runs (l1Below hto4.2 4) ?_
  rintro _ H5 ⟨⟨h, rfl, -⟩, hto5⟩
  have hto45 := hto4.next hto5
  have b5 := hto45.1.blk b3 (by simp; omega)
  have bz5 := hto45.1.blk bz3 (by simp; omega)
  have d5 := blkAt_len b5
  have hcc5 := hcc3.next hto45
  have e1 := fun H => specClaim H p1 v h
  rw [hp1] at e1
  simp only [Port.enc, Vec.enc] at e1
  obtain ⟨p2, hp2⟩ : ∃ p2 : Port, p2 = claimP p1 v h := ⟨_, rfl⟩
  have hp2g : p2.rg := by rw [hp2]; exact claimP_rg (by rw [hp1]; exact ⟨Vec.rg0, by simp [I64], hw64⟩) hgv
  rw [← hp1, ← hp2] at e1
  simp [e1, b5, d5]
  have bs := blkAt_set (b := ⟨27, .wr, [[.b p2.up, .b p2.has, .i .i64 p2.vec.root, .i .i64 p2.vec.cost, .i .i64 p2.vec.bridge, .i .i64 p2.vec.port, .i .i64 p2.hops, .i .i64 p2.left, .i .i64 p2.role, .i .i64 p2.wait, .b p2.opn]]⟩) d5
  have bzs := (hne3 H5 (some ⟨27, .wr, [[.b p2.up, .b p2.has, .i .i64 p2.vec.root, .i .i64 p2.vec.cost, .i .i64 p2.vec.bridge, .i .i64 p2.vec.port, .i .i64 p2.hops, .i .i64 p2.left, .i .i64 p2.role, .i .i64 p2.wait, .b p2.opn]]⟩)).trans bz5
  have hcs := hcc5.set (id := H2.length) (by omega) (by omega) (some ⟨27, .wr, [[.b p2.up, .b p2.has, .i .i64 p2.vec.root, .i .i64 p2.vec.cost, .i .i64 p2.vec.bridge, .i .i64 p2.vec.port, .i .i64 p2.hops, .i .i64 p2.left, .i .i64 p2.role, .i .i64 p2.wait, .b p2.opn]]⟩)
  refine stpL_runs (l1Once hcs.2 3) ?_
  rintro _ H6 ⟨⟨b, rfl⟩, hto6⟩
  have b6 := hto6.1.blk bs (by simp; omega)
  have bz6 := hto6.1.blk bzs (by simp; omega)
  have d6 := blkAt_len b6
  have dz6 := blkAt_len bz6
  have hcc6 := hcs.next hto6
  have eo := fun H => l7Open H p2
  simp only [Port.enc] at eo
  cases b
  · simp [b6, d6, eo]
    refine stpL_runs (l1Below hcc6.2 3) ?_
    rintro _ H7 ⟨⟨r, rfl, -⟩, hto7⟩
    have bz7 := hto7.1.blk bz6 (by simp; omega)
    have dz7 := blkAt_len bz7
    have et := fun H => specTurn H ({ p2 with opn := openBy p2.role p2.wait } : Port) (IntKind.i64.wrap (1 + r))
    simp only [Port.enc] at et
    simp [et, bz7, dz7]
    refine fin _ _ (turnP ({ p2 with opn := openBy p2.role p2.wait } : Port) (IntKind.i64.wrap (1 + r))) ?_ (blkAt_set dz7) ((hcc6.next hto7).set (by omega) (by omega) _) ?_
    · simp
    · first | exact ⟨Vec.rg0, by simp [I64], by simp [I64]⟩ | (refine turnP_rg ?_ (I64_wrap _); first | exact ⟨Vec.rg0, by simp [I64], hw64⟩ | exact hp2g | exact hp3g) | (refine ⟨?_, ?_, ?_⟩ <;> (try dsimp only) <;> first | exact hgx.1 | exact hgx.2.1 | exact hgx.2.2 | exact hgy | exact I64_wrap _ | (simp at hgy; unfold I64; omega) | (unfold I64; omega))
  · have ef := fun H => specFade H p2
    obtain ⟨p3, hp3⟩ : ∃ p3 : Port, p3 = fadeP p2 := ⟨_, rfl⟩
    have hp3g : p3.rg := by rw [hp3]; exact fadeP_rg hp2g
    rw [← hp3] at ef
    simp only [Port.enc] at ef
    have eo3 := fun H => l7Open H p3
    simp only [Port.enc] at eo3
    have hset6 : ∀ y : Blk, blkAt (List.set H6 H2.length (some y)) H2.length = some y := fun y => blkAt_set d6
    simp [b6, d6, ef, hset6, eo3]
    have bzs6 := (hne3 H6 (some ⟨27, .wr, [[.b p3.up, .b p3.has, .i .i64 p3.vec.root, .i .i64 p3.vec.cost, .i .i64 p3.vec.bridge, .i .i64 p3.vec.port, .i .i64 p3.hops, .i .i64 p3.left, .i .i64 p3.role, .i .i64 p3.wait, .b p3.opn]]⟩)).trans bz6
    have hcs6 := hcc6.set (id := H2.length) (by omega) (by omega) (some ⟨27, .wr, [[.b p3.up, .b p3.has, .i .i64 p3.vec.root, .i .i64 p3.vec.cost, .i .i64 p3.vec.bridge, .i .i64 p3.vec.port, .i .i64 p3.hops, .i .i64 p3.left, .i .i64 p3.role, .i .i64 p3.wait, .b p3.opn]]⟩)
    refine stpL_runs (l1Below hcs6.2 3) ?_
    rintro _ H7 ⟨⟨r, rfl, -⟩, hto7⟩
    have bz7 := hto7.1.blk bzs6 (by simp; omega)
    have dz7 := blkAt_len bz7
    have et := fun H => specTurn H ({ p3 with opn := openBy p3.role p3.wait } : Port) (IntKind.i64.wrap (1 + r))
    simp only [Port.enc] at et
    simp [et, bz7, dz7]
    refine fin _ _ (turnP ({ p3 with opn := openBy p3.role p3.wait } : Port) (IntKind.i64.wrap (1 + r))) ?_ (blkAt_set dz7) ((hcs6.next hto7).set (by omega) (by omega) _) ?_
    · simp
    · first | exact ⟨Vec.rg0, by simp [I64], by simp [I64]⟩ | (refine turnP_rg ?_ (I64_wrap _); first | exact ⟨Vec.rg0, by simp [I64], hw64⟩ | exact hp2g | exact hp3g) | (refine ⟨?_, ?_, ?_⟩ <;> (try dsimp only) <;> first | exact hgx.1 | exact hgx.2.1 | exact hgx.2.2 | exact hgy | exact I64_wrap _ | (simp at hgy; unfold I64; omega) | (unfold I64; omega))

theorem l7Draw_rg {H : Heap} {c n : Nat} (hc : Cur H c n) : Runs env 17 [.ptr c 0 0] H fun v H' => (∃ x : Port, v = .agg x.enc ∧ x.rg) ∧ CurTo H H' c n := by
  have hcl := hc.lt
  refine Runs.walk ok17 Tryz.func17 rfl (by simp [Tryz.f17]) fun Q hQ => ?_
  simp only [Tryz.f17, strip, stripL, stripI, stripG, chkT, tagsB, tagsL, tagD, addT, tagA, lookN, tagOp, elmT, ty22, ty29, ty33, ty39, ty40, ty41, ty42, ty69, ty71, ty95, Nat.reduceEqDiff, if_false, reduceIte, Option.getD_some, Option.getD_none, dstAt, dstOk, Nat.reduceLT, decide_true, if_true]
  have fin : ∀ (HF : Heap) (tm : Ab.T) (x : Port), tm 2 = .ptr H.length 0 0 → blkAt HF H.length = some ⟨27, .wr, [x.enc]⟩ → CurTo H HF c n → x.rg → Q .ret tm HF := by
    intro HF tm x t2 hb hto hg
    refine hQ _ _ _ (by simp) ?_
    have hres : resT env.τ tm HF (Tryz.f17.results.toList) = some [W.agg x.enc] := by simp [Tryz.f17, t2, hb]
    rw [hres, optK_some]
    exact ⟨⟨x, rfl, hg⟩, hto.leave hc _⟩
  have hcX := hc.app [some ⟨27, .wr, [[.b false, .b false, .i .i64 0, .i .i64 0, .i .i64 0, .i .i64 0, .i .i64 0, .i .i64 0, .i .i64 0, .i .i64 0, .b false]]⟩]
  have bzX : blkAt (H ++ [some ⟨27, .wr, [[.b false, .b false, .i .i64 0, .i .i64 0, .i .i64 0, .i .i64 0, .i .i64 0, .i .i64 0, .i .i64 0, .i .i64 0, .b false]]⟩]) H.length = some ⟨27, .wr, [[.b false, .b false, .i .i64 0, .i .i64 0, .i .i64 0, .i .i64 0, .i .i64 0, .i .i64 0, .i .i64 0, .i .i64 0, .b false]]⟩ := by simp
  have hlX : (H ++ [some ⟨27, .wr, [[.b false, .b false, .i .i64 0, .i .i64 0, .i .i64 0, .i .i64 0, .i .i64 0, .i .i64 0, .i .i64 0, .i .i64 0, .b false]]⟩] : Heap).length = H.length + 1 := by simp
  simp
  refine stpL_runs (l7DrawRight_rg hcX) ?_
  rintro _ H1 ⟨⟨x, rfl, hgx⟩, hto1⟩
  have bz1 := hto1.1.blk bzX (by simp; omega)
  have dz1 := blkAt_len bz1
  have hcc1 := hto1.base
  have hl1 := hto1.len
  rw [hlX] at hl1
  simp [Port.enc]
  have hcM := hto1.2.app [some ⟨27, .wr, [[.b x.up, .b x.has, .i .i64 x.vec.root, .i .i64 x.vec.cost, .i .i64 x.vec.bridge, .i .i64 x.vec.port, .i .i64 x.hops, .i .i64 x.left, .i .i64 x.role, .i .i64 x.wait, .b x.opn]]⟩]
  refine stpL_runs (l1Below hcM 12) ?_
  rintro _ H2 ⟨⟨k, rfl, -⟩, hto2⟩
  have b3 : blkAt H2 H1.length = some ⟨27, .wr, [[.b x.up, .b x.has, .i .i64 x.vec.root, .i .i64 x.vec.cost, .i .i64 x.vec.bridge, .i .i64 x.vec.port, .i .i64 x.hops, .i .i64 x.left, .i .i64 x.role, .i .i64 x.wait, .b x.opn]]⟩ := hto2.1.blk (by simp) (by simp; omega)
  have bz2 := hto2.1.blk (blkAt_app bz1 _) (by simp; omega)
  have d3 := blkAt_len b3
  have dz2 := blkAt_len bz2
  have hcc2 := hcc1.next hto2.base
  have hne3 : ∀ (Y : Heap) (y : Option Blk), blkAt (List.set Y H1.length y) H.length = blkAt Y H.length := fun Y y => blkAt_set_ne (by omega)
  have hne4 : ∀ (Y : Heap) (y : Blk), H1.length < Y.length → blkAt (List.set Y H1.length (some y)) H1.length = some y := fun Y y h => blkAt_set h
  by_cases c0 : k = 0
  · simp [c0]
    simp [b3, d3, bz2, dz2, hne3, hne4]
    refine fin _ _ ⟨!x.up, x.has, x.vec, x.hops, x.left, x.role, x.wait, x.opn⟩ ?_ (blkAt_set (Nat.lt_of_lt_of_eq dz2 (List.length_set).symm)) ((hcc2.set (by omega) (by omega) _).set (by omega) (by omega) _) ?_
    · simp
    · first | exact ⟨Vec.rg0, by simp [I64], by simp [I64]⟩ | (refine turnP_rg ?_ (I64_wrap _); first | exact ⟨Vec.rg0, by simp [I64], hw64⟩ | exact hp2g | exact hp3g) | (refine ⟨?_, ?_, ?_⟩ <;> (try dsimp only) <;> first | exact hgx.1 | exact hgx.2.1 | exact hgx.2.2 | exact hgy | exact I64_wrap _ | (simp at hgy; unfold I64; omega) | (unfold I64; omega))
  by_cases c1 : k = 1
  · simp [c1]
    refine stpL_runs (l6Draw_rg hto2.2) ?_
    rintro _ H3 ⟨⟨y, rfl, hgy⟩, hto3⟩
    have b33 := hto3.1.blk b3 (by simp; omega)
    have bz3 := hto3.1.blk bz2 (by simp; omega)
    have d33 := blkAt_len b33
    have dz3 := blkAt_len bz3
    have hcc3 := hcc2.next hto3
    simp [b33, d33, bz3, dz3, hne3, hne4, Vec.enc]
    refine fin _ _ ⟨x.up, x.has, y, x.hops, x.left, x.role, x.wait, x.opn⟩ ?_ (blkAt_set (Nat.lt_of_lt_of_eq dz3 (List.length_set).symm)) ((hcc3.set (by omega) (by omega) _).set (by omega) (by omega) _) ?_
    · simp
    · first | exact ⟨Vec.rg0, by simp [I64], by simp [I64]⟩ | (refine turnP_rg ?_ (I64_wrap _); first | exact ⟨Vec.rg0, by simp [I64], hw64⟩ | exact hp2g | exact hp3g) | (refine ⟨?_, ?_, ?_⟩ <;> (try dsimp only) <;> first | exact hgx.1 | exact hgx.2.1 | exact hgx.2.2 | exact hgy | exact I64_wrap _ | (simp at hgy; unfold I64; omega) | (unfold I64; omega))
  by_cases c2 : k = 2
  · simp [c2]
    have hcL := hto2.2.app [some ⟨3, .wr, [encI 0, encI 1, encI 3, encI 4]⟩]
    simp only [encI] at hcL
    refine stpL_runs (l1PickInt (xs := [0, 1, 3, 4]) hcL (Sl.of (by simp [encI])) (by simp) (by simp)) ?_
    rintro _ H3 ⟨⟨y, rfl, hgy⟩, hto3⟩
    have hto3 := hto3.base
    have b33 := hto3.1.blk b3 (by simp; omega)
    have bz3 := hto3.1.blk bz2 (by simp; omega)
    have d33 := blkAt_len b33
    have dz3 := blkAt_len bz3
    have hcc3 := hcc2.next hto3
    simp [b33, d33, bz3, dz3, hne3, hne4, Vec.enc]
    refine fin _ _ ⟨x.up, x.has, x.vec, x.hops, y, x.role, x.wait, x.opn⟩ ?_ (blkAt_set (Nat.lt_of_lt_of_eq dz3 (List.length_set).symm)) ((hcc3.set (by omega) (by omega) _).set (by omega) (by omega) _) ?_
    · simp
    · first | exact ⟨Vec.rg0, by simp [I64], by simp [I64]⟩ | (refine turnP_rg ?_ (I64_wrap _); first | exact ⟨Vec.rg0, by simp [I64], hw64⟩ | exact hp2g | exact hp3g) | (refine ⟨?_, ?_, ?_⟩ <;> (try dsimp only) <;> first | exact hgx.1 | exact hgx.2.1 | exact hgx.2.2 | exact hgy | exact I64_wrap _ | (simp at hgy; unfold I64; omega) | (unfold I64; omega))
  by_cases c3 : k = 3
  · simp [c3]
    refine stpL_runs (l1Below hto2.2 6) ?_
    rintro _ H3 ⟨⟨y, rfl, hgy⟩, hto3⟩
    have b33 := hto3.1.blk b3 (by simp; omega)
    have bz3 := hto3.1.blk bz2 (by simp; omega)
    have d33 := blkAt_len b33
    have dz3 := blkAt_len bz3
    have hcc3 := hcc2.next hto3
    simp [b33, d33, bz3, dz3, hne3, hne4, Vec.enc]
    refine fin _ _ ⟨x.up, x.has, x.vec, x.hops, x.left, IntKind.i64.wrap (y - 1), x.wait, x.opn⟩ ?_ (blkAt_set (Nat.lt_of_lt_of_eq dz3 (List.length_set).symm)) ((hcc3.set (by omega) (by omega) _).set (by omega) (by omega) _) ?_
    · simp
    · first | exact ⟨Vec.rg0, by simp [I64], by simp [I64]⟩ | (refine turnP_rg ?_ (I64_wrap _); first | exact ⟨Vec.rg0, by simp [I64], hw64⟩ | exact hp2g | exact hp3g) | (refine ⟨?_, ?_, ?_⟩ <;> (try dsimp only) <;> first | exact hgx.1 | exact hgx.2.1 | exact hgx.2.2 | exact hgy | exact I64_wrap _ | (simp at hgy; unfold I64; omega) | (unfold I64; omega))
  by_cases c4 : k = 4
  · simp [c4]
    simp [b3, d3, bz2, dz2, hne3, hne4]
    refine fin _ _ ⟨x.up, x.has, x.vec, x.hops, x.left, x.role, x.wait, !x.opn⟩ ?_ (blkAt_set (Nat.lt_of_lt_of_eq dz2 (List.length_set).symm)) ((hcc2.set (by omega) (by omega) _).set (by omega) (by omega) _) ?_
    · simp
    · first | exact ⟨Vec.rg0, by simp [I64], by simp [I64]⟩ | (refine turnP_rg ?_ (I64_wrap _); first | exact ⟨Vec.rg0, by simp [I64], hw64⟩ | exact hp2g | exact hp3g) | (refine ⟨?_, ?_, ?_⟩ <;> (try dsimp only) <;> first | exact hgx.1 | exact hgx.2.1 | exact hgx.2.2 | exact hgy | exact I64_wrap _ | (simp at hgy; unfold I64; omega) | (unfold I64; omega))
  by_cases c5 : k = 5
  · simp [c5]
    have hcL := hto2.2.app [some ⟨3, .wr, [encI (-1), encI 4, encI 5]⟩]
    simp only [encI] at hcL
    refine stpL_runs (l1PickInt (xs := [(-1), 4, 5]) hcL (Sl.of (by simp [encI])) (by simp) (by simp)) ?_
    rintro _ H3 ⟨⟨y, rfl, hgy⟩, hto3⟩
    have hto3 := hto3.base
    have b33 := hto3.1.blk b3 (by simp; omega)
    have bz3 := hto3.1.blk bz2 (by simp; omega)
    have d33 := blkAt_len b33
    have dz3 := blkAt_len bz3
    have hcc3 := hcc2.next hto3
    simp [b33, d33, bz3, dz3, hne3, hne4, Vec.enc]
    refine fin _ _ ⟨x.up, x.has, x.vec, x.hops, x.left, x.role, y, x.opn⟩ ?_ (blkAt_set (Nat.lt_of_lt_of_eq dz3 (List.length_set).symm)) ((hcc3.set (by omega) (by omega) _).set (by omega) (by omega) _) ?_
    · simp
    · first | exact ⟨Vec.rg0, by simp [I64], by simp [I64]⟩ | (refine turnP_rg ?_ (I64_wrap _); first | exact ⟨Vec.rg0, by simp [I64], hw64⟩ | exact hp2g | exact hp3g) | (refine ⟨?_, ?_, ?_⟩ <;> (try dsimp only) <;> first | exact hgx.1 | exact hgx.2.1 | exact hgx.2.2 | exact hgy | exact I64_wrap _ | (simp at hgy; unfold I64; omega) | (unfold I64; omega))
  simp [c0, c1, c2, c3, c4, c5, b3, d3, bz2, dz2]
  refine fin _ _ ⟨_, _, ⟨_, _, _, _⟩, _, _, _, _, _⟩ ?_ (blkAt_set dz2) (hcc2.set (by omega) (by omega) _) ?_
  · simp
  · first | exact ⟨Vec.rg0, by simp [I64], by simp [I64]⟩ | (refine turnP_rg ?_ (I64_wrap _); first | exact ⟨Vec.rg0, by simp [I64], hw64⟩ | exact hp2g | exact hp3g) | (refine ⟨?_, ?_, ?_⟩ <;> (try dsimp only) <;> first | exact hgx.1 | exact hgx.2.1 | exact hgx.2.2 | exact hgy | exact I64_wrap _ | (simp at hgy; unfold I64; omega) | (unfold I64; omega))
end W
end Go.Proofs.YtdojljjiekgapaaGreatDoor
