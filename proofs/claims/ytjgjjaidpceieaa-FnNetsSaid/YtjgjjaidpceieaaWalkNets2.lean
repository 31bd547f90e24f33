/- The functions that this law reaches: what each computes. Conditions: those that each theorem names. -/
import Derived.Test.YtjgjjaidpceieaaWalkNets1
set_option maxRecDepth 100000
set_option maxHeartbeats 4000000
set_option linter.unusedSimpArgs false
set_option linter.unusedVariables false
set_option linter.unnecessarySimpa false
namespace Go.Proofs.Ytjgjjaidpceieaa
open Go Go.Ab Go.ChangeShapes Go.WideShapes Go.ChangeAt Go.RowKit
namespace W
def encU (x : Int) : List Lf := [.i .u8 x]
/-- A cursor over n bytes. -/
def Cur (H : Heap) (c n : Nat) : Prop := ∃ (a : Option (Nat × Nat)) (i h : Int) (bs : List Int), blkAt H c = some ⟨105, .wr, [[.sl a n, .i .i64 i, .i .i64 h]]⟩ ∧ 0 ≤ i ∧ i ≤ n ∧ bs.length = n ∧ n ≤ 1048576 ∧ (∀ id r, a = some (id, r) → bs ≠ [] → id < c) ∧ Sl H 5 a (bs.map encU)
theorem Cur.lt {H : Heap} {c n : Nat} (h : Cur H c n) : c < H.length := let ⟨_, _, _, _, h1, _⟩ := h; blkAt_len h1
theorem Cur.keep {H H' : Heap} {c n : Nat} {f : List Nat} (h : Cur H c n) (hk : Keep f H H') (hf : ∀ i ∈ f, c < i) : Cur H' c n := by
  obtain ⟨a, i, h, bs, h1, h2, h3, h4, h5, h6, h7⟩ := h
  have hlt := blkAt_len h1
  refine ⟨a, i, h, bs, hk.blk h1 (fun hc => by have := hf c hc; omega), h2, h3, h4, h5, h6, ?_⟩
  by_cases hb : bs = []
  · subst hb; exact Sl.nil _ _ _
  · exact h7.keep hk (fun id r he hi => by have := hf id hi; have := h6 id r he hb; omega)
theorem Cur.app {H : Heap} {c n : Nat} (h : Cur H c n) (G : Heap) : Cur (H ++ G) c n := h.keep (Keep.app [] H G) (by simp)
theorem Cur.ne {H : Heap} {c n id : Nat} {b : Blk} (h : Cur H c n) (hb : blkAt H id = some b) (he : b.elem ≠ 105) : id ≠ c := by
  obtain ⟨a, i, h, bs, h1, -⟩ := h
  rintro rfl
  rw [h1] at hb
  injection hb with hb
  rw [← hb] at he
  exact he rfl
/-- From H to H' the cursor may have gone on, nothing else that was has turned. -/
def CurTo (H H' : Heap) (c n : Nat) : Prop := Keep [c] H H' ∧ Cur H' c n
theorem CurTo.refl {H : Heap} {c n : Nat} (h : Cur H c n) : CurTo H H c n := ⟨Keep.refl _ _, h⟩
theorem CurTo.app {H H' : Heap} {c n : Nat} (h : CurTo H H' c n) (G : Heap) : CurTo H (H' ++ G) c n := ⟨h.1.trans (Keep.app [] _ G) (fun _ h _ => h) (by simp), h.2.app G⟩
theorem CurTo.next {H H1 H2 : Heap} {c n : Nat} (h : CurTo H H1 c n) (h2 : CurTo H1 H2 c n) : CurTo H H2 c n := ⟨h.1.trans h2.1 (fun _ h _ => h) (fun _ h _ => h), h2.2⟩
theorem CurTo.base {H G H' : Heap} {c n : Nat} (h : CurTo (H ++ G) H' c n) : CurTo H H' c n := ⟨h.1.base, h.2⟩
theorem CurTo.set {H H' : Heap} {c n : Nat} (h : CurTo H H' c n) {id : Nat} (hid : H.length ≤ id) (hc : c < id) (y : Option Blk) : CurTo H (H'.set id y) c n :=
  ⟨h.1.trans (Keep.set _ _) (fun _ h _ => h) (fun i hi hlt => by simp at hi; omega), h.2.keep (Keep.set _ _) (by simpa using hc)⟩
theorem CurTo.own {H H' H2 : Heap} {c n : Nat} (h : CurTo H H' c n) {f : List Nat} (hk : Keep f H' H2) (hf : ∀ i ∈ f, H.length ≤ i) (hc : c < H.length) : CurTo H H2 c n :=
  ⟨h.1.trans hk (fun _ h _ => h) (fun i hi hlt => by have := hf i hi; omega), h.2.keep hk (fun i hi => by have := hf i hi; omega)⟩
theorem CurTo.leave {H H' : Heap} {c n : Nat} (h : CurTo H H' c n) (hc : Cur H c n) (ws : List W) : CurTo H (Go.Ab.leave H H' ws) c n := by
  rcases leave_or H H' ws with e | ⟨e, -⟩ <;> rw [e]
  · exact h
  · exact CurTo.refl hc
theorem CurTo.len {H H' : Heap} {c n : Nat} (h : CurTo H H' c n) : H.length ≤ H'.length := h.1.1
/-- Of what was there only the cursor's block turned. -/
theorem CurTo.only {H H' : Heap} {c n : Nat} (h : CurTo H H' c n) (hc : Cur H c n) : onlyT (some 105) H H' = true := by
  unfold onlyT
  simp only [List.all_eq_true, List.mem_range, Bool.or_eq_true, decide_eq_true_eq]
  intro id hid
  by_cases he : id = c
  · subst he
    obtain ⟨a, i, h0, bs, h1, -⟩ := hc
    obtain ⟨a', i', h0', bs', h1', -⟩ := h.2
    have e1 := blkAt_some h1
    have e2 := blkAt_some h1'
    right
    rw [e1, e2]
    rfl
  · exact .inl (h.1.2 id hid (by simpa using he))

/-- A call of a function that draws. -/
theorem stpL_cur {call : Fun} {draw : Bool} {tm : Ab.T} {H : Heap} {Q : Ex → Ab.T → Heap → Prop} {fr : List Fr} {is : List I2} {f : Nat} {args : List V} {d : Option Nat} {K : V → Heap → Prop} {x y : List (Nat × Nat × Nat)} {c n : Nat} (h : Runs env f args H K) (hc : Cur H c n) (hto : ∀ v H', K v H' → CurTo H H' c n)
    (hk : ∀ v H', K v H' → stpL env call (some (v, H')) d draw is fr tm Q) (hw : env.wr f = true := by rfl) (hn : env.wt f = some 105 := by rfl) : stpL env call (guardCall env draw (.w (.lf (.fn f x y))) H (run env f args H)) d draw is fr tm Q := by
  obtain ⟨v, H', hr, hK⟩ := h
  have : guardCall env draw (.w (.lf (.fn f x y))) H (run env f args H) = some (v, H') := by
    rw [hr]
    unfold guardCall
    split
    · rfl
    · have h1 := hto v H' hK
      simp [hw, hn, h1.len, h1.only hc]
  rw [this]
  exact hk v H' hK

theorem and255 (a : Int) : 0 ≤ IntKind.i64.wrap ((BitVec.ofInt 64 a &&& 255#64).toNat : Nat) ∧ IntKind.i64.wrap ((BitVec.ofInt 64 a &&& 255#64).toNat : Nat) ≤ 255 := by
  have h : (BitVec.ofInt 64 a &&& 255#64).toNat ≤ 255 := by
    rw [BitVec.toNat_and]
    exact Nat.le_trans Nat.and_le_right (by decide)
  rw [wrap64 (by omega) (by omega)]
  omega
theorem l1Byte {H : Heap} {c n : Nat} (hc : Cur H c n) : Runs env 95 [.ptr c 0 0] H fun v H' => (∃ x : Int, v = .int x ∧ 0 ≤ x ∧ x ≤ 255) ∧ CurTo H H' c n := by
  have hc0 := hc
  obtain ⟨a, i, h, bs, h1, h2, h3, h4, h5, h6, h7⟩ := hc
  have hl := blkAt_len h1
  refine Runs.walk ok95 Try.func95 rfl (by simp [Try.f95]) fun Q hQ => ?_
  simp only [Try.f95, strip, stripL, stripI, stripG, chkT, tagsB, tagsL, tagD, addT, tagA, lookN, tagOp, elmT, ty22, ty24, ty25, ty33, ty54, ty58, ty95, ty122, Nat.reduceEqDiff, if_false, reduceIte, Option.getD_some, Option.getD_none, dstAt, dstOk, Nat.reduceLT, decide_true, if_true]
  have hset : ∀ y : Blk, blkAt (H.set c (some y)) c = some y := fun y => blkAt_set hl
  have hto : ∀ (i' h' : Int), 0 ≤ i' → i' ≤ n → CurTo H (H.set c (some ⟨105, .wr, [[.sl a n, .i .i64 i', .i .i64 h']]⟩)) c n := fun i' h' g1 g2 =>
    ⟨Keep.set _ _, a, i', h', bs, hset _, g1, g2, h4, h5, h6, by
      by_cases hb : bs = []
      · subst hb; exact Sl.nil _ _ _
      · exact h7.keep (Keep.set _ _) (fun id r he hi => by have := h6 id r he hb; simp at hi; omega)⟩
  simp [h1, hl, hset, builtinV, pureB, lenV, binV, binInt, cmpI, arI, IntKind.bits]
  refine selS_intro (fun hc1 => ?_) (fun hc1 => ?_)
  · simp at hc1
    obtain ⟨k, rfl⟩ : ∃ k : Nat, i = (k : Int) := ⟨i.toNat, by omega⟩
    have hk : k < bs.length := by omega
    obtain ⟨id3, r3, bl3, rfl, hb3, hbe3, hrow3⟩ := h7 k _ (by rw [List.getElem?_map, List.getElem?_eq_getElem hk]; rfl)
    have hid3 := blkAt_len hb3
    have hlt3 : id3 < c := h6 id3 r3 rfl (by rintro rfl; simp at hk)
    have hse : ∀ y : Option Blk, blkAt (H.set c y) id3 = some bl3 := fun y => by rw [blkAt_set_ne (by omega)]; exact hb3
    have hkn : k < n := by omega
    have hkI : (k : Int) < n := by omega
    have hw : IntKind.i64.wrap ((k : Int) + 1) = (k : Int) + 1 := wrap64 (by omega) (by omega)
    simp [hset, hl, hse, hid3, hbe3, hrow3, indexAddrV, elemIs, hkn, hkI, encU, binV, binInt, cmpI, arI, IntKind.bits, convV, hw]
    refine hQ _ _ _ (by simp) ?_
    simp [Try.f95]
    exact ⟨and255 _, (hto _ _ (by omega) (by omega)).leave hc0 _⟩
  · simp at hc1
    simp
    refine hQ _ _ _ (by simp) ?_
    simp [Try.f95]
    exact ⟨and255 _, (hto _ _ h2 h3).leave hc0 _⟩

theorem tmod_le {s k : Int} (hs : 0 ≤ s) (hk : 0 < k) : s.tmod k ≤ s := by
  rw [Int.tmod_eq_emod_of_nonneg hs]
  obtain ⟨a, rfl⟩ := Int.eq_ofNat_of_zero_le hs
  obtain ⟨b, rfl⟩ := Int.eq_ofNat_of_zero_le (show 0 ≤ k by omega)
  have := Nat.mod_le a b
  omega
theorem l1Below {H : Heap} {c n : Nat} (hc : Cur H c n) (k : Int) : Runs env 56 [.ptr c 0 0, .int k] H fun v H' => (∃ x : Int, v = .int x ∧ 0 ≤ x ∧ (0 < k → x < k) ∧ x ≤ 4294967295) ∧ CurTo H H' c n := by
  refine Runs.walk ok56 Try.func56 rfl (by simp [Try.f56]) fun Q hQ => ?_
  simp only [Try.f56, strip, stripL, stripI, stripG, chkT, tagsB, tagsL, tagD, addT, tagA, lookN, tagOp, elmT, ty22, ty24, ty25, ty33, ty54, ty58, ty95, ty122, Nat.reduceEqDiff, if_false, reduceIte, Option.getD_some, Option.getD_none, dstAt, dstOk, Nat.reduceLT, decide_true, if_true]
  have fin : ∀ (HF : Heap) (tm : Ab.T) (x : Int), tm 4 = .int x → 0 ≤ x → (0 < k → x < k) → x ≤ 4294967295 → CurTo H HF c n → Q .ret tm HF := by
    intro HF tm x t4 h1 h2 h3 hto
    refine hQ _ _ _ (by simp) ?_
    simp [Try.f56, t4]
    exact ⟨⟨h1, h2, h3⟩, hto.leave hc _⟩
  simp
  by_cases hk : k ≤ 0
  · simp [hk]
    exact fin _ _ 0 (by simp) (by omega) (by omega) (by omega) (CurTo.refl hc)
  have hk0 : ¬ k = 0 := by omega
  simp [hk]
  by_cases hk2 : k ≤ 256
  · simp [hk2]
    refine stpL_runs (l1Byte hc) ?_
    rintro _ H1 ⟨⟨x, rfl, hx1, hx2⟩, hto⟩
    simp [hk0]
    have h1 := Int.tmod_nonneg k hx1
    have h2 := Int.tmod_lt_of_pos x (show 0 < k by omega)
    exact fin _ _ (x.tmod k) (by simp) h1 (fun _ => h2) (by omega) hto
  · simp [hk2]
    refine stpL_runs (l1Byte hc) ?_
    rintro _ H1 ⟨⟨x, rfl, hx1, hx2⟩, hto1⟩
    simp
    refine stpL_runs (l1Byte hto1.2) ?_
    rintro _ H2 ⟨⟨y, rfl, hy1, hy2⟩, hto2⟩
    simp
    refine stpL_runs (l1Byte hto2.2) ?_
    rintro _ H3 ⟨⟨z, rfl, hz1, hz2⟩, hto3⟩
    simp
    refine stpL_runs (l1Byte hto3.2) ?_
    rintro _ H4 ⟨⟨w, rfl, hw1, hw2⟩, hto4⟩
    have g1 : IntKind.i64.wrap (x * 16777216) = x * 16777216 := wrap64 (by omega) (by omega)
    have g2 : IntKind.i64.wrap (y * 65536) = y * 65536 := wrap64 (by omega) (by omega)
    have g3 : IntKind.i64.wrap (x * 16777216 + y * 65536) = x * 16777216 + y * 65536 := wrap64 (by omega) (by omega)
    have g4 : IntKind.i64.wrap (z * 256) = z * 256 := wrap64 (by omega) (by omega)
    have g5 : IntKind.i64.wrap (x * 16777216 + y * 65536 + z * 256) = x * 16777216 + y * 65536 + z * 256 := wrap64 (by omega) (by omega)
    have g6 : IntKind.i64.wrap (x * 16777216 + y * 65536 + z * 256 + w) = x * 16777216 + y * 65536 + z * 256 + w := wrap64 (by omega) (by omega)
    simp [hk0, g1, g2, g3, g4, g5, g6]
    obtain ⟨s, hs⟩ : ∃ s, s = x * 16777216 + y * 65536 + z * 256 + w := ⟨_, rfl⟩
    have hs0 : 0 ≤ s := by omega
    have h1 := Int.tmod_nonneg k hs0
    have h2 := Int.tmod_lt_of_pos s (show 0 < k by omega)
    have h3 : s.tmod k ≤ s := tmod_le hs0 (by omega)
    refine fin _ _ (s.tmod k) ?_ h1 (fun _ => h2) (by omega) (((hto1.next hto2).next hto3).next hto4)
    simp [hs]

theorem l1Once {H : Heap} {c n : Nat} (hc : Cur H c n) (k : Int) : Runs env 66 [.ptr c 0 0, .int k] H fun v H' => (∃ b : Bool, v = .bool b) ∧ CurTo H H' c n := by
  refine Runs.walk ok66 Try.func66 rfl (by simp [Try.f66]) fun Q hQ => ?_
  simp only [Try.f66, strip, stripL, stripI, stripG, chkT, tagsB, tagsL, tagD, addT, tagA, lookN, tagOp, elmT, ty22, ty24, ty25, ty33, ty54, ty58, ty95, ty122, Nat.reduceEqDiff, if_false, reduceIte, Option.getD_some, Option.getD_none, dstAt, dstOk, Nat.reduceLT, decide_true, if_true]
  simp
  refine stpL_runs (l1Below hc k) ?_
  rintro _ H1 ⟨⟨x, rfl, hx1, hx2⟩, hto⟩
  simp
  refine hQ _ _ _ (by simp) ?_
  simp [Try.f66]
  exact ⟨by omega, hto.leave hc _⟩

theorem l1PickInt {H : Heap} {c n : Nat} (hc : Cur H c n) {a : Option (Nat × Nat)} {xs : List Int} (hs : Sl H 3 a (xs.map encI)) (hx : xs ≠ []) (hlen : xs.length ≤ 1048576) :
    Runs env 51 [.ptr c 0 0, .w (.lf (.sl a xs.length))] H fun v H' => (∃ x : Int, v = .int x ∧ x ∈ xs) ∧ CurTo H H' c n := by
  have hpos : 0 < xs.length := List.length_pos_iff.2 hx
  refine Runs.walk ok51 Try.func51 rfl (by simp [Try.f51]) fun Q hQ => ?_
  simp only [Try.f51, strip, stripL, stripI, stripG, chkT, tagsB, tagsL, tagD, addT, tagA, lookN, tagOp, elmT, ty22, ty24, ty25, ty33, ty54, ty58, ty95, ty122, Nat.reduceEqDiff, if_false, reduceIte, Option.getD_some, Option.getD_none, dstAt, dstOk, Nat.reduceLT, decide_true, if_true]
  simp [builtinV, pureB, lenV]
  refine stpL_runs (l1Below hc xs.length) ?_
  rintro _ H1 ⟨⟨x, rfl, hx1, hx2, -⟩, hto⟩
  have hxl := hx2 (by omega)
  obtain ⟨k, rfl⟩ : ∃ k : Nat, x = (k : Int) := ⟨x.toNat, by omega⟩
  have hk : k < xs.length := by omega
  obtain ⟨id3, r3, bl3, rfl, hb3, hbe3, hrow3⟩ := hs k _ (by rw [List.getElem?_map, List.getElem?_eq_getElem hk]; rfl)
  have hne := hc.ne hb3 (by rw [hbe3]; decide)
  have hb4 := hto.1.blk hb3 (by simpa using hne)
  have hid4 := blkAt_len hb4
  have hkI : (k : Int) < xs.length := by omega
  simp [hb4, hid4, hbe3, hrow3, indexAddrV, elemIs, hk, hkI, encI]
  refine hQ _ _ _ (by simp) ?_
  simp [Try.f51]
  exact hto.leave hc _

theorem l6DrawRight {H : Heap} {c n : Nat} (hc : Cur H c n) : Runs env 127 [.ptr c 0 0] H fun v H' => (∃ x : Vec, v = .agg x.enc) ∧ CurTo H H' c n := by
  have hcl := hc.lt
  refine Runs.walk ok127 Try.func127 rfl (by simp [Try.f127]) fun Q hQ => ?_
  simp only [Try.f127, strip, stripL, stripI, stripG, chkT, tagsB, tagsL, tagD, addT, tagA, lookN, tagOp, elmT, ty22, ty24, ty25, ty33, ty54, ty58, ty95, ty122, Nat.reduceEqDiff, if_false, reduceIte, Option.getD_some, Option.getD_none, dstAt, dstOk, Nat.reduceLT, decide_true, if_true]
  have fin : ∀ (HF : Heap) (tm : Ab.T) (x : Vec), tm 2 = .ptr H.length 0 0 → blkAt HF H.length = some ⟨52, .wr, [x.enc]⟩ → CurTo H HF c n → Q .ret tm HF := by
    intro HF tm x t2 hb hto
    refine hQ _ _ _ (by simp) ?_
    have hres : resT env.τ tm HF (Try.f127.results.toList) = some [W.agg x.enc] := by simp [Try.f127, t2, hb]
    rw [hres, optK_some]
    exact ⟨⟨x, rfl⟩, hto.leave hc _⟩
  have hcX := hc.app [some ⟨52, .wr, [[.i .i64 0, .i .i64 0, .i .i64 0, .i .i64 0]]⟩]
  have bzX : blkAt (H ++ [some ⟨52, .wr, [[.i .i64 0, .i .i64 0, .i .i64 0, .i .i64 0]]⟩]) H.length = some ⟨52, .wr, [[.i .i64 0, .i .i64 0, .i .i64 0, .i .i64 0]]⟩ := by simp
  have hlX : (H ++ [some ⟨52, .wr, [[.i .i64 0, .i .i64 0, .i .i64 0, .i .i64 0]]⟩] : Heap).length = H.length + 1 := by simp
  simp
  refine stpL_runs (l1Below hcX 4) ?_
  rintro _ H1 ⟨⟨x, rfl, hx⟩, hto1⟩
  simp
  refine stpL_runs (l1Below hto1.2 4) ?_
  rintro _ H2 ⟨⟨y, rfl, hy⟩, hto2⟩
  have hto := hto1.next hto2
  have bz2 := hto.1.blk bzX (by simp; omega)
  have dz2 := blkAt_len bz2
  have hcc2 := hto.base
  have hl2 := hto.len
  rw [hlX] at hl2
  obtain ⟨r, hr⟩ : ∃ r, r = IntKind.i64.wrap (1 + x) := ⟨_, rfl⟩
  simp [← hr]
  have hcM := hto.2.app [some ⟨52, .wr, [[.i .i64 r, .i .i64 0, .i .i64 0, .i .i64 y]]⟩]
  refine stpL_cur (l1Below hcM 3) hcM (fun v H' h => h.2) ?_
  rintro _ H3 ⟨⟨z, rfl, hz⟩, hto3⟩
  have b3 : blkAt H3 H2.length = some ⟨52, .wr, [[.i .i64 r, .i .i64 0, .i .i64 0, .i .i64 y]]⟩ := hto3.1.blk (by simp) (by simp; omega)
  have bz3 := hto3.1.blk (blkAt_app bz2 _) (by simp; omega)
  have d3 := blkAt_len b3
  have dz3 := blkAt_len bz3
  have hcc3 := hcc2.next hto3.base
  obtain ⟨g, hg⟩ : ∃ g, g = IntKind.i64.wrap (r + z) := ⟨_, rfl⟩
  have hset : ∀ (Y : Heap) (y : Blk), H2.length < Y.length → blkAt (List.set Y H2.length (some y)) H2.length = some y := fun Y y h => blkAt_set h
  have hne3 : ∀ (Y : Heap) (y : Option Blk), blkAt (List.set Y H2.length y) H.length = blkAt Y H.length := fun Y y => blkAt_set_ne (by omega)
  simp [b3, d3, ← hg, hset]
  refine selS_intro (fun hq => ?_) (fun hq => ?_)
  · simp
    have hcS := (hcc3.set (id := H2.length) (by omega) (by omega) (some ⟨52, .wr, [[.i .i64 r, .i .i64 0, .i .i64 g, .i .i64 y]]⟩))
    refine stpL_runs (l1Below hcS.2 3) ?_
    rintro _ H4 ⟨⟨u, rfl, hu⟩, hto4⟩
    have b4 := hto4.1.blk (blkAt_set d3) (by simp; omega)
    have bz4 := hto4.1.blk (show blkAt (H3.set H2.length _) H.length = _ from (hne3 _ _).trans bz3) (by simp; omega)
    have d4 := blkAt_len b4
    have dz4 := blkAt_len bz4
    have hcc4 := hcS.next hto4
    simp [b4, d4, bz4, dz4, hset, hne3]
    refine fin _ _ ⟨_, _, _, _⟩ ?_ (blkAt_set (Nat.lt_of_lt_of_eq dz4 (List.length_set).symm)) ((hcc4.set (by omega) (by omega) _).set (by omega) (by omega) _)
    simp
  · simp [b3, d3, bz3, dz3, hset, hne3]
    refine fin _ _ ⟨_, _, _, _⟩ ?_ (blkAt_set (Nat.lt_of_lt_of_eq dz3 (List.length_set).symm)) ((hcc3.set (by omega) (by omega) _).set (by omega) (by omega) _)
    simp

theorem l6Draw {H : Heap} {c n : Nat} (hc : Cur H c n) : Runs env 129 [.ptr c 0 0] H fun v H' => (∃ x : Vec, v = .agg x.enc) ∧ CurTo H H' c n := by
  have hcl := hc.lt
  refine Runs.walk ok129 Try.func129 rfl (by simp [Try.f129]) fun Q hQ => ?_
  simp only [Try.f129, strip, stripL, stripI, stripG, chkT, tagsB, tagsL, tagD, addT, tagA, lookN, tagOp, elmT, ty22, ty24, ty25, ty33, ty54, ty58, ty95, ty122, Nat.reduceEqDiff, if_false, reduceIte, Option.getD_some, Option.getD_none, dstAt, dstOk, Nat.reduceLT, decide_true, if_true]
  have fin : ∀ (HF : Heap) (tm : Ab.T) (x : Vec), tm 2 = .ptr H.length 0 0 → blkAt HF H.length = some ⟨52, .wr, [x.enc]⟩ → CurTo H HF c n → Q .ret tm HF := by
    intro HF tm x t2 hb hto
    refine hQ _ _ _ (by simp) ?_
    have hres : resT env.τ tm HF (Try.f129.results.toList) = some [W.agg x.enc] := by simp [Try.f129, t2, hb]
    rw [hres, optK_some]
    exact ⟨⟨x, rfl⟩, hto.leave hc _⟩
  have hcX := hc.app [some ⟨52, .wr, [[.i .i64 0, .i .i64 0, .i .i64 0, .i .i64 0]]⟩]
  have bzX : blkAt (H ++ [some ⟨52, .wr, [[.i .i64 0, .i .i64 0, .i .i64 0, .i .i64 0]]⟩]) H.length = some ⟨52, .wr, [[.i .i64 0, .i .i64 0, .i .i64 0, .i .i64 0]]⟩ := by simp
  have hlX : (H ++ [some ⟨52, .wr, [[.i .i64 0, .i .i64 0, .i .i64 0, .i .i64 0]]⟩] : Heap).length = H.length + 1 := by simp
  simp
  refine stpL_runs (l6DrawRight hcX) ?_
  rintro _ H1 ⟨⟨x, rfl⟩, hto1⟩
  have bz1 := hto1.1.blk bzX (by simp; omega)
  have dz1 := blkAt_len bz1
  have hcc1 := hto1.base
  have hl1 := hto1.len
  rw [hlX] at hl1
  simp [Vec.enc]
  have hcM := hto1.2.app [some ⟨52, .wr, [[.i .i64 x.root, .i .i64 x.cost, .i .i64 x.bridge, .i .i64 x.port]]⟩]
  refine stpL_runs (l1Below hcM 10) ?_
  rintro _ H2 ⟨⟨k, rfl, -⟩, hto2⟩
  have b3 : blkAt H2 H1.length = some ⟨52, .wr, [[.i .i64 x.root, .i .i64 x.cost, .i .i64 x.bridge, .i .i64 x.port]]⟩ := hto2.1.blk (by simp) (by simp; omega)
  have bz2 := hto2.1.blk (blkAt_app bz1 _) (by simp; omega)
  have d3 := blkAt_len b3
  have dz2 := blkAt_len bz2
  have hcc2 := hcc1.next hto2.base
  have hne3 : ∀ (Y : Heap) (y : Option Blk), blkAt (List.set Y H1.length y) H.length = blkAt Y H.length := fun Y y => blkAt_set_ne (by omega)
  have hne4 : ∀ (Y : Heap) (y : Blk), H1.length < Y.length → blkAt (List.set Y H1.length (some y)) H1.length = some y := fun Y y h => blkAt_set h
  by_cases c0 : k = 0
  · simp [c0]
    have hcL := hto2.2.app [some ⟨3, .wr, [encI 0, encI 9, encI 10]⟩]
    simp only [encI] at hcL
    refine stpL_runs (l1PickInt (xs := [0, 9, 10]) hcL (Sl.of (by simp [encI])) (by simp) (by simp)) ?_
    rintro _ H3 ⟨⟨y, rfl, -⟩, hto3⟩
    have hto3 := hto3.base
    have b33 := hto3.1.blk b3 (by simp; omega)
    have bz3 := hto3.1.blk bz2 (by simp; omega)
    have d33 := blkAt_len b33
    have dz3 := blkAt_len bz3
    have hcc3 := hcc2.next hto3
    simp [b33, d33, bz3, dz3, hne3, hne4, Vec.enc]
    refine fin _ _ ⟨y, x.cost, x.bridge, x.port⟩ ?_ (blkAt_set (Nat.lt_of_lt_of_eq dz3 (List.length_set).symm)) ((hcc3.set (by omega) (by omega) _).set (by omega) (by omega) _)
    simp
  by_cases c1 : k = 1
  · simp [c1]
    have hcL := hto2.2.app [some ⟨3, .wr, [encI (-1), encI 0, encI 20, encI 21]⟩]
    simp only [encI] at hcL
    refine stpL_runs (l1PickInt (xs := [(-1), 0, 20, 21]) hcL (Sl.of (by simp [encI])) (by simp) (by simp)) ?_
    rintro _ H3 ⟨⟨y, rfl, -⟩, hto3⟩
    have hto3 := hto3.base
    have b33 := hto3.1.blk b3 (by simp; omega)
    have bz3 := hto3.1.blk bz2 (by simp; omega)
    have d33 := blkAt_len b33
    have dz3 := blkAt_len bz3
    have hcc3 := hcc2.next hto3
    simp [b33, d33, bz3, dz3, hne3, hne4, Vec.enc]
    refine fin _ _ ⟨x.root, y, x.bridge, x.port⟩ ?_ (blkAt_set (Nat.lt_of_lt_of_eq dz3 (List.length_set).symm)) ((hcc3.set (by omega) (by omega) _).set (by omega) (by omega) _)
    simp
  by_cases c2 : k = 2
  · simp [c2]
    have hcL := hto2.2.app [some ⟨3, .wr, [encI 0, encI 9, encI 10]⟩]
    simp only [encI] at hcL
    refine stpL_runs (l1PickInt (xs := [0, 9, 10]) hcL (Sl.of (by simp [encI])) (by simp) (by simp)) ?_
    rintro _ H3 ⟨⟨y, rfl, -⟩, hto3⟩
    have hto3 := hto3.base
    have b33 := hto3.1.blk b3 (by simp; omega)
    have bz3 := hto3.1.blk bz2 (by simp; omega)
    have d33 := blkAt_len b33
    have dz3 := blkAt_len bz3
    have hcc3 := hcc2.next hto3
    simp [b33, d33, bz3, dz3, hne3, hne4, Vec.enc]
    refine fin _ _ ⟨x.root, x.cost, y, x.port⟩ ?_ (blkAt_set (Nat.lt_of_lt_of_eq dz3 (List.length_set).symm)) ((hcc3.set (by omega) (by omega) _).set (by omega) (by omega) _)
    simp
  by_cases c3 : k = 3
  · simp [c3]
    have hcL := hto2.2.app [some ⟨3, .wr, [encI (-1), encI 3, encI 4]⟩]
    simp only [encI] at hcL
    refine stpL_runs (l1PickInt (xs := [(-1), 3, 4]) hcL (Sl.of (by simp [encI])) (by simp) (by simp)) ?_
    rintro _ H3 ⟨⟨y, rfl, -⟩, hto3⟩
    have hto3 := hto3.base
    have b33 := hto3.1.blk b3 (by simp; omega)
    have bz3 := hto3.1.blk bz2 (by simp; omega)
    have d33 := blkAt_len b33
    have dz3 := blkAt_len bz3
    have hcc3 := hcc2.next hto3
    simp [b33, d33, bz3, dz3, hne3, hne4, Vec.enc]
    refine fin _ _ ⟨x.root, x.cost, x.bridge, y⟩ ?_ (blkAt_set (Nat.lt_of_lt_of_eq dz3 (List.length_set).symm)) ((hcc3.set (by omega) (by omega) _).set (by omega) (by omega) _)
    simp
  simp [c0, c1, c2, c3, b3, d3, bz2, dz2]
  refine fin _ _ ⟨_, _, _, _⟩ ?_ (blkAt_set dz2) (hcc2.set (by omega) (by omega) _)
  simp

theorem l7DrawRight {H : Heap} {c n : Nat} (hc : Cur H c n) : Runs env 128 [.ptr c 0 0] H fun v H' => (∃ x : Port, v = .agg x.enc) ∧ CurTo H H' c n := by
  have hcl := hc.lt
  refine Runs.walk ok128 Try.func128 rfl (by simp [Try.f128]) fun Q hQ => ?_
  simp only [Try.f128, strip, stripL, stripI, stripG, chkT, tagsB, tagsL, tagD, addT, tagA, lookN, tagOp, elmT, ty22, ty24, ty25, ty33, ty54, ty58, ty95, ty122, Nat.reduceEqDiff, if_false, reduceIte, Option.getD_some, Option.getD_none, dstAt, dstOk, Nat.reduceLT, decide_true, if_true]
  have fin : ∀ (HF : Heap) (tm : Ab.T) (x : Port), tm 2 = .ptr H.length 0 0 → blkAt HF H.length = some ⟨87, .wr, [x.enc]⟩ → CurTo H HF c n → Q .ret tm HF := by
    intro HF tm x t2 hb hto
    refine hQ _ _ _ (by simp) ?_
    have hres : resT env.τ tm HF (Try.f128.results.toList) = some [W.agg x.enc] := by simp [Try.f128, t2, hb]
    rw [hres, optK_some]
    exact ⟨⟨x, rfl⟩, hto.leave hc _⟩
  have hcX := hc.app [some ⟨87, .wr, [[.b false, .b false, .i .i64 0, .i .i64 0, .i .i64 0, .i .i64 0, .i .i64 0, .i .i64 0, .i .i64 0, .i .i64 0, .b false]]⟩]
  have bzX : blkAt (H ++ [some ⟨87, .wr, [[.b false, .b false, .i .i64 0, .i .i64 0, .i .i64 0, .i .i64 0, .i .i64 0, .i .i64 0, .i .i64 0, .i .i64 0, .b false]]⟩]) H.length = some ⟨87, .wr, [[.b false, .b false, .i .i64 0, .i .i64 0, .i .i64 0, .i .i64 0, .i .i64 0, .i .i64 0, .i .i64 0, .i .i64 0, .b false]]⟩ := by simp
  have hlX : (H ++ [some ⟨87, .wr, [[.b false, .b false, .i .i64 0, .i .i64 0, .i .i64 0, .i .i64 0, .i .i64 0, .i .i64 0, .i .i64 0, .i .i64 0, .b false]]⟩] : Heap).length = H.length + 1 := by simp
  have eO := fun H p => l7Open H p
  have eF := fun H p => specFade H p
  have eT := fun H p r => specTurn H p r
  have eC := fun H p v h => specClaim H p v h
  simp only [Port.enc, Vec.enc] at eO eF eT eC
  simp
  refine stpL_runs (l1Once hcX 5) ?_
  rintro _ H1 ⟨⟨b, rfl⟩, hto1⟩
  have bz1 := hto1.1.blk bzX (by simp; omega)
  have dz1 := blkAt_len bz1
  have hcc1 := hto1.base
  have hl1 := hto1.len
  rw [hlX] at hl1
  cases b
  rotate_left
  · simp [bz1, dz1]
    refine fin _ _ ⟨_, _, ⟨_, _, _, _⟩, _, _, _, _, _⟩ ?_ (blkAt_set dz1) (hcc1.set (by omega) (by omega) _)
    simp
  simp
  have hcL := hto1.2.app [some ⟨3, .wr, [encI 0, encI 2, encI 4]⟩]
  simp only [encI] at hcL
  refine stpL_runs (l1PickInt (xs := [0, 2, 4]) hcL (Sl.of (by simp [encI])) (by simp) (by simp)) ?_
  rintro _ H2 ⟨⟨w, rfl, -⟩, hto2⟩
  have bz2 := hto2.1.blk (blkAt_app bz1 _) (by simp; omega)
  have dz2 := blkAt_len bz2
  have hcc2 := hcc1.next hto2.base
  have hl2 := hto2.base.len
  simp
  have hcM := hto2.2.app [some ⟨87, .wr, [[.b true, .b false, .i .i64 0, .i .i64 0, .i .i64 0, .i .i64 0, .i .i64 0, .i .i64 0, .i .i64 2, .i .i64 w, .b false]]⟩]
  refine stpL_runs (l1Once hcM 3) ?_
  rintro _ H3 ⟨⟨b, rfl⟩, hto3⟩
  have b3 : blkAt H3 H2.length = some ⟨87, .wr, [[.b true, .b false, .i .i64 0, .i .i64 0, .i .i64 0, .i .i64 0, .i .i64 0, .i .i64 0, .i .i64 2, .i .i64 w, .b false]]⟩ := hto3.1.blk (by simp) (by simp; omega)
  have bz3 := hto3.1.blk (blkAt_app bz2 _) (by simp; omega)
  have hcc3 := hcc2.next hto3.base
  have hne3 : ∀ (Y : Heap) (y : Option Blk), blkAt (List.set Y H2.length y) H.length = blkAt Y H.length := fun Y y => blkAt_set_ne (by omega)
  have d3 := blkAt_len b3
  have dz3 := blkAt_len bz3
  obtain ⟨p0, hp0⟩ : ∃ p0 : Port, p0 = ⟨true, false, ⟨0, 0, 0, 0⟩, 0, 0, 2, w, false⟩ := ⟨_, rfl⟩
  cases b
  rotate_left
  · simp
    simp [b3, d3]
    have e0 := fun H => l7Open H p0
    rw [hp0] at e0
    simp only [Port.enc] at e0
    simp [e0]
    refine stpL_runs (l1Below hcc3.2 3) ?_
    rintro _ H7 ⟨⟨r, rfl, -⟩, hto7⟩
    have bz7 := hto7.1.blk bz3 (by simp; omega)
    have dz7 := blkAt_len bz7
    have et := fun H => specTurn H (⟨true, false, ⟨0, 0, 0, 0⟩, 0, 0, 2, w, openBy 2 w⟩ : Port) (IntKind.i64.wrap (1 + r))
    simp only [Port.enc] at et
    simp [et, bz7, dz7]
    refine fin _ _ (turnP (⟨true, false, ⟨0, 0, 0, 0⟩, 0, 0, 2, w, openBy 2 w⟩ : Port) (IntKind.i64.wrap (1 + r))) ?_ (blkAt_set dz7) ((hcc3.next hto7).set (by omega) (by omega) _)
    simp
  simp [b3, d3]
  have e0 := fun H => l7Open H p0
  rw [hp0] at e0
  simp only [Port.enc] at e0
  simp [e0]
  obtain ⟨p1, hp1⟩ : ∃ p1 : Port, p1 = ⟨true, false, ⟨0, 0, 0, 0⟩, 0, 0, 2, w, openBy 2 w⟩ := ⟨_, rfl⟩
  refine stpL_runs (l6DrawRight hto3.2) ?_
  rintro _ H4 ⟨⟨v, rfl⟩, hto4⟩
  simp [Vec.enc]
  refine stpL_runs (l1Below hto4.2 4) ?_
  rintro _ H5 ⟨⟨h, rfl, -⟩, hto5⟩
  have hto45 := hto4.next hto5
  have b5 := hto45.1.blk b3 (by simp; omega)
  have bz5 := hto45.1.blk bz3 (by simp; omega)
  have d5 := blkAt_len b5
  have hcc5 := hcc3.next hto45
  have e1 := fun H => specClaim H p1 v h
  rw [hp1] at e1
  simp only [Port.enc, Vec.enc] at e1
  obtain ⟨p2, hp2⟩ : ∃ p2 : Port, p2 = claimP p1 v h := ⟨_, rfl⟩
  rw [← hp1, ← hp2] at e1
  simp [e1, b5, d5]
  have bs := blkAt_set (b := ⟨87, .wr, [[.b p2.up, .b p2.has, .i .i64 p2.vec.root, .i .i64 p2.vec.cost, .i .i64 p2.vec.bridge, .i .i64 p2.vec.port, .i .i64 p2.hops, .i .i64 p2.left, .i .i64 p2.role, .i .i64 p2.wait, .b p2.opn]]⟩) d5
  have bzs := (hne3 H5 (some ⟨87, .wr, [[.b p2.up, .b p2.has, .i .i64 p2.vec.root, .i .i64 p2.vec.cost, .i .i64 p2.vec.bridge, .i .i64 p2.vec.port, .i .i64 p2.hops, .i .i64 p2.left, .i .i64 p2.role, .i .i64 p2.wait, .b p2.opn]]⟩)).trans bz5
  have hcs := hcc5.set (id := H2.length) (by omega) (by omega) (some ⟨87, .wr, [[.b p2.up, .b p2.has, .i .i64 p2.vec.root, .i .i64 p2.vec.cost, .i .i64 p2.vec.bridge, .i .i64 p2.vec.port, .i .i64 p2.hops, .i .i64 p2.left, .i .i64 p2.role, .i .i64 p2.wait, .b p2.opn]]⟩)
  refine stpL_runs (l1Once hcs.2 3) ?_
  rintro _ H6 ⟨⟨b, rfl⟩, hto6⟩
  have b6 := hto6.1.blk bs (by simp; omega)
  have bz6 := hto6.1.blk bzs (by simp; omega)
  have d6 := blkAt_len b6
  have dz6 := blkAt_len bz6
  have hcc6 := hcs.next hto6
  have eo := fun H => l7Open H p2
  simp only [Port.enc] at eo
  cases b
  · simp [b6, d6, eo]
    refine stpL_runs (l1Below hcc6.2 3) ?_
    rintro _ H7 ⟨⟨r, rfl, -⟩, hto7⟩
    have bz7 := hto7.1.blk bz6 (by simp; omega)
    have dz7 := blkAt_len bz7
    have et := fun H => specTurn H ({ p2 with opn := openBy p2.role p2.wait } : Port) (IntKind.i64.wrap (1 + r))
    simp only [Port.enc] at et
    simp [et, bz7, dz7]
    refine fin _ _ (turnP ({ p2 with opn := openBy p2.role p2.wait } : Port) (IntKind.i64.wrap (1 + r))) ?_ (blkAt_set dz7) ((hcc6.next hto7).set (by omega) (by omega) _)
    simp
  · have ef := fun H => specFade H p2
    obtain ⟨p3, hp3⟩ : ∃ p3 : Port, p3 = fadeP p2 := ⟨_, rfl⟩
    rw [← hp3] at ef
    simp only [Port.enc] at ef
    have eo3 := fun H => l7Open H p3
    simp only [Port.enc] at eo3
    have hset6 : ∀ y : Blk, blkAt (List.set H6 H2.length (some y)) H2.length = some y := fun y => blkAt_set d6
    simp [b6, d6, ef, hset6, eo3]
    have bzs6 := (hne3 H6 (some ⟨87, .wr, [[.b p3.up, .b p3.has, .i .i64 p3.vec.root, .i .i64 p3.vec.cost, .i .i64 p3.vec.bridge, .i .i64 p3.vec.port, .i .i64 p3.hops, .i .i64 p3.left, .i .i64 p3.role, .i .i64 p3.wait, .b p3.opn]]⟩)).trans bz6
    have hcs6 := hcc6.set (id := H2.length) (by omega) (by omega) (some ⟨87, .wr, [[.b p3.up, .b p3.has, .i .i64 p3.vec.root, .i .i64 p3.vec.cost, .i .i64 p3.vec.bridge, .i .i64 p3.vec.port, .i .i64 p3.hops, .i .i64 p3.left, .i .i64 p3.role, .i .i64 p3.wait, .b p3.opn]]⟩)
    refine stpL_runs (l1Below hcs6.2 3) ?_
    rintro _ H7 ⟨⟨r, rfl, -⟩, hto7⟩
    have bz7 := hto7.1.blk bzs6 (by simp; omega)
    have dz7 := blkAt_len bz7
    have et := fun H => specTurn H ({ p3 with opn := openBy p3.role p3.wait } : Port) (IntKind.i64.wrap (1 + r))
    simp only [Port.enc] at et
    simp [et, bz7, dz7]
    refine fin _ _ (turnP ({ p3 with opn := openBy p3.role p3.wait } : Port) (IntKind.i64.wrap (1 + r))) ?_ (blkAt_set dz7) ((hcs6.next hto7).set (by omega) (by omega) _)
    simp

theorem l7Draw {H : Heap} {c n : Nat} (hc : Cur H c n) : Runs env 117 [.ptr c 0 0] H fun v H' => (∃ x : Port, v = .agg x.enc) ∧ CurTo H H' c n := by
  have hcl := hc.lt
  refine Runs.walk ok117 Try.func117 rfl (by simp [Try.f117]) fun Q hQ => ?_
  simp only [Try.f117, strip, stripL, stripI, stripG, chkT, tagsB, tagsL, tagD, addT, tagA, lookN, tagOp, elmT, ty22, ty24, ty25, ty33, ty54, ty58, ty95, ty122, Nat.reduceEqDiff, if_false, reduceIte, Option.getD_some, Option.getD_none, dstAt, dstOk, Nat.reduceLT, decide_true, if_true]
  have fin : ∀ (HF : Heap) (tm : Ab.T) (x : Port), tm 2 = .ptr H.length 0 0 → blkAt HF H.length = some ⟨87, .wr, [x.enc]⟩ → CurTo H HF c n → Q .ret tm HF := by
    intro HF tm x t2 hb hto
    refine hQ _ _ _ (by simp) ?_
    have hres : resT env.τ tm HF (Try.f117.results.toList) = some [W.agg x.enc] := by simp [Try.f117, t2, hb]
    rw [hres, optK_some]
    exact ⟨⟨x, rfl⟩, hto.leave hc _⟩
  have hcX := hc.app [some ⟨87, .wr, [[.b false, .b false, .i .i64 0, .i .i64 0, .i .i64 0, .i .i64 0, .i .i64 0, .i .i64 0, .i .i64 0, .i .i64 0, .b false]]⟩]
  have bzX : blkAt (H ++ [some ⟨87, .wr, [[.b false, .b false, .i .i64 0, .i .i64 0, .i .i64 0, .i .i64 0, .i .i64 0, .i .i64 0, .i .i64 0, .i .i64 0, .b false]]⟩]) H.length = some ⟨87, .wr, [[.b false, .b false, .i .i64 0, .i .i64 0, .i .i64 0, .i .i64 0, .i .i64 0, .i .i64 0, .i .i64 0, .i .i64 0, .b false]]⟩ := by simp
  have hlX : (H ++ [some ⟨87, .wr, [[.b false, .b false, .i .i64 0, .i .i64 0, .i .i64 0, .i .i64 0, .i .i64 0, .i .i64 0, .i .i64 0, .i .i64 0, .b false]]⟩] : Heap).length = H.length + 1 := by simp
  simp
  refine stpL_runs (l7DrawRight hcX) ?_
  rintro _ H1 ⟨⟨x, rfl⟩, hto1⟩
  have bz1 := hto1.1.blk bzX (by simp; omega)
  have dz1 := blkAt_len bz1
  have hcc1 := hto1.base
  have hl1 := hto1.len
  rw [hlX] at hl1
  simp [Port.enc]
  have hcM := hto1.2.app [some ⟨87, .wr, [[.b x.up, .b x.has, .i .i64 x.vec.root, .i .i64 x.vec.cost, .i .i64 x.vec.bridge, .i .i64 x.vec.port, .i .i64 x.hops, .i .i64 x.left, .i .i64 x.role, .i .i64 x.wait, .b x.opn]]⟩]
  refine stpL_runs (l1Below hcM 12) ?_
  rintro _ H2 ⟨⟨k, rfl, -⟩, hto2⟩
  have b3 : blkAt H2 H1.length = some ⟨87, .wr, [[.b x.up, .b x.has, .i .i64 x.vec.root, .i .i64 x.vec.cost, .i .i64 x.vec.bridge, .i .i64 x.vec.port, .i .i64 x.hops, .i .i64 x.left, .i .i64 x.role, .i .i64 x.wait, .b x.opn]]⟩ := hto2.1.blk (by simp) (by simp; omega)
  have bz2 := hto2.1.blk (blkAt_app bz1 _) (by simp; omega)
  have d3 := blkAt_len b3
  have dz2 := blkAt_len bz2
  have hcc2 := hcc1.next hto2.base
  have hne3 : ∀ (Y : Heap) (y : Option Blk), blkAt (List.set Y H1.length y) H.length = blkAt Y H.length := fun Y y => blkAt_set_ne (by omega)
  have hne4 : ∀ (Y : Heap) (y : Blk), H1.length < Y.length → blkAt (List.set Y H1.length (some y)) H1.length = some y := fun Y y h => blkAt_set h
  by_cases c0 : k = 0
  · simp [c0]
    simp [b3, d3, bz2, dz2, hne3, hne4]
    refine fin _ _ ⟨!x.up, x.has, x.vec, x.hops, x.left, x.role, x.wait, x.opn⟩ ?_ (blkAt_set (Nat.lt_of_lt_of_eq dz2 (List.length_set).symm)) ((hcc2.set (by omega) (by omega) _).set (by omega) (by omega) _)
    simp
  by_cases c1 : k = 1
  · simp [c1]
    refine stpL_runs (l6Draw hto2.2) ?_
    rintro _ H3 ⟨⟨y, rfl⟩, hto3⟩
    have b33 := hto3.1.blk b3 (by simp; omega)
    have bz3 := hto3.1.blk bz2 (by simp; omega)
    have d33 := blkAt_len b33
    have dz3 := blkAt_len bz3
    have hcc3 := hcc2.next hto3
    simp [b33, d33, bz3, dz3, hne3, hne4, Vec.enc]
    refine fin _ _ ⟨x.up, x.has, y, x.hops, x.left, x.role, x.wait, x.opn⟩ ?_ (blkAt_set (Nat.lt_of_lt_of_eq dz3 (List.length_set).symm)) ((hcc3.set (by omega) (by omega) _).set (by omega) (by omega) _)
    simp
  by_cases c2 : k = 2
  · simp [c2]
    have hcL := hto2.2.app [some ⟨3, .wr, [encI 0, encI 1, encI 3, encI 4]⟩]
    simp only [encI] at hcL
    refine stpL_runs (l1PickInt (xs := [0, 1, 3, 4]) hcL (Sl.of (by simp [encI])) (by simp) (by simp)) ?_
    rintro _ H3 ⟨⟨y, rfl, -⟩, hto3⟩
    have hto3 := hto3.base
    have b33 := hto3.1.blk b3 (by simp; omega)
    have bz3 := hto3.1.blk bz2 (by simp; omega)
    have d33 := blkAt_len b33
    have dz3 := blkAt_len bz3
    have hcc3 := hcc2.next hto3
    simp [b33, d33, bz3, dz3, hne3, hne4, Vec.enc]
    refine fin _ _ ⟨x.up, x.has, x.vec, x.hops, y, x.role, x.wait, x.opn⟩ ?_ (blkAt_set (Nat.lt_of_lt_of_eq dz3 (List.length_set).symm)) ((hcc3.set (by omega) (by omega) _).set (by omega) (by omega) _)
    simp
  by_cases c3 : k = 3
  · simp [c3]
    refine stpL_runs (l1Below hto2.2 6) ?_
    rintro _ H3 ⟨⟨y, rfl, -⟩, hto3⟩
    have b33 := hto3.1.blk b3 (by simp; omega)
    have bz3 := hto3.1.blk bz2 (by simp; omega)
    have d33 := blkAt_len b33
    have dz3 := blkAt_len bz3
    have hcc3 := hcc2.next hto3
    simp [b33, d33, bz3, dz3, hne3, hne4, Vec.enc]
    refine fin _ _ ⟨x.up, x.has, x.vec, x.hops, x.left, IntKind.i64.wrap (y - 1), x.wait, x.opn⟩ ?_ (blkAt_set (Nat.lt_of_lt_of_eq dz3 (List.length_set).symm)) ((hcc3.set (by omega) (by omega) _).set (by omega) (by omega) _)
    simp
  by_cases c4 : k = 4
  · simp [c4]
    simp [b3, d3, bz2, dz2, hne3, hne4]
    refine fin _ _ ⟨x.up, x.has, x.vec, x.hops, x.left, x.role, x.wait, !x.opn⟩ ?_ (blkAt_set (Nat.lt_of_lt_of_eq dz2 (List.length_set).symm)) ((hcc2.set (by omega) (by omega) _).set (by omega) (by omega) _)
    simp
  by_cases c5 : k = 5
  · simp [c5]
    have hcL := hto2.2.app [some ⟨3, .wr, [encI (-1), encI 4, encI 5]⟩]
    simp only [encI] at hcL
    refine stpL_runs (l1PickInt (xs := [(-1), 4, 5]) hcL (Sl.of (by simp [encI])) (by simp) (by simp)) ?_
    rintro _ H3 ⟨⟨y, rfl, -⟩, hto3⟩
    have hto3 := hto3.base
    have b33 := hto3.1.blk b3 (by simp; omega)
    have bz3 := hto3.1.blk bz2 (by simp; omega)
    have d33 := blkAt_len b33
    have dz3 := blkAt_len bz3
    have hcc3 := hcc2.next hto3
    simp [b33, d33, bz3, dz3, hne3, hne4, Vec.enc]
    refine fin _ _ ⟨x.up, x.has, x.vec, x.hops, x.left, x.role, y, x.opn⟩ ?_ (blkAt_set (Nat.lt_of_lt_of_eq dz3 (List.length_set).symm)) ((hcc3.set (by omega) (by omega) _).set (by omega) (by omega) _)
    simp
  simp [c0, c1, c2, c3, c4, c5, b3, d3, bz2, dz2]
  refine fin _ _ ⟨_, _, ⟨_, _, _, _⟩, _, _, _, _, _⟩ ?_ (blkAt_set dz2) (hcc2.set (by omega) (by omega) _)
  simp

theorem l8DrawIn {H : Heap} {c n : Nat} (hc : Cur H c n) : Runs env 112 [.ptr c 0 0] H fun v H' => (∃ x : In, v = .agg x.enc) ∧ CurTo H H' c n := by
  have hcl := hc.lt
  refine Runs.walk ok112 Try.func112 rfl (by simp [Try.f112]) fun Q hQ => ?_
  simp only [Try.f112, strip, stripL, stripI, stripG, chkT, tagsB, tagsL, tagD, addT, tagA, lookN, tagOp, elmT, ty22, ty24, ty25, ty33, ty54, ty58, ty95, ty122, Nat.reduceEqDiff, if_false, reduceIte, Option.getD_some, Option.getD_none, dstAt, dstOk, Nat.reduceLT, decide_true, if_true]
  have fin : ∀ (HF : Heap) (tm : Ab.T) (x : In), tm 2 = .ptr H.length 0 0 → blkAt HF H.length = some ⟨62, .wr, [x.enc]⟩ → CurTo H HF c n → Q .ret tm HF := by
    intro HF tm x t2 hb hto
    refine hQ _ _ _ (by simp) ?_
    have hres : resT env.τ tm HF (Try.f112.results.toList) = some [W.agg x.enc] := by simp [Try.f112, t2, hb]
    rw [hres, optK_some]
    exact ⟨⟨x, rfl⟩, hto.leave hc _⟩
  have hcX := hc.app [some ⟨62, .wr, [[.i .i64 0, .i .i64 0, .i .i64 0, .i .i64 0, .i .i64 0, .i .i64 0, .i .i64 0, .b false]]⟩]
  have bzX : blkAt (H ++ [some ⟨62, .wr, [[.i .i64 0, .i .i64 0, .i .i64 0, .i .i64 0, .i .i64 0, .i .i64 0, .i .i64 0, .b false]]⟩]) H.length = some ⟨62, .wr, [[.i .i64 0, .i .i64 0, .i .i64 0, .i .i64 0, .i .i64 0, .i .i64 0, .i .i64 0, .b false]]⟩ := by simp
  have hlX : (H ++ [some ⟨62, .wr, [[.i .i64 0, .i .i64 0, .i .i64 0, .i .i64 0, .i .i64 0, .i .i64 0, .i .i64 0, .b false]]⟩] : Heap).length = H.length + 1 := by simp
  simp
  refine stpL_runs (l1Below hcX 4) ?_
  rintro _ H1 ⟨⟨p, rfl, -⟩, hto1⟩
  have bz1 := hto1.1.blk bzX (by simp; omega)
  have hcc1 := hto1.base
  have hl1 := hto1.len
  rw [hlX] at hl1
  simp
  refine stpL_runs (l1Below hto1.2 4) ?_
  rintro _ H2 ⟨⟨k, rfl, -⟩, hto2⟩
  have bz2 := hto2.1.blk bz1 (by simp; omega)
  have dz2 := blkAt_len bz2
  have hcc2 := hcc1.next hto2
  by_cases c0 : k = 0
  · simp [c0, bz2, dz2]
    refine fin _ _ ⟨_, _, ⟨_, _, _, _⟩, _, _⟩ ?_ (blkAt_set dz2) (hcc2.set (by omega) (by omega) _)
    simp
  by_cases c1 : k = 1
  · simp [c1]
    refine stpL_runs (l1Once hto2.2 3) ?_
    rintro _ H3 ⟨⟨b, rfl⟩, hto3⟩
    have bz3 := hto3.1.blk bz2 (by simp; omega)
    have dz3 := blkAt_len bz3
    simp [bz3, dz3]
    refine fin _ _ ⟨_, _, ⟨_, _, _, _⟩, _, _⟩ ?_ (blkAt_set dz3) ((hcc2.next hto3).set (by omega) (by omega) _)
    simp
  simp [c0, c1]
  refine stpL_runs (l6DrawRight hto2.2) ?_
  rintro _ H3 ⟨⟨v, rfl⟩, hto3⟩
  have bz3 := hto3.1.blk bz2 (by simp; omega)
  simp
  refine stpL_runs (l1Below hto3.2 4) ?_
  rintro _ H4 ⟨⟨h, rfl, -⟩, hto4⟩
  have bz4 := hto4.1.blk bz3 (by simp; omega)
  have dz4 := blkAt_len bz4
  simp [bz4, dz4, Vec.enc]
  refine fin _ _ ⟨_, _, ⟨_, _, _, _⟩, _, _⟩ ?_ (blkAt_set dz4) (((hcc2.next hto3).next hto4).set (by omega) (by omega) _)
  simp

theorem l1New {H : Heap} {a : Option (Nat × Nat)} {bs : List Int} (hs : Sl H 5 a (bs.map encU)) (hn : bs.length ≤ 1048576) : Runs env 50 [.w (.lf (.sl a bs.length))] H fun v H' => ∃ c, v = .ptr c 0 0 ∧ Cur H' c bs.length ∧ H.length ≤ c ∧ Keep [] H H' := by
  have hw : IntKind.i64.wrap (27397 + (bs.length : Int)) = 27397 + (bs.length : Int) := wrap64 (by omega) (by omega)
  refine Runs.walk ok50 Try.func50 rfl (by simp [Try.f50]) fun Q hQ => ?_
  simp only [Try.f50, strip, stripL, stripI, stripG, chkT, tagsB, tagsL, tagD, addT, tagA, lookN, tagOp, elmT, ty22, ty24, ty25, ty33, ty54, ty58, ty95, ty122, Nat.reduceEqDiff, if_false, reduceIte, Option.getD_some, Option.getD_none, dstAt, dstOk, Nat.reduceLT, decide_true, if_true]
  have fin : ∀ (tm : Ab.T) (h : Int), tm 2 = .ptr H.length 0 0 → Q .ret tm (H ++ [some ⟨105, .wr, [[.sl a bs.length, .i .i64 0, .i .i64 h]]⟩]) := by
    intro tm h t2
    refine hQ _ _ _ (by simp) ?_
    simp [Try.f50, t2, leave, refFree]
    refine ⟨⟨a, 0, h, bs, by simp, by omega, by omega, rfl, hn, fun id r he hb => ?_, hs.app _⟩, Keep.app _ _ _⟩
    subst he
    exact hs.len (by simpa using hb)
  simp [builtinV, pureB, lenV, hw]
  refine wpS_loop (fun j tm H' => ∃ (i : Nat) (h : Int), i + j = bs.length ∧ tm 0 = .w (.lf (.sl a bs.length)) ∧ tm 3 = .int h ∧ tm 4 = .int i ∧ H' = H) bs.length (by rw [env_K]; omega) ⟨0, 27397 + bs.length, by simp, by simp, by simp, by simp, rfl⟩ ?_
  rintro j tm H1 hj ⟨i, h, hij, t0, t3, t4, rfl⟩ Q2 hn2 he2 hr2
  simp [t0, t3, t4, builtinV, pureB, lenV]
  have out : ∀ tm : Ab.T, tm 0 = .w (.lf (.sl a bs.length)) → tm 3 = .int h → Q2 (.exit 0) tm H1 := by
    intro tm s0 s3
    refine he2 _ _ _ ?_
    simp [s0, s3]
    refine fin _ h ?_
    simp
  by_cases hc1 : (i : Int) < bs.length
  · have hk : i < bs.length := by omega
    by_cases hc2 : (i : Int) < 4000
    · obtain ⟨id3, r3, bl3, rfl, hb3, hbe3, hrow3⟩ := hs i _ (by rw [List.getElem?_map, List.getElem?_eq_getElem hk]; rfl)
      have hid3 := blkAt_len hb3
      have hw2 : IntKind.i64.wrap ((i : Int) + 1) = (i : Int) + 1 := wrap64 (by omega) (by omega)
      have hc2' : i < 4000 := by omega
      simp [hc1, hk, hc2, hc2', t0, t3, t4, hb3, hid3, hbe3, hrow3, indexAddrV, elemIs, encU, binV, binInt, cmpI, arI, IntKind.bits, convV, hw2]
      refine hn2 (j - 1) _ _ (by omega) ⟨i + 1, _, by omega, by simp [t0], by simp; rfl, by simp, rfl⟩
    · have hc2' : ¬ i < 4000 := by omega
      simp [hc1, hk, hc2, hc2', t0, t3, t4]
      exact out _ (by simp [t0]) (by simp [t3])
  · have hk : ¬ i < bs.length := by omega
    simp [hc1, hk, t0, t3, t4]
    exact out _ (by simp [t0]) (by simp [t3])

def BrSt (H H' : Heap) (c n K m : Nat) : Prop := ∃ (l : List Lf) (b : Bridge) (fp : List Nat), blkAt H' K = some ⟨56, .wr, [l]⟩ ∧ IsBridge H' l b fp ∧ (∀ k ∈ fp, H.length + 1 ≤ k ∧ k ≠ K) ∧ b.ports.length = m ∧ CurTo H H' c n ∧ blkAt H' H.length = some ⟨56, .wr, [[.i .i64 0, .sl none 0]]⟩
theorem BrSt.next {H H1 H2 : Heap} {c n K m : Nat} (h : BrSt H H1 c n K m) (h2 : CurTo H1 H2 c n) (hc : c < H.length) (hK : H.length < K) : BrSt H H2 c n K m := by
  obtain ⟨l, b, fp, h3, h4, h5, h6, h7, h8⟩ := h
  exact ⟨l, b, fp, h2.1.blk h3 (by simp; omega), h4.keep h2.1 (fun k hk hk2 => by have := h5 k hk; simp at hk2; omega), h5, h6, h7.next h2, h2.1.blk h8 (by simp; omega)⟩
theorem l8DrawRight {H : Heap} {c n : Nat} (hc : Cur H c n) : Runs env 116 [.ptr c 0 0] H fun v H' => (∃ (l : List Lf) (b : Bridge) (fp : List Nat), v = .agg l ∧ IsBridge H' l b fp ∧ 1 ≤ b.ports.length ∧ b.ports.length ≤ 4 ∧ ∀ i ∈ fp, H.length ≤ i) ∧ CurTo H H' c n := by
  have hcl := hc.lt
  refine Runs.walk ok116 Try.func116 rfl (by simp [Try.f116]) fun Q hQ => ?_
  simp only [Try.f116, strip, stripL, stripI, stripG, chkT, tagsB, tagsL, tagD, addT, tagA, lookN, tagOp, elmT, ty22, ty24, ty25, ty33, ty54, ty58, ty95, ty122, Nat.reduceEqDiff, if_false, reduceIte, Option.getD_some, Option.getD_none, dstAt, dstOk, Nat.reduceLT, decide_true, if_true]
  have hcX := hc.app [some ⟨56, .wr, [[.i .i64 0, .sl none 0]]⟩]
  have bzX : blkAt (H ++ [some ⟨56, .wr, [[.i .i64 0, .sl none 0]]⟩]) H.length = some ⟨56, .wr, [[.i .i64 0, .sl none 0]]⟩ := by simp
  have hlX : (H ++ [some ⟨56, .wr, [[.i .i64 0, .sl none 0]]⟩] : Heap).length = H.length + 1 := by simp
  simp
  refine stpL_runs (l1Below hcX 6) ?_
  rintro _ H1 ⟨⟨x, rfl, hx0, hx1, -⟩, hto1⟩
  simp
  refine stpL_runs (l1Below hto1.2 4) ?_
  rintro _ H2 ⟨⟨y, rfl, hy0, hy1, -⟩, hto2⟩
  have hto := hto1.next hto2
  have bz2 := hto.1.blk bzX (by simp; omega)
  have hl2 := hto.len
  rw [hlX] at hl2
  have hcc2 := hto.base
  have w1 : IntKind.i64.wrap (1 + x) = 1 + x := wrap64 (by omega) (by omega)
  have w2 : IntKind.i64.wrap (1 + y) = 1 + y := wrap64 (by omega) (by omega)
  simp [w1, w2]
  refine stpL_runs (specBridgeNew _ _ _) ?_
  rintro _ _ ⟨l, fp, rfl, ob, ⟨⟨G3, rfl⟩, hfp⟩⟩
  have hbn := bridgeNew_yes (show (bridgeNew (1 + x) (1 + y)).2 = true by unfold bridgeNew; rw [if_pos (by simp; omega)])
  have hL := ob.len
  have hT : l.take l.length = l := List.take_length
  rw [hL] at hT
  have hltb := ob.lt
  obtain ⟨m, hm⟩ : ∃ m : Nat, m = (1 + y).toNat := ⟨_, rfl⟩
  have hm4 : 1 ≤ m ∧ m ≤ 4 := by omega
  simp [hL, hT]
  obtain ⟨K, hK⟩ : ∃ K, K = H2.length + G3.length := ⟨_, rfl⟩
  have hKl : H.length < K := by omega
  have st0 : BrSt H (H2 ++ (G3 ++ [some ⟨56, .wr, [l]⟩])) c n K m := by
    have ob' := ob.app [some ⟨56, .wr, [l]⟩]
    rw [List.append_assoc] at ob'
    refine ⟨l, _, fp, by rw [hK]; simp, ob', fun k hk => ?_, by rw [hbn.2.2]; simp [hm], hcc2.app _, blkAt_app bz2 _⟩
    have a1 := hfp k hk
    have a2 := hltb k hk
    simp only [List.length_append] at a2
    omega
  rw [← hK]
  obtain ⟨H3, hH3⟩ : ∃ H3 : Heap, H3 = H2 ++ (G3 ++ [some ⟨56, .wr, [l]⟩]) := ⟨_, rfl⟩
  rw [← hH3] at st0 ⊢
  clear hH3 hK ob hfp hltb hL hT
  have ret : ∀ (HF : Heap) (tm : Ab.T), tm 2 = .ptr H.length 0 0 → (∃ (l : List Lf) (b : Bridge) (fp : List Nat), blkAt HF H.length = some ⟨56, .wr, [l]⟩ ∧ IsBridge HF l b fp ∧ (∀ k ∈ fp, H.length ≤ k) ∧ b.ports.length = m ∧ CurTo H HF c n) → Q .ret tm HF := by
    rintro HF tm t2 ⟨l, b, fp, h1, h2, h3, h4, h5⟩
    have hL := h2.len
    have hT : l.take l.length = l := List.take_length
    rw [hL] at hT
    refine hQ _ _ _ (by simp) ?_
    have hres : resT env.τ tm HF (Try.f116.results.toList) = some [W.agg l] := by simp [Try.f116, t2, h1, hL, hT]
    rw [hres, optK_some]
    refine ⟨?_, h5.leave hc _⟩
    rcases leave_opt H HF [W.agg l] with e | ⟨e, hr⟩ <;> rw [e]
    · exact ⟨l, b, fp, rfl, h2, by omega, by omega, h3⟩
    · exact ⟨l, b, [], rfl, h2.free (by simpa using hr) H, by omega, by omega, by simp⟩
  -- a reaction
  have act : ∀ (HA : Heap) (l : List Lf) (b : Bridge) (fp : List Nat) (x : In), blkAt HA K = some ⟨56, .wr, [l]⟩ → IsBridge HA l b fp → (∀ k ∈ fp, H.length + 1 ≤ k ∧ k ≠ K) → b.ports.length = m → CurTo H HA c n → blkAt HA H.length = some ⟨56, .wr, [[.i .i64 0, .sl none 0]]⟩ → l.length = 2 →
      Runs env 65 [.agg l, .agg x.enc] HA fun v H' => ∃ l' q G, v = .tup [.agg l', .lf q] ∧ l'.length = 2 ∧ l'.take 2 = l' ∧ H' = HA ++ G ∧ BrSt H (H'.set K (some ⟨56, .wr, [l']⟩)) c n K m := by
    intro HA l b fp x h1 h2 h3 h4 h5 h6 h7
    refine (specReact h2.rd (by unfold Bridge.sz; omega) x).mono ?_
    rintro _ _ ⟨l', f1, q, f2, rfl, o1, o2, ⟨⟨G, rfl⟩, hf⟩, hd⟩
    have hl' := o1.len
    refine ⟨l', q, G, rfl, hl', by rw [← hl']; exact List.take_length, rfl, l', _, f1, blkAt_set (by have := blkAt_len h1; simp; omega), o1.keep (Keep.set _ _) (fun k hk hk2 => ?_), fun k hk => ?_, by rw [reactB_len]; exact h4, (h5.app G).set (by omega) (by omega) _, by rw [blkAt_set_ne (by omega)]; exact blkAt_app h6 G⟩
    · have := hf k (by simp [hk]); have := blkAt_len h1; simp at hk2; omega
    · have := hf k (by simp [hk]); have := blkAt_len h1; have := h5.len; omega
  refine wpS_loop (fun j tm H' => ∃ i : Nat, i + j = m ∧ tm 0 = .ptr c 0 0 ∧ tm 2 = .ptr H.length 0 0 ∧ tm 3 = .ptr K 0 0 ∧ tm 5 = .int i ∧ BrSt H H' c n K m) m (by rw [env_K]; omega) ⟨0, by simp, by simp, by simp, by simp, by simp, st0⟩ ?_
  rintro j tm H4 hj ⟨i, hij, t0, t2, t3, t5, st⟩ Q2 hn2 he2 hr2
  obtain ⟨l4, b4, fp4, k4, o4, hf4, hm4', hto4, bz4⟩ := st
  have d4 := blkAt_len k4
  have hL4 := o4.len
  have hT4 : l4.take l4.length = l4 := List.take_length
  rw [hL4] at hT4
  have hD4 : l4.drop 2 = [] := by rw [← hL4]; exact List.drop_length
  have hq : ∃ a4, l4 = [.i .i64 b4.id, .sl a4 m] := by
    obtain ⟨a4, rfl, -⟩ := o4
    exact ⟨a4, by simp [Bridge.enc, hm4']⟩
  obtain ⟨a4, hq4⟩ := hq
  have hd1 : List.take 1 l4.tail = [.sl a4 m] := by rw [hq4]; rfl
  simp [t0, t2, t3, t5, k4, d4, hL4, hd1, builtinV, pureB, lenV]
  have hw : IntKind.i64.wrap ((i : Int) + 1) = (i : Int) + 1 := wrap64 (by omega) (by omega)
  refine selS_intro (fun hc1 => ?_) (fun hc1 => ?_)
  · simp at hc1
    simp [t0]
    refine stpL_runs (l1Once hto4.2 4) ?_
    rintro _ H5 ⟨⟨b, rfl⟩, hto5⟩
    have st5 : BrSt H H5 c n K m := BrSt.next ⟨l4, b4, fp4, k4, o4, hf4, hm4', hto4, bz4⟩ hto5 hcl hKl
    cases b
    rotate_left
    · simp [t0, t2, t3, t5, hw]
      exact hn2 (j - 1) _ _ (by omega) ⟨i + 1, by omega, by simp [t0], by simp [t2], by simp [t3], by simp, st5⟩
    obtain ⟨l5, b5, fp5, k5, o5, hf5, hm5, hto5', bz5⟩ := st5
    have d5 := blkAt_len k5
    have hL5 := o5.len
    have hT5 : l5.take l5.length = l5 := List.take_length
    rw [hL5] at hT5
    have hD5 : l5.drop 2 = [] := by rw [← hL5]; exact List.drop_length
    have ha := act H5 l5 b5 fp5 ⟨3, i, ⟨0, 0, 0, 0⟩, 0, true⟩ k5 o5 hf5 hm5 hto5' bz5 hL5
    simp only [In.enc] at ha
    simp [t0, t2, t3, t5, k5, d5, hL5, hT5]
    refine stpL_runs ha ?_
    rintro _ _ ⟨l6, q6, G6, rfl, hL6, hT6, rfl, st6⟩
    have k6 := blkAt_app k5 G6
    have d6 : K < H5.length + G6.length := by omega
    simp [t3, k6, d6, hL5, hD5, hL6, hT6, t5, hw]
    exact hn2 (j - 1) _ _ (by omega) ⟨i + 1, by omega, by simp [t0], by simp [t2], by simp [t3], by simp, st6⟩
  · simp at hc1
    simp
    refine he2 _ _ _ ?_
    have stA : BrSt H H4 c n K m := ⟨l4, b4, fp4, k4, o4, hf4, hm4', hto4, bz4⟩
    simp [t0, t2, t3]
    refine wpS_loop (fun j tm H' => ∃ i : Nat, i + j = 9 ∧ tm 0 = .ptr c 0 0 ∧ tm 2 = .ptr H.length 0 0 ∧ tm 3 = .ptr K 0 0 ∧ tm 6 = .int i ∧ BrSt H H' c n K m) 9 (by rw [env_K]; omega) ⟨0, by simp, by simp [t0], by simp [t2], by simp [t3], by simp, stA⟩ ?_
    clear hn2 he2 hr2
    rintro j tm H4 hj ⟨i, hij, t0, t2, t3, t6, st⟩ Q2 hn2 he2 hr2
    simp [t0, t6]
    refine stpL_runs (l1Below (by obtain ⟨_, _, _, _, _, _, _, hh, _⟩ := st; exact hh.2) 10) ?_
    rintro _ H5 ⟨⟨w, rfl, hw0, hw1, -⟩, hto5⟩
    have hw9 := hw1 (by omega)
    have st5 := st.next hto5 hcl hKl
    obtain ⟨l5, b5, fp5, k5, o5, hf5, hm5, hto5', bz5⟩ := st5
    have d5 := blkAt_len k5
    have hL5 := o5.len
    have hT5 : l5.take l5.length = l5 := List.take_length
    rw [hL5] at hT5
    simp [t0, t6]
    refine selS_intro (fun hc2 => ?_) (fun hc2 => ?_)
    · simp at hc2
      have hwi : IntKind.i64.wrap ((i : Int) + 1) = (i : Int) + 1 := wrap64 (by omega) (by omega)
      simp [t0, t3, k5, d5, hL5, hT5]
      refine stpL_cur (l8DrawIn hto5'.2) hto5'.2 (fun v H' h => h.2) ?_
      rintro _ H6 ⟨⟨x6, rfl⟩, hto6⟩
      have st6 : BrSt H H6 c n K m := BrSt.next ⟨l5, b5, fp5, k5, o5, hf5, hm5, hto5', bz5⟩ hto6 hcl hKl
      have k6 := hto6.1.blk k5 (by simp; omega)
      have o6 := o5.keep hto6.1 (fun k hk hk2 => by have := hf5 k hk; simp at hk2; omega)
      have bz6 := hto6.1.blk bz5 (by simp; omega)
      have d6 := blkAt_len k6
      have hD5 : l5.drop 2 = [] := by rw [← hL5]; exact List.drop_length
      simp
      refine stpL_runs_f (act H6 l5 b5 fp5 x6 k6 o6 hf5 hm5 (hto5'.next hto6) bz6 hL5) (by rintro _ _ ⟨_, _, G, _, _, _, rfl, _⟩; exact ⟨G, rfl⟩) ?_
      rintro _ _ ⟨l7, q7, G7, rfl, hL7, hT7, rfl, st7⟩
      have k7 := blkAt_app k6 G7
      have d7 : K < H6.length + G7.length := by omega
      simp [t3, k7, d7, hL5, hD5, hL7, hT7, t6, hwi]
      exact hn2 (j - 1) _ _ (by omega) ⟨i + 1, by omega, by simp [t0], by simp [t2], by simp [t3], by simp, st7⟩
    · simp at hc2
      simp
      refine he2 _ _ _ ?_
      have dz5 := blkAt_len bz5
      simp [t2, t3, k5, d5, hL5, hT5, bz5, dz5]
      refine ret _ _ (by simp [t2]) ⟨l5, b5, fp5, blkAt_set dz5, o5.keep (Keep.set _ _) (fun k hk hk2 => by have := hf5 k hk; simp at hk2; omega), fun k hk => by have := hf5 k hk; omega, hm5, hto5'.set (by omega) (by omega) _⟩

theorem l8Draw {H : Heap} {c n : Nat} (hc : Cur H c n) : Runs env 93 [.ptr c 0 0] H fun v H' => (∃ (l : List Lf) (b : Bridge) (fp : List Nat), v = .agg l ∧ IsBridge H' l b fp ∧ 1 ≤ b.ports.length ∧ b.ports.length ≤ 6 ∧ ∀ i ∈ fp, H.length ≤ i) ∧ CurTo H H' c n := by
  have hcl := hc.lt
  refine Runs.walk ok93 Try.func93 rfl (by simp [Try.f93]) fun Q hQ => ?_
  simp only [Try.f93, strip, stripL, stripI, stripG, chkT, tagsB, tagsL, tagD, addT, tagA, lookN, tagOp, elmT, ty22, ty24, ty25, ty33, ty54, ty58, ty95, ty122, Nat.reduceEqDiff, if_false, reduceIte, Option.getD_some, Option.getD_none, dstAt, dstOk, Nat.reduceLT, decide_true, if_true]
  have hcX := hc.app [some ⟨56, .wr, [[.i .i64 0, .sl none 0]]⟩]
  have bzX : blkAt (H ++ [some ⟨56, .wr, [[.i .i64 0, .sl none 0]]⟩]) H.length = some ⟨56, .wr, [[.i .i64 0, .sl none 0]]⟩ := by simp
  have hlX : (H ++ [some ⟨56, .wr, [[.i .i64 0, .sl none 0]]⟩] : Heap).length = H.length + 1 := by simp
  have fin : ∀ (HF : Heap) (tm : Ab.T) (l : List Lf) (b : Bridge) (fp : List Nat), tm 2 = .ptr H.length 0 0 → H.length < HF.length → IsBridge HF l b fp → (∀ k ∈ fp, H.length < k) → 1 ≤ b.ports.length → b.ports.length ≤ 6 → CurTo H HF c n → Q .ret tm (HF.set H.length (some ⟨56, .wr, [l]⟩)) := by
    intro HF tm l b fp t2 hlt h2 h3 h4 h4' h5
    have hL := h2.len
    have hT : l.take l.length = l := List.take_length
    rw [hL] at hT
    refine hQ _ _ _ (by simp) ?_
    have hb : blkAt (HF.set H.length (some ⟨56, .wr, [l]⟩)) H.length = some ⟨56, .wr, [l]⟩ := blkAt_set hlt
    have hres : resT env.τ tm (HF.set H.length (some ⟨56, .wr, [l]⟩)) (Try.f93.results.toList) = some [W.agg l] := by simp [Try.f93, t2, hb, hL, hT]
    rw [hres, optK_some]
    refine ⟨?_, (h5.set (Nat.le_refl _) hcl _).leave hc _⟩
    have h2' := h2.keep (Keep.set (id := H.length) HF (some ⟨56, .wr, [l]⟩)) (fun k hk hk2 => by have := h3 k hk; simp at hk2; omega)
    rcases leave_opt H (HF.set H.length (some ⟨56, .wr, [l]⟩)) [W.agg l] with e | ⟨e, hr⟩ <;> rw [e]
    · exact ⟨l, b, fp, rfl, h2', h4, h4', fun k hk => by have := h3 k hk; omega⟩
    · exact ⟨l, b, [], rfl, h2'.free (by simpa using hr) H, h4, h4', by simp⟩
  simp
  refine stpL_runs (l8DrawRight hcX) ?_
  rintro _ H1 ⟨⟨l, b, fp, rfl, ob, hp1, hp4, hfp⟩, hto1⟩
  have bz1 := hto1.1.blk bzX (by simp; omega)
  have hcc1 := hto1.base
  have hl1 := hto1.len
  rw [hlX] at hl1
  rw [hlX] at hfp
  have hlt := ob.lt
  have hL := ob.len
  have hT : l.take l.length = l := List.take_length
  rw [hL] at hT
  have hD : l.drop 2 = [] := by rw [← hL]; exact List.drop_length
  obtain ⟨a, rfl, ow⟩ := ob
  simp [Bridge.enc]
  have hcM := hto1.2.app [some ⟨56, .wr, [[.i .i64 b.id, .sl a b.ports.length]]⟩]
  refine stpL_runs (l1Below hcM 8) ?_
  rintro _ H2 ⟨⟨k, rfl, -⟩, hto2⟩
  have b3 : blkAt H2 H1.length = some ⟨56, .wr, [[.i .i64 b.id, .sl a b.ports.length]]⟩ := hto2.1.blk (by simp) (by simp; omega)
  have bz2 := hto2.1.blk (blkAt_app bz1 _) (by simp; omega)
  have ow2 : Own H2 87 a (b.ports.map Port.enc) fp := (ow.app _).keep hto2.1 (fun k hk hk2 => by have := hfp k hk; simp at hk2; omega)
  have d3 := blkAt_len b3
  have dz2 := blkAt_len bz2
  have hcc2 := hcc1.next hto2.base
  have hne3 : ∀ (Y : Heap) (y : Option Blk), blkAt (List.set Y H1.length y) H.length = blkAt Y H.length := fun Y y => blkAt_set_ne (by omega)
  have hne4 : ∀ (Y : Heap) (y : Blk), H1.length < Y.length → blkAt (List.set Y H1.length (some y)) H1.length = some y := fun Y y h => blkAt_set h
  have hfl : ∀ k ∈ fp, H.length < k ∧ k < H1.length := fun k hk => by have := hfp k hk; have := hlt k hk; omega
  by_cases c0 : k = 0
  · simp [c0]
    have hcL := hto2.2.app [some ⟨3, .wr, [encI 0, encI 9, encI 10]⟩]
    simp only [encI] at hcL
    refine stpL_runs (l1PickInt (xs := [0, 9, 10]) hcL (Sl.of (by simp [encI])) (by simp) (by simp)) ?_
    rintro _ H3 ⟨⟨y, rfl, -⟩, hto3⟩
    have hto3 := hto3.base
    have b33 := hto3.1.blk b3 (by simp; omega)
    have bz3 := hto3.1.blk bz2 (by simp; omega)
    have d33 := blkAt_len b33
    have dz3 := blkAt_len bz3
    have ow3 := ow2.keep hto3.1 (fun k hk hk2 => by have := hfl k hk; simp at hk2; omega)
    have hcc3 := hcc2.next hto3
    simp [b33, d33, bz3, dz3, hne3, hne4]
    refine fin _ _ _ ⟨y, b.ports⟩ fp ?_ (by simpa using dz3) ⟨a, rfl, ow3.keep (Keep.set _ _) (fun k hk hk2 => by have := hfl k hk; simp at hk2; omega)⟩ (fun k hk => (hfl k hk).1) hp1 (by simp only; omega) (hcc3.set (by omega) (by omega) _)
    simp
  by_cases c1 : k = 1
  · simp [c1, b3, d3]
    refine stpL_cur (l7Draw hto2.2) hto2.2 (fun v H' h => h.2) ?_
    rintro _ H3 ⟨⟨y, rfl⟩, hto3⟩
    have b33 := hto3.1.blk b3 (by simp; omega)
    have bz3 := hto3.1.blk bz2 (by simp; omega)
    have d33 := blkAt_len b33
    have dz3 := blkAt_len bz3
    have ow3 := ow2.keep hto3.1 (fun k hk hk2 => by have := hfl k hk; simp at hk2; omega)
    have hcc3 := hcc2.next hto3
    obtain ⟨id, bl, rfl, rfl, hb, hbe, hbm, hpre⟩ := ow3.blk (by intro h; have := congrArg List.length h; simp at this; rw [this] at hp1; simp at hp1)
    have hidl := blkAt_len hb
    have hidf := hfl id (by simp)
    obtain ⟨tl, htl⟩ := hpre
    have hrow : bl.rows[0]? = some b.ports[0].enc := by rw [← htl, List.getElem?_append_left (by simp; omega), List.getElem?_map, List.getElem?_eq_getElem (by omega)]; rfl
    have hrl : 0 < bl.rows.length := (List.getElem?_eq_some_iff.1 hrow).1
    have hpI : (0 : Int) < b.ports.length := by omega
    have hp0 : 0 < b.ports.length := by omega
    have hsI : ∀ (y : Option Blk), blkAt (List.set H3 id y) H1.length = blkAt H3 H1.length := fun y => blkAt_set_ne (by omega)
    have hsH : ∀ (y : Option Blk), blkAt (List.set H3 id y) H.length = blkAt H3 H.length := fun y => blkAt_set_ne (by omega)
    simp [indexAddrV, elemIs, hb, hidl, hbe, hbm, hpI, hp0, hrow]
    simp only [Port.enc] at hrow
    simp [hrow, hbm, hsI, hsH, b33, d33, bz3, dz3, Port.enc]
    have os := ow3.set (row := y.enc) hb (i := 0) (by simp; omega)
    rw [hbe, hbm] at os
    refine fin _ _ _ ⟨b.id, b.ports.set 0 y⟩ [id] ?_ (by simpa using dz3) ⟨some (id, 0), by simp [Bridge.enc], by rw [List.map_set]; exact os⟩ (fun k hk => by simp at hk; omega) (by simpa using hp1) (by simp; omega) (hcc3.set (by omega) (by omega) _)
    simp
  by_cases c2 : k = 2
  · simp [c2, b3, d3]
    refine stpL_append (e := 87) (rows := b.ports.map Port.enc) (ys := [Port.z, Port.z]) (ow2.app _) (Sl.of (by simp [Port.z])) rfl rfl rfl (by simp) (by simp; omega) (by simp) rfl fun a'' H'' fp'' ho'' hk'' hf'' => ?_
    have k1 := hk''.base
    have b33 := k1.blk b3 (fun h => by have := hfl _ h; omega)
    have bz3 := k1.blk bz2 (fun h => by have := hfl _ h; omega)
    have d33 := blkAt_len b33
    have dz3 := blkAt_len bz3
    have hcc3 := hcc2.own k1 (fun i hi => by have := hfl i hi; omega) hcl
    have hf9 : ∀ k ∈ fp'', H.length < k ∧ k ≠ H1.length := fun k hk => by
      rcases hf'' k hk with h | h
      · have := hfl k h; omega
      · simp at h; omega
    simp [b33, d33, bz3, dz3, hne3, hne4]
    refine fin _ _ _ ⟨b.id, b.ports ++ [Port.zv, Port.zv]⟩ fp'' ?_ (by simpa using dz3) ⟨a'', by simp [Bridge.enc], by rw [List.map_append]; exact ho''.keep (Keep.set _ _) (fun k hk hk2 => by have := hf9 k hk; simp at hk2; omega)⟩ (fun k hk => (hf9 k hk).1) (by simp) (by simp; omega) (hcc3.set (by omega) (by omega) _)
    simp
  · simp [c0, c1, c2, b3, d3, bz2, dz2]
    refine fin _ _ _ b fp ?_ dz2 ⟨a, rfl, ow2⟩ (fun k hk => (hfl k hk).1) hp1 (by omega) hcc2
    simp

theorem l10DrawIds {H : Heap} {c n : Nat} (hc : Cur H c n) : Runs env 54 [.ptr c 0 0] H fun v H' => (∃ (q : Lf) (xs : List Int) (fp : List Nat), v = .w (.lf q) ∧ IsIntS H' q xs fp ∧ xs.Nodup ∧ (∀ x ∈ xs, 1 ≤ x ∧ x ≤ 9) ∧ 1 ≤ xs.length ∧ xs.length ≤ 4 ∧ ∀ i ∈ fp, H.length ≤ i) ∧ CurTo H H' c n := by
  have hcl := hc.lt
  refine Runs.walk ok54 Try.func54 rfl (by simp [Try.f54]) fun Q hQ => ?_
  simp only [Try.f54, strip, stripL, stripI, stripG, chkT, tagsB, tagsL, tagD, addT, tagA, lookN, tagOp, elmT, ty22, ty24, ty25, ty33, ty54, ty58, ty95, ty122, Nat.reduceEqDiff, if_false, reduceIte, Option.getD_some, Option.getD_none, dstAt, dstOk, Nat.reduceLT, decide_true, if_true]
  obtain ⟨Y, hY⟩ : ∃ Y : Heap, Y = H ++ [some ⟨3, .wr, []⟩] := ⟨_, rfl⟩
  have bD : blkAt Y H.length = some ⟨3, .wr, []⟩ := by rw [hY]; simp
  have hcY : CurTo H Y c n := by rw [hY]; exact (CurTo.refl hc).app _
  have oD : Own Y 3 (some (H.length, 0)) [] [H.length] := Own.of bD
  simp
  rw [← hY]
  clear hY
  refine wpS_loop (fun j tm A => ∃ (i : Nat) (aa : Option (Nat × Nat)) (ds : List Int) (fd : List Nat), i + j = 4 ∧ ds.length ≤ i ∧ (0 < i → 1 ≤ ds.length) ∧ ds.Nodup ∧ (∀ x ∈ ds, 1 ≤ x ∧ x ≤ 9) ∧ tm 0 = .ptr c 0 0 ∧ tm 3 = .w (.lf (.sl aa ds.length)) ∧ tm 4 = .int i ∧ CurTo H A c n ∧ Own A 3 aa (ds.map encI) fd ∧ ∀ k ∈ fd, H.length ≤ k) 4 (by rw [env_K]; omega) ⟨0, some (H.length, 0), [], [H.length], by simp, by simp, by simp, by simp, by simp, by simp, by simp, by simp, hcY, oD, by simp⟩ ?_
  rintro j tm A hj ⟨i, aa, ds, fd, hij, hdl, hd1, hdn, hdr, t0, t3, t4, hcA, oq, hfd⟩ Q2 hn2 he2 hr2
  simp [t0, t4]
  refine stpL_runs (l1Below hcA.2 4) ?_
  rintro _ B ⟨⟨u, rfl, hu0, hu1, -⟩, htoB⟩
  have hu := hu1 (by omega)
  have hcB := hcA.next htoB
  have hne : ∀ (m : Nat), H.length ≤ m → m ∉ [c] := fun m hm h => by simp at h; omega
  have oqB := oq.keep htoB.1 (fun k hk => hne k (hfd k hk))
  have w0 : IntKind.i64.wrap (1 + u) = 1 + u := wrap64 (by omega) (by omega)
  have hw : IntKind.i64.wrap ((i : Int) + 1) = (i : Int) + 1 := wrap64 (by omega) (by omega)
  simp [t0, t3, t4, w0]
  refine selS_intro (fun hc2 => ?_) (fun hc2 => ?_)
  · simp at hc2
    simp [t0, t3, t4]
    refine stpL_runs (l1Below htoB.2 9) ?_
    rintro _ D ⟨⟨d, rfl, hdd0, hdd1, -⟩, htoD⟩
    have hdd := hdd1 (by omega)
    have hcD := hcB.next htoD
    have oqD := oqB.keep htoD.1 (fun k hk => hne k (hfd k hk))
    have hlD := hcD.len
    have w2 : IntKind.i64.wrap (1 + d) = 1 + d := wrap64 (by omega) (by omega)
    have e4 := l4Has oqD.sl (by omega) (1 + d)
    simp [t0, t3, t4, w2, e4]
    by_cases hm : (1 + d) ∈ ds
    · have h1 : 1 ≤ ds.length := by cases ds with
        | nil => simp at hm
        | cons y ys => simp
      simp [hm, t0, t3, t4, hw]
      refine hn2 (j - 1) _ _ (by omega) ⟨i + 1, aa, ds, fd, by omega, by omega, fun _ => h1, hdn, hdr, by simp [t0], by simp [t3], by simp, hcD, oqD, hfd⟩
    · simp [hm, t3]
      refine stpL_append (e := 3) (rows := ds.map encI) (ys := [encI (1 + d)]) (oqD.app _) (Sl.of (by simp [encI])) rfl rfl rfl (by simp) (by simp; omega) (by simp) rfl fun a2 E fc hoE hkE hfE => ?_
      have kE : Keep fd D E := hkE.base
      simp [t0, t4, hw]
      refine hn2 (j - 1) _ _ (by omega) ⟨i + 1, a2, ds ++ [1 + d], fc, by omega, by simp; omega, by simp, ?_, ?_, by simp [t0], by simp, by simp, ?_, by simpa using hoE, ?_⟩
      · rw [List.nodup_append]; refine ⟨hdn, by simp, ?_⟩
        intro y hy z hz he
        simp at hz
        subst hz
        subst he
        exact hm hy
      · intro y hy
        rcases List.mem_append.1 hy with h | h
        · exact hdr y h
        · simp at h; omega
      · exact hcD.own kE (fun k hk => hfd k hk) hcl
      · intro k hk
        rcases hfE k hk with h | h
        · exact hfd k h
        · simp at h; omega
  · simp at hc2
    simp
    refine he2 _ _ _ ?_
    simp [t3]
    refine hQ _ _ _ (by simp) ?_
    simp [Try.f54]
    refine ⟨?_, hcB.leave hc _⟩
    have hd2 := hd1 (by omega)
    rcases leave_opt H B [W.lf (.sl aa ds.length)] with e | ⟨e, hr⟩ <;> rw [e]
    · exact ⟨ds, ⟨fd, ⟨aa, rfl, oqB⟩, hdn, hdr, hd2, by omega, hfd⟩⟩
    · exact ⟨ds, ⟨[], (IsSl.free ⟨aa, rfl, oqB⟩ (by simpa [W.free] using hr) H), hdn, hdr, hd2, by omega, by simp⟩⟩

/-- The port k of a bridge. -/
def pt (b : Bridge) (k : Nat) : Port := b.ports.getD k default
theorem pt_eq {b : Bridge} {k : Nat} (h : k < b.ports.length) : pt b k = b.ports[k] := by simp [pt, List.getD, List.getElem?_eq_getElem h]
theorem pt_at {b : Bridge} {k : Nat} (h : k < b.ports.length) : b.ports[k]? = some (pt b k) := by rw [pt_eq h, List.getElem?_eq_getElem h]
theorem pt_ok {b : Bridge} (hb : b.ok = true) {k : Nat} (h : k < b.ports.length) : (pt b k).ok = true := by rw [pt_eq h]; exact Bridge.ok_at hb h
theorem better_iff (a b : Vec) : better a b = true ↔ (a.root < b.root ∨ (a.root = b.root ∧ (a.cost < b.cost ∨ (a.cost = b.cost ∧ (a.bridge < b.bridge ∨ (a.bridge = b.bridge ∧ a.port < b.port)))))) := by
  unfold better
  split
  · simp; omega
  · split
    · simp; omega
    · split
      · simp; omega
      · simp; omega
theorem better_no (a b : Vec) : better a b = false ↔ ¬ (a.root < b.root ∨ (a.root = b.root ∧ (a.cost < b.cost ∨ (a.cost = b.cost ∧ (a.bridge < b.bridge ∨ (a.bridge = b.bridge ∧ a.port < b.port)))))) := by
  rw [← better_iff]; simp
theorem rootUpto_best (b : Bridge) : ∀ i, i ≤ b.ports.length → ∀ k, k < i → rootSkip b (pt b k) = false → 0 ≤ rootUpto b i ∧ better (pt b k).vec (pt b (rootUpto b i).toNat).vec = false
  | 0, _, k, hk, _ => by omega
  | i + 1, hi, k, hk, hs => by
    have ih := rootUpto_best b i (by omega) k
    have hlt := rootUpto_lt b i
    rw [rootUpto, pt_at (by omega)]
    simp only
    unfold rootStep
    have hg : (b.ports.getD (rootUpto b i).toNat default) = pt b (rootUpto b i).toNat := rfl
    rw [hg]
    split
    · rename_i h1
      rcases Nat.lt_or_ge k i with h | h
      · exact ih h hs
      · obtain rfl : k = i := by omega
        rw [h1] at hs; simp at hs
    · split
      · rename_i h1 h2
        refine ⟨by omega, ?_⟩
        simp only [Int.toNat_natCast]
        rcases Nat.lt_or_ge k i with h | h
        · obtain ⟨h3, h4⟩ := ih h hs
          simp only [Bool.or_eq_true, decide_eq_true_eq, better_iff] at h2
          rw [better_no] at h4 ⊢
          omega
        · obtain rfl : k = i := by omega
          rw [better_no]; omega
      · rename_i h1 h2
        simp only [Bool.or_eq_true, decide_eq_true_eq, not_or] at h2
        rcases Nat.lt_or_ge k i with h | h
        · exact ih h hs
        · obtain rfl : k = i := by omega
          exact ⟨by omega, by simpa using h2.2⟩
theorem rootAt_of (b : Bridge) {k : Nat} (hk : k < b.ports.length) (hs : rootSkip b (pt b k) = false) : 0 ≤ rootAt b ∧ better (pt b k).vec (pt b (rootAt b).toNat).vec = false := rootUpto_best b _ (Nat.le_refl _) k hk hs
theorem rootAt_is {b : Bridge} (h : 0 ≤ rootAt b) : ∃ r : Nat, rootAt b = r ∧ r < b.ports.length ∧ rootSkip b (pt b r) = false := by
  have h1 := (rootUpto_lt b b.ports.length).2
  have h2 := rootUpto_skip b b.ports.length h
  refine ⟨(rootAt b).toNat, by omega, by unfold rootAt at h ⊢; omega, h2⟩
theorem ownV_pos {b : Bridge} {r : Nat} (h : rootAt b = r) (p : Int) : ownV b p = ⟨(pt b r).vec.root, (pt b r).vec.cost + 1, b.id, p⟩ := by
  unfold ownV; rw [if_neg (by omega), h]; rfl
theorem ownV_neg {b : Bridge} (h : rootAt b < 0) (p : Int) : ownV b p = ⟨b.id, 0, b.id, p⟩ := by
  unfold ownV; rw [if_pos h]
theorem hopsB_pos {b : Bridge} {r : Nat} (h : rootAt b = r) : hopsB b = (pt b r).hops + 1 := by
  unfold hopsB; rw [if_neg (by omega), h]; rfl
theorem hopsB_neg {b : Bridge} (h : rootAt b < 0) : hopsB b = 0 := by
  unfold hopsB; rw [if_pos h]
theorem skip_no {b : Bridge} {p : Port} : rootSkip b p = false ↔ p.has = true ∧ p.vec.bridge ≠ b.id ∧ p.vec.root < b.id ∧ p.vec.cost < 20 ∧ p.hops < 8 := by
  simp [rootSkip, and_assoc]
/-- Each port that is up has the role that a decision gives it. -/
def Decd (b : Bridge) : Prop := ∀ k, k < b.ports.length → (pt b k).up = true → (pt b k).role = roleB b k (pt b k)
theorem roleB_in (b : Bridge) (i : Nat) (p : Port) : roleB b i p = 1 ∨ roleB b i p = 2 ∨ roleB b i p = 3 := by
  unfold roleB; split
  · exact .inl rfl
  · split
    · exact .inr (.inr rfl)
    · exact .inr (.inl rfl)
theorem decideB_len (b : Bridge) : (decideB b).ports.length = b.ports.length := by simp [decideB]
theorem decideB_pt {b : Bridge} {k : Nat} (h : k < b.ports.length) : pt (decideB b) k = decP b k (pt b k) := by
  rw [pt_eq (by rw [decideB_len]; exact h), pt_eq h]; simp [decideB]
theorem decP_info (b : Bridge) (k : Nat) (p : Port) : (decP b k p).up = p.up ∧ (decP b k p).has = p.has ∧ (decP b k p).vec = p.vec ∧ (decP b k p).hops = p.hops ∧ (decP b k p).left = p.left := by
  unfold decP; split
  · exact turnP_rest _ _
  · simp
theorem decP_does {b : Bridge} {k : Nat} {p : Port} (hp : p.ok = true) (hu : p.up = true) : (decP b k p).role = roleB b k p ∧ (decP b k p).wait = turnW p (roleB b k p) := by
  unfold decP turnP
  rw [if_pos hu]
  have := roleB_in b k p
  rw [if_neg (by simp [hp, hu]; omega)]
  exact ⟨rfl, rfl⟩
theorem roleB_key {b c : Bridge} {p q : Port} (hi : b.id = c.id) (h : b.ports.map keyP = c.ports.map keyP) (hp : keyP p = keyP q) (k : Nat) : roleB b k p = roleB c k q := by
  simp only [keyP, Prod.mk.injEq] at hp
  unfold roleB
  rw [rootAt_key hi h, ownV_key hi h, hp.1, hp.2.1]
theorem decideB_decd {b : Bridge} (hb : b.ok = true) : Decd (decideB b) := by
  intro k hk hu
  rw [decideB_len] at hk
  rw [decideB_pt hk] at hu ⊢
  rw [(decP_info b k _).1] at hu
  rw [(decP_does (pt_ok hb hk) hu).1]
  exact roleB_key (b := b) (c := decideB b) rfl (decideB_key b).symm (decP_key b k _).symm k
theorem tickB_len (b : Bridge) : (tickB b).ports.length = b.ports.length := by simp [tickB]
theorem tickB_pt {b : Bridge} {k : Nat} (h : k < b.ports.length) : pt (tickB b) k = tickP (pt b k) := by
  rw [pt_eq (by rw [tickB_len]; exact h), pt_eq h]; simp [tickB]
/-- What a claim comes to at a port. -/
def hearB (b : Bridge) (q : Nat) (v : Vec) (h : Int) : Bridge := ⟨b.id, b.ports.set q (claimP (pt b q) v h)⟩
theorem hearB_len (b : Bridge) (q : Nat) (v : Vec) (h : Int) : (hearB b q v h).ports.length = b.ports.length := by simp [hearB]
theorem hearB_ok {b : Bridge} (hb : b.ok = true) {q : Nat} (hq : q < b.ports.length) (v : Vec) (h : Int) : (hearB b q v h).ok = true := set_ok hb (claimP_ok _ _ (pt_ok hb hq))
theorem hearB_pt {b : Bridge} {q k : Nat} (hk : k < b.ports.length) (v : Vec) (h : Int) : pt (hearB b q v h) k = if k = q then claimP (pt b q) v h else pt b k := by
  rw [pt_eq (by rw [hearB_len]; exact hk)]
  simp only [hearB, List.getElem_set]
  split
  · rename_i e; rw [if_pos e.symm]
  · rename_i e; rw [if_neg (fun h => e h.symm), pt_eq hk]
def tickD (b : Bridge) : Bridge := decideB (tickB b)
def hearD (b : Bridge) (q : Nat) (v : Vec) (h : Int) : Bridge := decideB (hearB b q v h)
theorem tickD_len (b : Bridge) : (tickD b).ports.length = b.ports.length := by rw [tickD, decideB_len, tickB_len]
theorem hearD_len (b : Bridge) (q : Nat) (v : Vec) (h : Int) : (hearD b q v h).ports.length = b.ports.length := by rw [hearD, decideB_len, hearB_len]
theorem tickD_ok {b : Bridge} (h : b.ok = true) : (tickD b).ok = true := decideB_ok (tickB_ok h)
theorem hearD_ok {b : Bridge} (hb : b.ok = true) {q : Nat} (hq : q < b.ports.length) (v : Vec) (h : Int) : (hearD b q v h).ok = true := decideB_ok (hearB_ok hb hq v h)
theorem tickD_decd {b : Bridge} (h : b.ok = true) : Decd (tickD b) := decideB_decd (tickB_ok h)
theorem hearD_decd {b : Bridge} (hb : b.ok = true) {q : Nat} (hq : q < b.ports.length) (v : Vec) (h : Int) : Decd (hearD b q v h) := decideB_decd (hearB_ok hb hq v h)
/-- What is heard at a port. -/
structure SameInfo (p q : Port) : Prop where
  has : q.has = p.has
  vec : q.vec = p.vec
  hops : q.hops = p.hops
  left : q.left = p.left
theorem decP_same (b : Bridge) (k : Nat) (p : Port) : SameInfo p (decP b k p) := ⟨(decP_info b k p).2.1, (decP_info b k p).2.2.1, (decP_info b k p).2.2.2.1, (decP_info b k p).2.2.2.2⟩
theorem tickD_pt {b : Bridge} {k : Nat} (hk : k < b.ports.length) : pt (tickD b) k = decP (tickB b) k (tickP (pt b k)) := by
  unfold tickD; rw [decideB_pt (by rw [tickB_len]; exact hk), tickB_pt hk]
theorem hearD_pt {b : Bridge} {q k : Nat} (hk : k < b.ports.length) (v : Vec) (h : Int) : pt (hearD b q v h) k = decP (hearB b q v h) k (if k = q then claimP (pt b q) v h else pt b k) := by
  unfold hearD; rw [decideB_pt (by rw [hearB_len]; exact hk), hearB_pt hk]
theorem Port.ok_has {p : Port} (h : p.ok = true) (hh : p.has = true) : p.up = true ∧ p.vec.ok = true ∧ 0 ≤ p.hops ∧ p.hops ≤ 8 ∧ 1 ≤ p.left ∧ p.left ≤ 3 := by
  simp [Port.ok, hh] at h
  simp_all
theorem Port.ok_none {p : Port} (h : p.ok = true) (hh : p.has = false) : p.vec = ⟨0, 0, 0, 0⟩ ∧ p.hops = 0 ∧ p.left = 0 := by
  simp [Port.ok, hh] at h
  simp_all
theorem Port.ok_rest {p : Port} (h : p.ok = true) : 0 ≤ p.role ∧ p.role ≤ 3 ∧ (p.role = 0 ↔ p.up = false) ∧ 0 ≤ p.wait ∧ p.wait ≤ 4 ∧ p.opn = openBy p.role p.wait := by
  simp [Port.ok] at h
  cases hu : p.up <;> simp_all
theorem tickP_none {p : Port} (hp : p.ok = true) (hh : (tickP p).has = true) : p.has = true ∧ (tickP p).vec = p.vec ∧ (tickP p).hops = p.hops ∧ (tickP p).left = p.left - 1 := by
  simp only [tickP] at hh ⊢
  unfold fadeP at hh ⊢
  cases h : p.has
  · simp [h] at hh
  · simp only [h, hp, Bool.and_self, Bool.true_eq_false, if_false] at hh ⊢
    split at hh
    · simp at hh
    · rename_i h1; simp [h1]
theorem tickP_keep {p : Port} (hp : p.ok = true) (hh : p.has = true) (hl : 2 ≤ p.left) : (tickP p).has = true ∧ (tickP p).vec = p.vec ∧ (tickP p).hops = p.hops ∧ (tickP p).left = p.left - 1 := by
  have : (tickP p).has = true := by
    simp only [tickP]; unfold fadeP
    rw [if_neg (by simp [hp, hh]), if_neg (by omega)]; exact hh
  exact ⟨this, (tickP_none hp this).2⟩
theorem tickP_up (p : Port) : (tickP p).up = p.up := (fadeP_rest p).1
theorem tickP_role (p : Port) : (tickP p).role = p.role := (fadeP_rest p).2.1
theorem tickP_wait (p : Port) : (tickP p).wait = if (p.role = 1 ∨ p.role = 2) ∧ 0 < p.wait then p.wait - 1 else p.wait := by
  have h := fadeP_rest p
  simp only [tickP, tickW, h.2.1, h.2.2.1]
  simp
theorem claimP_cases (p : Port) (v : Vec) (h : Int) : claimP p v h = p ∨ claimP p v h = ⟨p.up, true, v, h, 3, p.role, p.wait, p.opn⟩ := by
  unfold claimP; split
  · exact .inl rfl
  · split
    · exact .inl rfl
    · exact .inr rfl
theorem claimP_takes {p : Port} {v : Vec} {h : Int} (hp : p.ok = true) (hu : p.up = true) (hv : v.ok = true) (h0 : 0 ≤ h) (h8 : h ≤ 8) (hs : p.has = true → v.bridge = p.vec.bridge ∧ v.port = p.vec.port) : claimP p v h = ⟨p.up, true, v, h, 3, p.role, p.wait, p.opn⟩ := by
  unfold claimP
  rw [if_neg (by simp [hp, hu, hv, hopsOk, h0, h8]), if_neg]
  cases hh : p.has
  · simp
  · have := hs hh
    simp [this]

def inf (n : Net) (i k : Nat) : Port := pt (bAt n i) k
abbrev nB (n : Net) : Nat := n.bridges.length
abbrev nP (n : Net) (i : Nat) : Nat := (bAt n i).ports.length
abbrev idB (n : Net) (i : Nat) : Int := (bAt n i).id
/-- The other end of a port's link. -/
def peer (n : Net) (i k : Nat) : Option (Nat × Nat) := (otherL n.links i k).map fun e => (e.1.toNat, e.2.toNat)
def tickN (n : Net) (i : Nat) : Net := setBr n i (tickD (bAt n i))
def hearN (n : Net) (j q : Nat) (v : Vec) (h : Int) : Net := setBr n j (hearD (bAt n j) q v h)
def send1 (i : Nat) (c : Bridge) (m : Net) (k : Nat) : Net := if (pt c k).role = 2 then (match peer m i k with
  | some e => hearN m e.1 e.2 (ownV c k) (hopsB c)
  | none => m) else m
def sendU (i : Nat) (c : Bridge) (m : Net) : Nat → Net
  | 0 => m
  | k + 1 => send1 i c (sendU i c m k) k
theorem fold_none (i : Nat) : ∀ (os : List Out) (m : Net), (∀ o ∈ os, o.kind ≠ 1) → os.foldl (sendTo i) m = m
  | [], m, _ => rfl
  | o :: os, m, h => by
    rw [List.foldl_cons]
    have : sendTo i m o = m := by unfold sendTo; rw [if_neg (h o (by simp))]
    rw [this]
    exact fold_none i os m fun o ho => h o (by simp [ho])
theorem gateAt_kind (b c : Bridge) : ∀ k, ∀ o ∈ upto (gateAt b c) k, o.kind ≠ 1 := fun k o ho => by
  have := upto_all (f := gateAt b c) (p := fun o => o.kind = 2) (fun i o ho => by
    unfold gateAt at ho
    split at ho
    · split at ho
      · simp at ho
      · simp at ho; rw [ho]
    · simp at ho) _ _ ho
  omega
theorem peer_at {n : Net} (hw : NetW n) {i k j q : Nat} (h : peer n i k = some (j, q)) : otherL n.links i k = some ((j : Int), (q : Int)) ∧ j < nB n ∧ q < nP n j := by
  unfold peer at h
  cases he : otherL n.links i k with
  | none => simp [he] at h
  | some e =>
    simp [he] at h
    obtain ⟨h1, h2, h3, h4⟩ := otherL_at hw he
    obtain ⟨e1, e2⟩ := e
    obtain ⟨rfl, rfl⟩ := h
    simp only at h1 h2 h3 h4 ⊢
    refine ⟨by rw [Int.toNat_of_nonneg h1, Int.toNat_of_nonneg h3], h2, h4⟩
theorem hearN_w {n : Net} (hw : NetW n) {j q : Nat} (hj : j < nB n) (hq : q < nP n j) (v : Vec) (h : Int) : NetW (hearN n j q v h) := hw.set hj (hearD_ok (bAt_ok hw hj) hq v h) (hearD_len _ _ _ _)
theorem send1_w {n : Net} (hw : NetW n) (i : Nat) (c : Bridge) (k : Nat) : NetW (send1 i c n k) := by
  unfold send1
  split
  · split
    · rename_i e he
      obtain ⟨e1, e2⟩ := e
      obtain ⟨-, h2, h3⟩ := peer_at hw he
      exact hearN_w hw h2 h3 _ _
    · exact hw
  · exact hw
theorem sendU_w {n : Net} (hw : NetW n) (i : Nat) (c : Bridge) : ∀ k, NetW (sendU i c n k)
  | 0 => hw
  | k + 1 => send1_w (sendU_w hw i c k) i c k
theorem sendTo_eq {m : Net} (hw : NetW m) (i : Nat) {c : Bridge} (hc : c.ok = true) (k : Nat) (hk : k < c.ports.length) : (claimAt c k).foldl (sendTo i) m = send1 i c m k := by
  unfold claimAt send1
  rw [pt_at hk]
  simp only
  by_cases hr : (pt c k).role = 2
  · rw [if_pos hr, if_pos hr]
    simp only [List.foldl_cons, List.foldl_nil]
    unfold sendTo
    rw [if_pos rfl]
    simp only
    have hp : peer m i k = (otherL m.links i k).map fun e => (e.1.toNat, e.2.toNat) := rfl
    cases he : otherL m.links i k with
    | none => rw [hp, he]; rfl
    | some e =>
      rw [hp, he]
      simp only [Option.map_some]
      obtain ⟨h1, h2, h3, h4⟩ := otherL_at hw he
      have hb := bAt_ok hw h2
      have hl := (Bridge.ok_all hb).2.2.2.2
      obtain ⟨g1, g2, g3⟩ := claim_ok hc hk
      have hx : (claimIn e.2 ⟨1, k, ownV c k, hopsB c, false⟩).ok = true := by
        have g4 : (claimIn e.2 ⟨1, k, ownV c k, hopsB c, false⟩).vec.ok = true := g1
        simp [In.ok, g4]
        simp [claimIn]
        omega
      rw [reactB_yes hb hx (by simp [claimIn]; omega)]
      rfl
  · rw [if_neg hr, if_neg hr]; rfl
theorem foldU_eq {m : Net} (hw : NetW m) (i : Nat) {c : Bridge} (hc : c.ok = true) : ∀ k, k ≤ c.ports.length → (upto (claimAt c) k).foldl (sendTo i) m = sendU i c m k
  | 0, _ => rfl
  | k + 1, h => by
    rw [upto, List.foldl_append, foldU_eq hw i hc k (by omega), sendU]
    exact sendTo_eq (sendU_w hw i c k) i hc k (by omega)
theorem roundAt_eq {n : Net} (hw : NetW n) {i : Nat} (hi : i < nB n) : roundAt n i = sendU i (tickD (bAt n i)) (tickN n i) (nP n i) := by
  have hb := bAt_ok hw hi
  have hl := (Bridge.ok_all hb).2.2.2
  have hnx : nextB (bAt n i) tickIn = tickD (bAt n i) := by
    unfold nextB
    rw [if_neg (by simp [quiet, tickIn])]
    unfold inB
    rw [if_neg (by simp [tickIn]), if_pos (show tickIn.kind = 2 from rfl)]
    rfl
  unfold roundAt
  rw [reactB_yes hb tickIn_ok (by show (0 : Int) < _; omega), hnx]
  simp only
  unfold outsB
  rw [if_pos (show tickIn.kind = 2 from rfl), List.foldl_append, fold_none i _ _ (gateAt_kind _ _ _)]
  exact foldU_eq (hw.set hi (tickD_ok hb) (tickD_len _)) i (tickD_ok hb) _ (by rw [tickD_len]; exact Nat.le_refl _)

theorem bAt_set {n : Net} {i : Nat} (hi : i < nB n) (b : Bridge) (j : Nat) : bAt (setBr n i b) j = if j = i then b else bAt n j := by
  unfold bAt setBr
  simp only [List.getD_eq_getElem?_getD]
  split
  · rename_i e; subst e; simp [hi]
  · rename_i e; rw [List.getElem?_set_ne (fun h => e h.symm)]
theorem mem_endsOf (ls : List Link) (x : Int × Int) : x ∈ endsOf ls ↔ ∃ l ∈ ls, x = (l.a, l.p) ∨ x = (l.b, l.q) := by
  simp [endsOf, List.mem_flatMap]
theorem otherL_some_mem {a p : Int} {e : Int × Int} : ∀ {ls : List Link}, otherL ls a p = some e → ∃ l ∈ ls, (l.a = a ∧ l.p = p ∧ e = (l.b, l.q)) ∨ (l.b = a ∧ l.q = p ∧ e = (l.a, l.p))
  | [], h => by simp [otherL] at h
  | l :: ls, h => by
    rw [otherL] at h
    split at h
    · rename_i h1; injection h with h; exact ⟨l, by simp, .inl ⟨h1.1, h1.2, h.symm⟩⟩
    · split at h
      · rename_i h1; injection h with h; exact ⟨l, by simp, .inr ⟨h1.1, h1.2, h.symm⟩⟩
      · obtain ⟨l', h1, h2⟩ := otherL_some_mem h
        exact ⟨l', by simp [h1], h2⟩
theorem endsOf_cons (l : Link) (ls : List Link) : endsOf (l :: ls) = (l.a, l.p) :: (l.b, l.q) :: endsOf ls := by simp [endsOf]
theorem otherL_of : ∀ {ls : List Link}, (endsOf ls).Nodup → ∀ l ∈ ls, otherL ls l.a l.p = some (l.b, l.q) ∧ otherL ls l.b l.q = some (l.a, l.p)
  | [], _, l, h => by simp at h
  | l0 :: ls, hn, l, h => by
    rw [endsOf_cons] at hn
    simp only [List.nodup_cons, List.mem_cons, not_or] at hn
    obtain ⟨⟨h1, h2⟩, h3, h4⟩ := hn
    simp only [List.mem_cons] at h
    rcases h with rfl | h
    · constructor
      · rw [otherL, if_pos ⟨rfl, rfl⟩]
      · rw [otherL, if_neg (fun hh => h1 (Prod.ext hh.1 hh.2)), if_pos ⟨rfl, rfl⟩]
    · obtain ⟨g1, g2⟩ := otherL_of h4 l h
      have m1 : (l.a, l.p) ∈ endsOf ls := (mem_endsOf _ _).2 ⟨l, h, .inl rfl⟩
      have m2 : (l.b, l.q) ∈ endsOf ls := (mem_endsOf _ _).2 ⟨l, h, .inr rfl⟩
      constructor
      · rw [otherL, if_neg (fun hh => h2 (by rw [show (l0.a, l0.p) = (l.a, l.p) from Prod.ext hh.1 hh.2]; exact m1)), if_neg (fun hh => h3 (by rw [show (l0.b, l0.q) = (l.a, l.p) from Prod.ext hh.1 hh.2]; exact m1))]
        exact g1
      · rw [otherL, if_neg (fun hh => h2 (by rw [show (l0.a, l0.p) = (l.b, l.q) from Prod.ext hh.1 hh.2]; exact m2)), if_neg (fun hh => h3 (by rw [show (l0.b, l0.q) = (l.b, l.q) from Prod.ext hh.1 hh.2]; exact m2))]
        exact g2
/-- A net is right, said by places. -/
theorem P_iff (n : Net) : n.P ↔ (1 ≤ nB n ∧ nB n ≤ 5) ∧ n.links.length ≤ 6 ∧ (∀ i, i < nB n → (bAt n i).ok = true) ∧ (∀ i j, i < j → j < nB n → idB n i ≠ idB n j) ∧
    (∀ l ∈ n.links, l.a ≠ l.b ∧ (0 ≤ l.a ∧ l.a.toNat < nB n ∧ 0 ≤ l.p ∧ l.p.toNat < nP n l.a.toNat) ∧ (0 ≤ l.b ∧ l.b.toNat < nB n ∧ 0 ≤ l.q ∧ l.q.toNat < nP n l.b.toNat)) ∧ (endsOf n.links).Nodup ∧
    ∀ i k, i < nB n → k < nP n i → ((inf n i k).up = true ↔ ((i : Int), (k : Int)) ∈ endsOf n.links) := by
  have hbs : ∀ {i : Nat} {b : Bridge}, n.bridges[i]? = some b ↔ i < nB n ∧ bAt n i = b := by
    intro i b
    constructor
    · intro h
      have h1 := (List.getElem?_eq_some_iff.1 h)
      exact ⟨h1.1, by rw [bAt_eq h1.1]; exact h1.2⟩
    · rintro ⟨h1, rfl⟩
      rw [bAt_eq h1]; exact List.getElem?_eq_getElem h1
  have hend : ∀ a p, isEndP n a p ↔ (0 ≤ a ∧ a.toNat < nB n ∧ 0 ≤ p ∧ p.toNat < nP n a.toNat) := by
    intro a p
    constructor
    · rintro ⟨i, k, b, rfl, rfl, h1, h2⟩
      obtain ⟨h3, rfl⟩ := hbs.1 h1
      exact ⟨by omega, by simpa using h3, by omega, by simpa using h2⟩
    · rintro ⟨h1, h2, h3, h4⟩
      exact ⟨a.toNat, p.toNat, bAt n a.toNat, by omega, by omega, hbs.2 ⟨h2, rfl⟩, h4⟩
  unfold Net.P
  constructor
  · rintro ⟨h1, h2, h3, h4, h5, h6, h7⟩
    refine ⟨h1, h2, fun i hi => ?_, fun i j hij hj => h4 i j _ _ hij (hbs.2 ⟨by omega, rfl⟩) (hbs.2 ⟨hj, rfl⟩), fun l hl => ?_, h6, fun i k hi hk => h7 i k _ _ (hbs.2 ⟨hi, rfl⟩) (pt_at hk)⟩
    · rw [bAt_eq hi]; exact h3 _ (List.getElem_mem hi)
    · have := h5 l hl
      rw [hend, hend] at this
      exact this
  · rintro ⟨h1, h2, h3, h4, h5, h6, h7⟩
    refine ⟨h1, h2, fun b hb => ?_, fun i j b c hij hb hc => ?_, fun l hl => ?_, h6, fun i k b p hb hp => ?_⟩
    · obtain ⟨i, hi, rfl⟩ := List.getElem_of_mem hb
      rw [← bAt_eq hi]; exact h3 i hi
    · obtain ⟨g1, rfl⟩ := hbs.1 hb
      obtain ⟨g2, rfl⟩ := hbs.1 hc
      exact h4 i j hij g2
    · rw [hend, hend]; exact h5 l hl
    · obtain ⟨g1, rfl⟩ := hbs.1 hb
      have g2 := (List.getElem?_eq_some_iff.1 hp)
      have := h7 i k g1 g2.1
      rw [show inf n i k = p from by unfold inf; rw [pt_eq g2.1]; exact g2.2] at this
      exact this
theorem P.ok {n : Net} (h : n.P) {i : Nat} (hi : i < nB n) : (bAt n i).ok = true := ((P_iff n).1 h).2.2.1 i hi
theorem P.inf_ok {n : Net} (h : n.P) {i k : Nat} (hi : i < nB n) (hk : k < nP n i) : (inf n i k).ok = true := pt_ok (P.ok h hi) hk
theorem P.id_ne {n : Net} (h : n.P) {i j : Nat} (hi : i < nB n) (hj : j < nB n) (hne : i ≠ j) : idB n i ≠ idB n j := by
  rcases Nat.lt_or_ge i j with hl | hl
  · exact ((P_iff n).1 h).2.2.2.1 i j hl hj
  · exact fun e => ((P_iff n).1 h).2.2.2.1 j i (by omega) hi e.symm
theorem peer_iff {n : Net} (h : n.P) (i k j q : Nat) : peer n i k = some (j, q) ↔ ((⟨i, k, j, q⟩ : Link) ∈ n.links ∨ (⟨j, q, i, k⟩ : Link) ∈ n.links) := by
  obtain ⟨-, -, -, -, h5, h6, -⟩ := (P_iff n).1 h
  constructor
  · intro hp
    obtain ⟨h1, -, -⟩ := peer_at (NetW.of h) hp
    obtain ⟨l, hl, hc⟩ := otherL_some_mem h1
    rcases hc with ⟨e1, e2, e3⟩ | ⟨e1, e2, e3⟩
    · injection e3 with e3 e4
      left
      have : l = ⟨i, k, j, q⟩ := by obtain ⟨a, p, b, q⟩ := l; simp at *; simp [*]
      rw [← this]; exact hl
    · injection e3 with e3 e4
      right
      have : l = ⟨j, q, i, k⟩ := by obtain ⟨a, p, b, q⟩ := l; simp at *; simp [*]
      rw [← this]; exact hl
  · rintro (hl | hl)
    · have := (otherL_of h6 _ hl).1
      simp only at this
      simp [peer, this]
    · have := (otherL_of h6 _ hl).2
      simp only at this
      simp [peer, this]
/-- What is known of the two ends of a link. -/
structure Ends (n : Net) (i k j q : Nat) : Prop where
  hi : i < nB n
  hk : k < nP n i
  hj : j < nB n
  hq : q < nP n j
  ne : i ≠ j
  id : idB n i ≠ idB n j
  back : peer n j q = some (i, k)
  up : (inf n i k).up = true
  upj : (inf n j q).up = true
theorem peer_ends {n : Net} (h : n.P) {i k j q : Nat} (hp : peer n i k = some (j, q)) : Ends n i k j q := by
  have hi := (peer_iff h i k j q).1 hp
  obtain ⟨-, -, -, -, h5, h6, h7⟩ := (P_iff n).1 h
  have key : i ≠ j ∧ (i < nB n ∧ k < nP n i) ∧ (j < nB n ∧ q < nP n j) ∧ ((i : Int), (k : Int)) ∈ endsOf n.links ∧ ((j : Int), (q : Int)) ∈ endsOf n.links := by
    rcases hi with hl | hl
    · have := h5 _ hl
      simp at this
      exact ⟨by omega, this.2.1, this.2.2, (mem_endsOf _ _).2 ⟨_, hl, .inl rfl⟩, (mem_endsOf _ _).2 ⟨_, hl, .inr rfl⟩⟩
    · have := h5 _ hl
      simp at this
      exact ⟨by omega, this.2.2, this.2.1, (mem_endsOf _ _).2 ⟨_, hl, .inr rfl⟩, (mem_endsOf _ _).2 ⟨_, hl, .inl rfl⟩⟩
  obtain ⟨k1, ⟨k2, k3⟩, ⟨k4, k5⟩, k6, k7⟩ := key
  exact ⟨k2, k3, k4, k5, k1, P.id_ne h k2 k4 k1, (peer_iff h j q i k).2 hi.symm, (h7 i k k2 k3).2 k6, (h7 j q k4 k5).2 k7⟩
theorem peer_up {n : Net} (h : n.P) {i k : Nat} (hi : i < nB n) (hk : k < nP n i) (hu : (inf n i k).up = true) : ∃ j q, peer n i k = some (j, q) := by
  obtain ⟨-, -, -, -, h5, h6, h7⟩ := (P_iff n).1 h
  obtain ⟨l, hl, hc⟩ := (mem_endsOf _ _).1 ((h7 i k hi hk).1 hu)
  have := h5 l hl
  rcases hc with hc | hc
  · injection hc with e1 e2
    refine ⟨l.b.toNat, l.q.toNat, (peer_iff h _ _ _ _).2 (.inl ?_)⟩
    have e : l = ⟨i, k, l.b.toNat, l.q.toNat⟩ := by obtain ⟨a, p, b, q⟩ := l; simp at *; omega
    rw [← e]; exact hl
  · injection hc with e1 e2
    refine ⟨l.a.toNat, l.p.toNat, (peer_iff h _ _ _ _).2 (.inr ?_)⟩
    have e : l = ⟨l.a.toNat, l.p.toNat, i, k⟩ := by obtain ⟨a, p, b, q⟩ := l; simp at *; omega
    rw [← e]; exact hl
/-- A net that has come of another: the same bridges, ports and links. -/
structure Fit (n m : Net) : Prop where
  p : m.P
  links : m.links = n.links
  len : nB m = nB n
  id : ∀ i, idB m i = idB n i
  plen : ∀ i, nP m i = nP n i
  down : ∀ i k, i < nB n → k < nP n i → (inf n i k).up = false → inf m i k = inf n i k
theorem Fit.refl {n : Net} (h : n.P) : Fit n n := ⟨h, rfl, rfl, fun _ => rfl, fun _ => rfl, fun _ _ _ _ _ => rfl⟩
theorem Fit.peer {n m : Net} (h : Fit n m) (i k : Nat) : peer m i k = W.peer n i k := by unfold W.peer; rw [h.links]
theorem inf_set {n : Net} {i : Nat} (hi : i < nB n) (b : Bridge) (j k : Nat) : inf (setBr n i b) j k = if j = i then pt b k else inf n j k := by
  unfold inf; rw [bAt_set hi]; split <;> rfl
theorem Fit.up {n m : Net} (hn : n.P) (h : Fit n m) {i k : Nat} (hi : i < nB n) (hk : k < nP n i) : (inf m i k).up = (inf n i k).up := by
  rw [Bool.eq_iff_iff, ((P_iff m).1 h.p).2.2.2.2.2.2 i k (by rw [h.len]; exact hi) (by rw [h.plen]; exact hk), ((P_iff n).1 hn).2.2.2.2.2.2 i k hi hk, h.links]
theorem Fit.set {n m : Net} (h : Fit n m) {i : Nat} (hi : i < nB n) {b : Bridge} (hb : b.ok = true) (hid : b.id = idB m i) (hl : b.ports.length = nP m i) (hu : ∀ k, k < nP m i → (pt b k).up = (inf m i k).up)
    (hd : ∀ k, k < nP m i → (inf m i k).up = false → pt b k = inf m i k) : Fit n (setBr m i b) := by
  have him : i < nB m := by rw [h.len]; exact hi
  have hlen : nB (setBr m i b) = nB m := by simp [nB, setBr]
  have hids : ∀ j, idB (setBr m i b) j = idB m j := by
    intro j; unfold idB; rw [bAt_set him]; split
    · rename_i e; subst e; exact hid
    · rfl
  have hps : ∀ j, nP (setBr m i b) j = nP m j := by
    intro j; unfold nP; rw [bAt_set him]; split
    · rename_i e; subst e; exact hl
    · rfl
  obtain ⟨h1, h2, h3, h4, h5, h6, h7⟩ := (P_iff m).1 h.p
  refine ⟨(P_iff _).2 ⟨by rw [hlen]; exact h1, h2, fun j hj => ?_, fun j k hjk hk => ?_, fun l hl => ?_, h6, fun j k hj hk => ?_⟩, h.links, by rw [hlen, h.len], fun j => by rw [hids, h.id], fun j => by rw [hps, h.plen], fun j k hj hk hu' => ?_⟩
  · rw [bAt_set him]; split
    · exact hb
    · rw [hlen] at hj; exact h3 j hj
  · rw [hids, hids]; rw [hlen] at hk; exact h4 j k hjk hk
  · rw [hlen, hps, hps]; exact h5 l hl
  · rw [hlen] at hj; rw [hps] at hk
    show _ ↔ _ ∈ endsOf m.links
    rw [← h7 j k hj hk, inf_set him]
    split
    · rename_i e; subst e; rw [hu k hk]
    · exact Iff.rfl
  · rw [inf_set him]
    have hd0 := h.down j k hj hk hu'
    split
    · rename_i e; subst e
      rw [hd k (by rw [h.plen]; exact hk) (by rw [hd0]; exact hu'), hd0]
    · exact hd0
theorem tickP_down {p : Port} (hp : p.ok = true) (hu : p.up = false) : tickP p = p := by
  obtain ⟨a1, a2, ⟨b1, b2, b3, b4⟩, a4, a5, a6, a7, a8⟩ := p
  cases a2
  · simp [Port.ok] at hp
    simp at hu
    subst hu
    simp [tickP, fadeP, tickW]
    simp_all [openBy]
  · simp [Port.ok, show a1 = false from hu] at hp
theorem decP_down (b : Bridge) (k : Nat) {p : Port} (hu : p.up = false) : decP b k p = p := by unfold decP; rw [if_neg (by simp [hu])]
theorem Fit.tick {n m : Net} (h : Fit n m) {i : Nat} (hi : i < nB n) : Fit n (tickN m i) := by
  have hb := P.ok h.p (i := i) (by rw [h.len]; exact hi)
  refine h.set hi (tickD_ok hb) rfl (tickD_len _) (fun k hk => ?_) (fun k hk hu => ?_)
  · rw [tickD_pt hk, (decP_info _ _ _).1, tickP_up]; rfl
  · rw [tickD_pt hk]
    have hu2 : (pt (bAt m i) k).up = false := hu
    rw [tickP_down (pt_ok hb hk) hu2, decP_down _ _ hu2]; rfl
theorem claimP_down {p : Port} (hu : p.up = false) (v : Vec) (h : Int) : claimP p v h = p := by unfold claimP; rw [if_pos (by simp [hu])]
theorem Fit.hear {n m : Net} (h : Fit n m) {j q : Nat} (hj : j < nB n) (hq : q < nP n j) (v : Vec) (ho : Int) : Fit n (hearN m j q v ho) := by
  have hb := P.ok h.p (i := j) (by rw [h.len]; exact hj)
  have hq' : q < (bAt m j).ports.length := by have := h.plen j; unfold nP at this hq; omega
  refine h.set hj (hearD_ok hb hq' v ho) rfl (hearD_len _ _ _ _) (fun k hk => ?_) (fun k hk hu => ?_)
  · rw [hearD_pt hk, (decP_info _ _ _).1]
    split
    · rename_i e; subst e; rw [claimP_up]; rfl
    · rfl
  · rw [hearD_pt hk]
    have hu2 : (pt (bAt m j) k).up = false := hu
    split
    · rename_i e; subst e
      rw [claimP_down hu2, decP_down _ _ hu2]; rfl
    · rw [decP_down _ _ hu2]; rfl

/-- A round, bridge by bridge and port by port. -/
theorem round_rule {n m0 : Net} (hf : Fit n m0) (I : Nat → Net → Prop) (J : Nat → Nat → Net → Prop) (h0 : I 0 m0)
    (hT : ∀ i m, i < nB n → Fit n m → I i m → J i 0 (tickN m i))
    (hS : ∀ i k m j q, i < nB n → k < nP n i → Fit n m → Decd (bAt m i) → J i k m → (inf m i k).role = 2 → peer n i k = some (j, q) → J i (k + 1) (hearN m j q (ownV (bAt m i) k) (hopsB (bAt m i))))
    (hN : ∀ i k m, i < nB n → k < nP n i → Fit n m → Decd (bAt m i) → J i k m → ((inf m i k).role ≠ 2 ∨ peer n i k = none) → J i (k + 1) m)
    (hE : ∀ i m, i < nB n → Fit n m → J i (nP n i) m → I (i + 1) m) (hn : n.P) : Fit n (roundN m0) ∧ I (nB n) (roundN m0) := by
  have inner : ∀ i m, i < nB n → Fit n m → I i m → ∀ k, k ≤ nP n i → Fit n (sendU i (tickD (bAt m i)) (tickN m i) k) ∧ J i k (sendU i (tickD (bAt m i)) (tickN m i) k) ∧ bAt (sendU i (tickD (bAt m i)) (tickN m i) k) i = tickD (bAt m i) := by
    intro i m hi hfm hI k
    have him : i < nB m := by rw [hfm.len]; exact hi
    induction k with
    | zero => exact fun _ => ⟨hfm.tick hi, hT i m hi hfm hI, by show bAt (setBr m i _) i = _; rw [bAt_set him, if_pos rfl]⟩
    | succ k ih =>
      intro hk
      obtain ⟨h1, h2, h3⟩ := ih (by omega)
      rw [sendU]
      generalize hm' : sendU i (tickD (bAt m i)) (tickN m i) k = m' at h1 h2 h3 ⊢
      have hb := P.ok hfm.p him
      have hd : Decd (bAt m' i) := by rw [h3]; exact tickD_decd hb
      have hpe := h1.peer i k
      unfold send1
      have hin : (pt (tickD (bAt m i)) k).role = (inf m' i k).role := by unfold inf; rw [h3]
      rw [hin, hpe]
      by_cases hr : (inf m' i k).role = 2
      · rw [if_pos hr]
        cases hp : peer n i k with
        | none => exact ⟨h1, hN i k m' hi (by omega) h1 hd h2 (.inr hp), h3⟩
        | some e =>
          obtain ⟨j, q⟩ := e
          have he := peer_ends hn hp
          have hjm : j < nB m' := by rw [h1.len]; exact he.hj
          have := hS i k m' j q hi (by omega) h1 hd h2 hr hp
          rw [h3] at this
          exact ⟨h1.hear he.hj he.hq _ _, this, by show bAt (setBr m' j _) i = _; rw [bAt_set hjm, if_neg he.ne]; exact h3⟩
      · rw [if_neg hr]
        exact ⟨h1, hN i k m' hi (by omega) h1 hd h2 (.inl hr), h3⟩
  have outer : ∀ i, i ≤ nB n → Fit n (roundU m0 i) ∧ I i (roundU m0 i) := by
    intro i
    induction i with
    | zero => exact fun _ => ⟨hf, h0⟩
    | succ i ih =>
      intro hi
      obtain ⟨h1, h2⟩ := ih (by omega)
      rw [roundU, roundAt_eq (NetW.of h1.p) (by rw [h1.len]; omega), h1.plen]
      obtain ⟨g1, g2, -⟩ := inner i _ (by omega) h1 h2 _ (Nat.le_refl _)
      exact ⟨g1, hE i _ (by omega) g1 g2⟩
  have := outer (nB n) (Nat.le_refl _)
  unfold roundN
  rw [show m0.bridges.length = nB n from hf.len]
  exact this
theorem inf_tick_ne {m : Net} {i j : Nat} (hi : i < nB m) (h : j ≠ i) (k : Nat) : inf (tickN m i) j k = inf m j k := by
  unfold tickN; rw [inf_set hi, if_neg h]
theorem inf_tick {m : Net} {i k : Nat} (hi : i < nB m) (hk : k < nP m i) : SameInfo (tickP (inf m i k)) (inf (tickN m i) i k) := by
  unfold tickN; rw [inf_set hi, if_pos rfl, tickD_pt hk]; exact decP_same _ _ _
theorem inf_hear_ne {m : Net} {j q j' k' : Nat} (hj : j < nB m) (hk : k' < nP m j') (h : ¬ (j' = j ∧ k' = q)) (v : Vec) (ho : Int) : SameInfo (inf m j' k') (inf (hearN m j q v ho) j' k') := by
  unfold hearN; rw [inf_set hj]
  split
  · rename_i e; subst e
    rw [hearD_pt hk, if_neg (fun e => h ⟨rfl, e⟩)]; exact decP_same _ _ _
  · exact ⟨rfl, rfl, rfl, rfl⟩
theorem inf_hear {m : Net} {j q : Nat} (hj : j < nB m) (hq : q < nP m j) (v : Vec) (ho : Int) : SameInfo (claimP (inf m j q) v ho) (inf (hearN m j q v ho) j q) := by
  unfold hearN; rw [inf_set hj, if_pos rfl, hearD_pt hq, if_pos rfl]; exact decP_same _ _ _

/-- A row of links from one bridge to another. -/
inductive Wk (n : Net) : Nat → Nat → Nat → Prop where
  | nil {i : Nat} : i < nB n → Wk n 0 i i
  | cons {i k j q d r : Nat} : peer n i k = some (j, q) → Wk n d j r → Wk n (d + 1) i r
/-- What is heard at a port has come of a bridge that is its own root. -/
def Gen (n : Net) (i k : Nat) (v : Vec) (h : Int) : Prop := ∃ j q r d : Nat, peer n i k = some (j, q) ∧ v = ⟨idB n r, d, idB n j, q⟩ ∧ h = d ∧ Wk n d j r
def GA (n : Net) (T : Nat → Int) (m : Net) : Prop := ∀ i k, i < nB n → k < nP n i → (inf m i k).has = true → Gen n i k (inf m i k).vec (inf m i k).hops ∨ T i + (inf m i k).left ≤ 3 + 2 * (inf m i k).hops
theorem GA.mono {n m : Net} {T T' : Nat → Int} (h : GA n T m) (ht : ∀ i, i < nB n → T' i ≤ T i) : GA n T' m := fun i k hi hk hh => by
  rcases h i k hi hk hh with h | h
  · exact .inl h
  · have := ht i hi; exact .inr (by omega)
theorem GA.tick {n m : Net} {T T' : Nat → Int} (hf : Fit n m) (h : GA n T m) {i : Nat} (hi : i < nB n) (h1 : T' i ≤ T i + 1) (h2 : ∀ j, j ≠ i → T' j ≤ T j) : GA n T' (tickN m i) := by
  intro j k hj hk hh
  have him : i < nB m := by rw [hf.len]; exact hi
  by_cases e : j = i
  · subst e
    have hkm : k < nP m j := by rw [hf.plen]; exact hk
    have hs := inf_tick him hkm
    have hpo := P.inf_ok hf.p him hkm
    rw [hs.has] at hh
    obtain ⟨g1, g2, g3, g4⟩ := tickP_none hpo hh
    rw [hs.vec, hs.hops, hs.left, g2, g3, g4]
    rcases h j k hj hk g1 with h | h
    · exact .inl h
    · exact .inr (by omega)
  · rw [inf_tick_ne him e] at hh ⊢
    rcases h j k hj hk hh with h | h
    · exact .inl h
    · have := h2 j e; exact .inr (by omega)
theorem msg_gen {n m : Net} (hn : n.P) (hf : Fit n m) {i k j q : Nat} (hp : peer n i k = some (j, q)) (h : ∀ r : Nat, rootAt (bAt m i) = r → Gen n i r (inf m i r).vec (inf m i r).hops) : Gen n j q (ownV (bAt m i) k) (hopsB (bAt m i)) := by
  have he := peer_ends hn hp
  by_cases hr : rootAt (bAt m i) < 0
  · rw [ownV_neg hr, hopsB_neg hr]
    refine ⟨i, k, i, 0, he.back, ?_, rfl, .nil he.hi⟩
    have : (bAt m i).id = idB n i := hf.id i
    rw [this]; rfl
  · obtain ⟨r, hr1, -, -⟩ := rootAt_is (b := bAt m i) (by omega)
    obtain ⟨j', q', r', d, h1, h2, h3, h4⟩ := h r hr1
    rw [ownV_pos hr1, hopsB_pos hr1]
    have h2' : (pt (bAt m i) r).vec = ⟨idB n r', d, idB n j', q'⟩ := h2
    have h3' : (pt (bAt m i) r).hops = d := h3
    refine ⟨i, k, r', d + 1, he.back, ?_, by rw [h3']; omega, .cons h1 h4⟩
    have : (bAt m i).id = idB n i := hf.id i
    rw [h2', this]; simp
theorem GA.hear {n m : Net} {T : Nat → Int} (hn : n.P) (hf : Fit n m) (h : GA n T m) {i k j q : Nat} (hp : peer n i k = some (j, q)) (hT : T j ≤ T i) : GA n T (hearN m j q (ownV (bAt m i) k) (hopsB (bAt m i))) := by
  have he := peer_ends hn hp
  have hjm : j < nB m := by rw [hf.len]; exact he.hj
  intro j' k' hj hk hh
  by_cases e : j' = j ∧ k' = q
  · obtain ⟨rfl, rfl⟩ := e
    have hs := inf_hear hjm (by rw [hf.plen]; exact hk) (ownV (bAt m i) k) (hopsB (bAt m i))
    rw [hs.has] at hh
    rw [hs.vec, hs.hops, hs.left]
    rcases claimP_cases (inf m j' k') (ownV (bAt m i) k) (hopsB (bAt m i)) with hc | hc
    · rw [hc] at hh ⊢; exact h j' k' hj hk hh
    · rw [hc]
      simp only
      by_cases hg : ∀ r : Nat, rootAt (bAt m i) = r → Gen n i r (inf m i r).vec (inf m i r).hops
      · exact .inl (msg_gen hn hf hp hg)
      · have ⟨r, hr⟩ := Classical.not_forall.1 hg
        have ⟨hr1, hr2⟩ := Classical.not_imp.1 hr
        have him : i < nB m := by rw [hf.len]; exact he.hi
        obtain ⟨r', e1, e2, e3⟩ := rootAt_is (b := bAt m i) (by omega)
        obtain rfl : r = r' := by omega
        have hok := P.inf_ok hf.p him e2
        have hsk := skip_no.1 e3
        have hh := Port.ok_has hok hsk.1
        rw [hopsB_pos hr1]
        rcases h i r he.hi (by rw [← hf.plen]; exact e2) hsk.1 with h | h
        · exact absurd h hr2
        · refine .inr ?_
          have h8 : (pt (bAt m i) r).hops = (inf m i r).hops := rfl
          omega
  · have hs := inf_hear_ne hjm (by rw [hf.plen]; exact hk) e (ownV (bAt m i) k) (hopsB (bAt m i))
    rw [hs.has] at hh
    rw [hs.vec, hs.hops, hs.left]
    exact h j' k' hj hk hh
def tkU (i : Nat) (t : Int) (x : Nat) : Int := if x < i then t + 1 else t
theorem GA.round {n m : Net} (hn : n.P) (hf : Fit n m) {t : Int} (h : GA n (fun _ => t) m) : Fit n (roundN m) ∧ GA n (fun _ => t + 1) (roundN m) := by
  have := round_rule hf (fun i m => GA n (tkU i t) m) (fun i k m => GA n (tkU (i + 1) t) m) (h.mono fun i _ => by simp [tkU])
    (fun i m hi hf h => h.tick hf hi (by simp [tkU]) (fun j hj => by unfold tkU; split <;> split <;> omega))
    (fun i k m j q hi hk hf _ h _ hp => h.hear hn hf hp (by unfold tkU; split <;> split <;> omega))
    (fun i k m hi hk hf _ h _ => h) (fun i m hi hf h => h) hn
  exact ⟨this.1, this.2.mono fun i hi => by unfold tkU; rw [if_pos hi]; omega⟩
/-- So many rounds. -/
def stN (n : Net) (t : Nat) : Net := Nat.repeat roundN t n
theorem stN_succ (n : Net) (t : Nat) : stN n (t + 1) = roundN (stN n t) := rfl
theorem tkU_in {x i : Nat} (h : x < i) (t : Int) : tkU i t x = t + 1 := by unfold tkU; rw [if_pos h]
theorem tkU_out {x i : Nat} (h : ¬ x < i) (t : Int) : tkU i t x = t := by unfold tkU; rw [if_neg h]
theorem stN_ga {n : Net} (hn : n.P) : ∀ t : Nat, Fit n (stN n t) ∧ GA n (fun _ => t) (stN n t)
  | 0 => ⟨Fit.refl hn, fun i k hi hk hh => .inr (by
      have := Port.ok_has (P.inf_ok hn hi hk) hh
      show ((0 : Nat) : Int) + _ ≤ _
      simp only [stN, Nat.repeat]; omega)⟩
  | t + 1 => by
    obtain ⟨h1, h2⟩ := stN_ga hn t
    have := GA.round hn h1 h2
    rw [stN_succ]
    exact ⟨this.1, this.2.mono fun i _ => by omega⟩
abbrev AllGen (n m : Net) : Prop := GA n (fun _ => 1000) m
theorem AllGen.at {n m : Net} (hf : Fit n m) (h : AllGen n m) {i k : Nat} (hi : i < nB n) (hk : k < nP n i) (hh : (inf m i k).has = true) : Gen n i k (inf m i k).vec (inf m i k).hops := by
  have := Port.ok_has (P.inf_ok hf.p (by rw [hf.len]; exact hi) (by rw [hf.plen]; exact hk)) hh
  rcases h i k hi hk hh with h | h
  · exact h
  · simp only at h; omega
theorem allGen_of {n m : Net} (hf : Fit n m) {t : Nat} (ht : 19 ≤ t) (h : GA n (fun _ => t) m) : AllGen n m := by
  intro i k hi hk hh
  have := Port.ok_has (P.inf_ok hf.p (by rw [hf.len]; exact hi) (by rw [hf.plen]; exact hk)) hh
  rcases h i k hi hk hh with h | h
  · exact .inl h
  · simp only at h; omega

def nxtP (nx : List Int) (k : Nat) : Int := nx.getD k 0
/-- Links that were drawn between so many bridges: nx: each bridge's next free port. -/
structure Wires (L : List Link) (m : Int) (nx : List Int) : Prop where
  len : nx.length = 5
  bd : ∀ k, 0 ≤ nxtP nx k ∧ nxtP nx k ≤ 4
  lk : ∀ l ∈ L, l.a ≠ l.b ∧ 0 ≤ l.a ∧ l.a < m ∧ 0 ≤ l.b ∧ l.b < m ∧ 0 ≤ l.p ∧ l.p < nxtP nx l.a.toNat ∧ 0 ≤ l.q ∧ l.q < nxtP nx l.b.toNat
  nd : (endsOf L).Nodup
theorem Wires.nil (m : Int) : Wires [] m [0, 0, 0, 0, 0] := by
  refine ⟨rfl, fun k => ?_, by simp, by simp [endsOf]⟩
  match k with
  | 0 | 1 | 2 | 3 | 4 => simp [nxtP, List.getD]
  | k + 5 => simp [nxtP, List.getD]
theorem nxtP_set (xs : List Int) (k j : Nat) (v : Int) (hk : k < xs.length) : nxtP (xs.set k v) j = if j = k then v else nxtP xs j := by
  simp only [nxtP, List.getD_eq_getElem?_getD, List.getElem?_set]
  by_cases h : k = j
  · subst h; simp [hk]
  · simp [h, show ¬ j = k from fun e => h e.symm]
theorem Wires.add {L : List Link} {m : Int} {nx : List Int} (h : Wires L m nx) {a b : Nat} (hm : m ≤ 5) (ha : (a : Int) < m) (hb : (b : Int) < m) (hne : a ≠ b) (h1 : nxtP nx a < 4) (h2 : nxtP nx b < 4) :
    Wires (L ++ [⟨a, nxtP nx a, b, nxtP nx b⟩]) m ((nx.set a (nxtP nx a + 1)).set b (nxtP nx b + 1)) := by
  have hl := h.len
  have g : ∀ k, nxtP ((nx.set a (nxtP nx a + 1)).set b (nxtP nx b + 1)) k = if k = b then nxtP nx b + 1 else if k = a then nxtP nx a + 1 else nxtP nx k := fun k => by
    rw [nxtP_set _ _ _ _ (by simp; omega), nxtP_set _ _ _ _ (by omega)]
  have mono : ∀ k, nxtP nx k ≤ nxtP ((nx.set a (nxtP nx a + 1)).set b (nxtP nx b + 1)) k := fun k => by
    rw [g k]
    by_cases e1 : k = b
    · subst e1; simp; omega
    · by_cases e2 : k = a
      · subst e2; simp [e1]; omega
      · simp [e1, e2]
  have a0 := h.bd a
  have b0 := h.bd b
  refine ⟨by simp [hl], fun k => ?_, fun l hl2 => ?_, ?_⟩
  · have := h.bd k
    rw [g k]
    split
    · omega
    · split <;> omega
  · rcases List.mem_append.1 hl2 with h3 | h3
    · obtain ⟨c1, c2, c3, c4, c5, c6, c7, c8, c9⟩ := h.lk l h3
      have := mono l.a.toNat
      have := mono l.b.toNat
      exact ⟨c1, c2, c3, c4, c5, c6, by omega, c8, by omega⟩
    · simp at h3
      subst h3
      simp only [Int.toNat_natCast]
      rw [g a, g b, if_neg hne, if_pos rfl, if_pos rfl]
      refine ⟨by omega, by omega, ha, by omega, hb, by omega, by omega, by omega, by omega⟩
  · have e : endsOf (L ++ [⟨a, nxtP nx a, b, nxtP nx b⟩]) = endsOf L ++ [((a : Int), nxtP nx a), ((b : Int), nxtP nx b)] := by simp [endsOf]
    rw [e, List.nodup_append]
    refine ⟨h.nd, ?_, ?_⟩
    · simp
      intro e; omega
    · intro x hx y hy
      obtain ⟨l, hl2, hc⟩ := (mem_endsOf _ _).1 hx
      obtain ⟨c1, c2, c3, c4, c5, c6, c7, c8, c9⟩ := h.lk l hl2
      simp at hy
      rintro rfl
      rcases hc with rfl | rfl
      · simp only [Prod.mk.injEq] at hy
        rcases hy with ⟨e1, e2⟩ | ⟨e1, e2⟩
        · rw [e1] at c7; simp only [Int.toNat_natCast] at c7; omega
        · rw [e1] at c7; simp only [Int.toNat_natCast] at c7; omega
      · simp only [Prod.mk.injEq] at hy
        rcases hy with ⟨e1, e2⟩ | ⟨e1, e2⟩
        · rw [e1] at c9; simp only [Int.toNat_natCast] at c9; omega
        · rw [e1] at c9; simp only [Int.toNat_natCast] at c9; omega

theorem l10DrawWires {H : Heap} {c n : Nat} (hc : Cur H c n) {m : Int} (hm1 : 1 ≤ m) (hm4 : m ≤ 5) : Runs env 55 [.ptr c 0 0, .int m] H fun v H' => (∃ (q : Lf) (L : List Link) (nx : List Int) (fp : List Nat), v = .w (.lf q) ∧ IsLinkS H' q L fp ∧ Wires L m nx ∧ L.length ≤ 6 ∧ ∀ i ∈ fp, H.length ≤ i) ∧ CurTo H H' c n := by
  have hcl := hc.lt
  refine Runs.walk ok55 Try.func55 rfl (by simp [Try.f55]) fun Q hQ => ?_
  simp only [Try.f55, strip, stripL, stripI, stripG, chkT, tagsB, tagsL, tagD, addT, tagA, lookN, tagOp, elmT, ty22, ty24, ty25, ty33, ty54, ty58, ty95, ty122, Nat.reduceEqDiff, if_false, reduceIte, Option.getD_some, Option.getD_none, dstAt, dstOk, Nat.reduceLT, decide_true, if_true]
  obtain ⟨Y, hY⟩ : ∃ Y : Heap, Y = H ++ [some ⟨50, .wr, []⟩, some ⟨3, .wr, [[.i .i64 0], [.i .i64 0], [.i .i64 0], [.i .i64 0], [.i .i64 0]]⟩] := ⟨_, rfl⟩
  have bD : blkAt Y H.length = some ⟨50, .wr, []⟩ := by rw [hY]; simp
  have bN : blkAt Y (H.length + 1) = some ⟨3, .wr, ([0, 0, 0, 0, 0] : List Int).map encI⟩ := by rw [hY]; simp [encI]
  have hcY : CurTo H Y c n := by rw [hY]; exact (CurTo.refl hc).app _
  have oD : Own Y 50 (some (H.length, 0)) [] [H.length] := Own.of bD
  simp
  rw [← hY]
  clear hY
  refine wpS_loop (fun j tm A => ∃ (i : Nat) (aa : Option (Nat × Nat)) (L : List Link) (nx : List Int) (fd : List Nat), i + j = 6 ∧ L.length ≤ i ∧ Wires L m nx ∧ tm 0 = .ptr c 0 0 ∧ tm 1 = .int m ∧ tm 5 = .w (.lf (.sl aa L.length)) ∧ tm 6 = .w (.lf (.sl (some (H.length + 1, 0)) 5)) ∧ tm 7 = .int i ∧ CurTo H A c n ∧ blkAt A (H.length + 1) = some ⟨3, .wr, nx.map encI⟩ ∧ Own A 50 aa (L.map Link.enc) fd ∧ ∀ k ∈ fd, H.length ≤ k ∧ k ≠ H.length + 1) 6 (by rw [env_K]; omega)
    ⟨0, some (H.length, 0), [], [0, 0, 0, 0, 0], [H.length], by simp, by simp, Wires.nil m, by simp, by simp, by simp, by simp, by simp, hcY, bN, oD, by simp⟩ ?_
  rintro j tm A hj ⟨i, aa, L, nx, fd, hij, hLl, hw, t0, t1, t5, t6, t7, hcA, bA, oq, hfd⟩ Q2 hn2 he2 hr2
  simp [t0, t7]
  refine stpL_runs (l1Below hcA.2 7) ?_
  rintro _ B ⟨⟨u, rfl, hu0, hu1, -⟩, htoB⟩
  have hu := hu1 (by omega)
  have hcB := hcA.next htoB
  have hne : ∀ (k : Nat), H.length ≤ k → k ∉ [c] := fun k hm h => by simp at h; omega
  have oqB := oq.keep htoB.1 (fun k hk => hne k (hfd k hk).1)
  have bB := htoB.1.blk bA (hne _ (by omega))
  have hwI : IntKind.i64.wrap ((i : Int) + 1) = (i : Int) + 1 := wrap64 (by omega) (by omega)
  simp [t0, t1, t5, t6, t7]
  refine selS_intro (fun hc2 => ?_) (fun hc2 => ?_)
  · simp at hc2
    simp [t0, t1, t5, t6, t7]
    refine stpL_runs (l1Below htoB.2 m) ?_
    rintro _ D ⟨⟨a, rfl, ha0, ha1, -⟩, htoD⟩
    have ha := ha1 (by omega)
    obtain ⟨a, rfl⟩ : ∃ x : Nat, a = (x : Int) := ⟨a.toNat, by omega⟩
    have hcD := hcB.next htoD
    simp [t0, t1, t5, t6, t7]
    refine stpL_runs (l1Below htoD.2 m) ?_
    rintro _ F ⟨⟨b, rfl, hb0, hb1, -⟩, htoF⟩
    have hb := hb1 (by omega)
    obtain ⟨b, rfl⟩ : ∃ x : Nat, b = (x : Int) := ⟨b.toNat, by omega⟩
    have hcF := hcD.next htoF
    have oqF := (oqB.keep htoD.1 (fun k hk => hne k (hfd k hk).1)).keep htoF.1 (fun k hk => hne k (hfd k hk).1)
    have bF := htoF.1.blk (htoD.1.blk bB (hne _ (by omega))) (hne _ (by omega))
    have hidF := blkAt_len bF
    have hnl := hw.len
    have ha5 : a < 5 := by omega
    have hb5 : b < 5 := by omega
    have haI : (a : Int) < 5 := by omega
    have hbI : (b : Int) < 5 := by omega
    have gra : nx[a]? = some (nxtP nx a) := by rw [nxtP, List.getD_eq_getElem?_getD, List.getElem?_eq_getElem (by omega)]; rfl
    have grb : nx[b]? = some (nxtP nx b) := by rw [nxtP, List.getD_eq_getElem?_getD, List.getElem?_eq_getElem (by omega)]; rfl
    have hab := hw.bd a
    have hbb := hw.bd b
    obtain ⟨va, hva⟩ : ∃ va, va = nxtP nx a := ⟨_, rfl⟩
    obtain ⟨vb, hvb⟩ : ∃ vb, vb = nxtP nx b := ⟨_, rfl⟩
    rw [← hva] at gra hab
    rw [← hvb] at grb hbb
    simp [t0, t1, t5, t6, t7]
    repeat' (first | (refine gdL_t (fun h => ?_) (fun h => ?_) <;> simp [h, t0, t1, t5, t6, t7, indexAddrV, elemIs, hidF, bF, ha5, hb5, haI, hbI, gra, grb, encI]) | (refine gdL_f (fun h => ?_) (fun h => ?_) <;> simp [h, t0, t1, t5, t6, t7, indexAddrV, elemIs, hidF, bF, ha5, hb5, haI, hbI, gra, grb, encI]) | (refine selS_intro (fun h => ?_) (fun h => ?_) <;> simp [h, t0, t1, t5, t6, t7, indexAddrV, elemIs, hidF, bF, ha5, hb5, haI, hbI, gra, grb, encI]))
    · refine hn2 (j - 1) _ _ (by omega) ⟨i + 1, aa, L, nx, fd, by omega, by omega, hw, by simp [t0], by simp [t1], by simp [t5], by simp [t6], by simp [hwI], hcF, bF, oqF, hfd⟩
    · refine hn2 (j - 1) _ _ (by omega) ⟨i + 1, aa, L, nx, fd, by omega, by omega, hw, by simp [t0], by simp [t1], by simp [t5], by simp [t6], by simp [hwI], hcF, bF, oqF, hfd⟩
    · refine hn2 (j - 1) _ _ (by omega) ⟨i + 1, aa, L, nx, fd, by omega, by omega, hw, by simp [t0], by simp [t1], by simp [t5], by simp [t6], by simp [hwI], hcF, bF, oqF, hfd⟩
    · have hne2 : a ≠ b := by
        intro e; subst e; simp_all
      have hva4 : va < 4 := by simp_all
      have hvb4 : vb < 4 := by simp_all
      refine stpL_append (e := 50) (rows := L.map Link.enc) (ys := [Link.enc ⟨a, va, b, vb⟩]) (oqF.app _) (Sl.of (by simp [Link.enc])) rfl rfl rfl (by simp) (by simp; omega) (by simp) rfl fun a2 E fc hoE hkE hfE => ?_
      have kE : Keep fd F E := hkE.base
      have bE := kE.blk bF (fun hk => (hfd _ hk).2 rfl)
      have hidE := blkAt_len bE
      have hcE : CurTo H E c n := hcF.own kE (fun k hk => (hfd k hk).1) hcl
      have hlF := hcF.len
      have wva : IntKind.i64.wrap (va + 1) = va + 1 := wrap64 (by omega) (by omega)
      have wvb : IntKind.i64.wrap (vb + 1) = vb + 1 := wrap64 (by omega) (by omega)
      simp [t0, t1, t6, t7, indexAddrV, elemIs, hidE, bE, ha5, hb5, haI, hbI, gra, grb, encI, wva, wvb]
      obtain ⟨N2, hN2⟩ : ∃ N2, N2 = nx.set a (va + 1) := ⟨_, rfl⟩
      have hms : (List.map encI nx).set a [Lf.i .i64 (va + 1)] = N2.map encI := by rw [hN2, List.map_set]; rfl
      obtain ⟨E2, hE2⟩ : ∃ E2 : Heap, E2 = E.set (H.length + 1) (some ⟨3, .wr, N2.map encI⟩) := ⟨_, rfl⟩
      have bE2 : blkAt E2 (H.length + 1) = some ⟨3, .wr, N2.map encI⟩ := by rw [hE2]; exact blkAt_set hidE
      have hidE2 := blkAt_len bE2
      have grb2 : N2[b]? = some vb := by rw [hN2, List.getElem?_set_ne hne2]; exact grb
      have hms2 : (List.map encI N2).set b [Lf.i .i64 (vb + 1)] = (N2.set b (vb + 1)).map encI := by rw [List.map_set]; rfl
      rw [hms, ← hE2]
      simp [t0, t1, t6, t7, indexAddrV, elemIs, hidE2, bE2, ha5, hb5, haI, hbI, grb2, encI, wvb]
      rw [hms2]
      obtain ⟨E3, hE3⟩ : ∃ E3 : Heap, E3 = E2.set (H.length + 1) (some ⟨3, .wr, (N2.set b (vb + 1)).map encI⟩) := ⟨_, rfl⟩
      have bE3 : blkAt E3 (H.length + 1) = some ⟨3, .wr, (N2.set b (vb + 1)).map encI⟩ := by rw [hE3]; exact blkAt_set hidE2
      have hcE2 : CurTo H E2 c n := by rw [hE2]; exact hcE.set (by omega) (by omega) _
      have hcE3 : CurTo H E3 c n := by rw [hE3]; exact hcE2.set (by omega) (by omega) _
      have hfc : ∀ k ∈ fc, H.length ≤ k ∧ k ≠ H.length + 1 := by
        intro k hk
        rcases hfE k hk with h | h
        · exact hfd k h
        · simp at h
          omega
      have oE3 : Own E3 50 a2 ((L ++ [(⟨a, va, b, vb⟩ : Link)]).map Link.enc) fc := by
        have h1 := hoE.keep (Keep.set (id := H.length + 1) E (some ⟨3, .wr, N2.map encI⟩)) (fun k hk hk2 => by simp at hk2; exact (hfc k hk).2 hk2)
        rw [← hE2] at h1
        have h2 := h1.keep (Keep.set (id := H.length + 1) E2 (some ⟨3, .wr, (N2.set b (vb + 1)).map encI⟩)) (fun k hk hk2 => by simp at hk2; exact (hfc k hk).2 hk2)
        rw [← hE3] at h2
        simpa using h2
      have hw2 : Wires (L ++ [⟨a, va, b, vb⟩]) m (N2.set b (vb + 1)) := by
        rw [hN2, hva, hvb]
        exact hw.add hm4 ha hb hne2 (by omega) (by omega)
      rw [← hE3]
      simp [t7, hwI]

      refine hn2 (j - 1) _ _ (by omega) ⟨i + 1, a2, L ++ [⟨a, va, b, vb⟩], N2.set b (vb + 1), fc, by omega, by simp; omega, hw2, by simp [t0], by simp [t1], by simp, by simp [t6], by simp [hwI], hcE3, bE3, oE3, hfc⟩
  · simp at hc2
    simp
    refine he2 _ _ _ ?_
    simp [t5]
    refine hQ _ _ _ (by simp) ?_
    simp [Try.f55]
    refine ⟨?_, hcB.leave hc _⟩
    rcases leave_opt H B [W.lf (.sl aa L.length)] with e | ⟨e, hr⟩ <;> rw [e]
    · exact ⟨L, nx, fd, ⟨aa, rfl, oqB⟩, hw, by omega, fun k hk => (hfd k hk).1⟩
    · exact ⟨L, nx, [], (IsSl.free ⟨aa, rfl, oqB⟩ (by simpa [W.free] using hr) H), hw, by omega, by simp⟩

/-- A bridge of a net of our own, and another one put in its place. -/
theorem netPut {H : Heap} {l : List Lf} {n : Net} {fp : List Nat} (hI : IsNet H l n fp) {t : Nat} (ht : t < n.bridges.length) :
    ∃ (bid : Nat) (blo : Blk) (l0 : List Lf) (q1 : Lf), l = [.sl (some (bid, 0)) n.bridges.length, q1] ∧ bid ∈ fp ∧ bid < H.length ∧ blkAt H bid = some blo ∧ blo.elem = 56 ∧ blo.md = .wr ∧ blo.rows[t]? = some l0 ∧ l0.length = 2 ∧ RdBridge H l0 (bAt n t) ∧
      ∀ (H1 : Heap) (l2 : List Lf) (b : Bridge) (f2 : List Nat), Keep [] H H1 → IsBridge H1 l2 b f2 → (∀ i ∈ f2, H.length ≤ i) → ∃ fp', IsNet (H1.set bid (some ⟨56, .wr, blo.rows.set t l2⟩)) l (setBr n t b) fp' ∧ Keep fp H (H1.set bid (some ⟨56, .wr, blo.rows.set t l2⟩)) ∧ ∀ i ∈ fp', i ∈ fp ∨ H.length ≤ i := by
  have hlt := hI.lt
  obtain ⟨_, _, _, f1, rfl, ⟨a, rows, fp0, fps, rfl, ho, hp, rfl, hnd0⟩, ⟨a1, rfl, o1⟩, rfl, hnd⟩ := hI
  have hdis : ∀ i ∈ fp0, i ∉ fps.flatten := fun i hi hj => (List.nodup_append.1 hnd0).2.2 i hi i hj rfl
  have x01 : ∀ i ∈ f1, i ∉ fp0 := fun i hi hj => (List.nodup_append.1 hnd).2.2 i (by simp only [List.mem_append]; exact .inl hj) i hi rfl
  have x11 : ∀ i ∈ f1, i ∉ fps.flatten := fun i hi hj => (List.nodup_append.1 hnd).2.2 i (by simp only [List.mem_append]; exact .inr hj) i hi rfl
  obtain ⟨h1, h2, h3⟩ := hp.get ht
  obtain ⟨bid, blo, rfl, hf, hb, hbe, hm, hpre⟩ := ho.blk (by rintro rfl; simp at h1)
  obtain ⟨tl, htl⟩ := hpre
  refine ⟨bid, blo, rows[t], .sl a1 n.links.length, rfl, by simp [hf], blkAt_len hb, hb, hbe, hm, by rw [← htl, List.getElem?_append_left h1, List.getElem?_eq_getElem h1], h3.len, by rw [bAt_eq ht]; exact h3.rd, fun H1 l2 b f2 hk hr hf2 => ?_⟩
  have hb1 := hk.blk hb (by simp)
  have hlo := ho.lt
  have hl1 := o1.lt
  have hkl := hk.1
  obtain ⟨p1, p2, p3, p4⟩ := placeAt ho hp hdis ht hk hr hf2 hb1
  have eb : (some { blo with rows := blo.rows.set t l2 } : Option Blk) = some ⟨56, .wr, blo.rows.set t l2⟩ := by rw [← hbe, ← hm]
  rw [eb] at p1 p2 p3
  have o1' := o1.keep p3 x01
  have nd1 := ho.nodup
  have nd2 := p2.nodup
  have nd3 := o1.nodup
  have nf : (fp0 ++ (fps.set t f2).flatten).Nodup := nodup_app nd1 nd2 (fun i hi hj => by
    rcases p4 i hj with h | h
    · exact hdis i hi h
    · have := hlo i hi; omega)
  refine ⟨(fp0 ++ (fps.set t f2).flatten) ++ f1, ⟨_, _, _, f1, rfl, ⟨some (bid, 0), rows.set t l2, fp0, fps.set t f2, by simp [setBr], p1, p2, rfl, nf⟩, ⟨a1, rfl, o1'⟩, rfl, ?_⟩, p3.more (fun i hi _ => by simp [hi]), fun i hi => ?_⟩
  · refine nodup_app nf nd3 (fun i hi hj => ?_)
    rcases List.mem_append.1 hi with h | h
    · exact x01 i hj h
    · rcases p4 i h with h | h
      · exact x11 i hj h
      · have := hl1 i hj; omega
  · simp only [List.mem_append] at hi ⊢
    rcases hi with (h | h) | h
    · exact .inl (.inl (.inl h))
    · rcases p4 i h with h | h
      · exact .inl (.inl (.inr h))
      · exact .inr h
    · exact .inl (.inr h)

/-- What is drawn for a net makes one. -/
theorem netDrawn {xs : List Int} {L : List Link} {nx : List Int} (hx : xs.Nodup) (hr : ∀ x ∈ xs, 1 ≤ x ∧ x ≤ 9) (h1 : 1 ≤ xs.length) (h4 : xs.length ≤ 4) (hw : Wires L xs.length nx) (hL : L.length ≤ 6) : (netNew xs L).2 = true ∧ (netNew xs L).1.bridges.length = xs.length ∧ (netNew xs L).1.links = L ∧ (netNew xs L).1.ok = true := by
  have hlen : (newBs (endsOf L) xs).length = xs.length := by simp [newBs]; omega
  have htk : xs.take 6 = xs := List.take_of_length_le (by omega)
  have hat : ∀ i (hi : i < xs.length), (newBs (endsOf L) xs)[i]? = some (upB xs[i] (upAt (endsOf L) i)) := by
    intro i hi
    have := hr _ (List.getElem_mem hi)
    simp only [newBs, htk, List.getElem?_mapIdx, List.getElem?_eq_getElem hi, Option.map_some, newB, if_pos this]
  have hb : ∀ i (hi : i < xs.length), bAt (⟨newBs (endsOf L) xs, L⟩ : Net) i = upB xs[i] (upAt (endsOf L) i) := by
    intro i hi
    simp only [bAt, List.getD_eq_getElem?_getD, hat i hi]; rfl
  have hok : (⟨newBs (endsOf L) xs, L⟩ : Net).ok = true := by
    rw [Net.ok_iff, P_iff]
    have hn : nB (⟨newBs (endsOf L) xs, L⟩ : Net) = xs.length := hlen
    rw [hn]
    refine ⟨⟨h1, by omega⟩, hL, fun i hi => ?_, fun i j hij hj => ?_, fun l hl => ?_, hw.nd, fun i k hi hk => ?_⟩
    · rw [hb i hi]
      have := hr _ (List.getElem_mem hi)
      have pk : ∀ b, (pq b).ok = true := by intro b; cases b <;> decide
      have e1 : (upB xs[i] (upAt (endsOf L) i)).id = xs[i] := rfl
      refine Bridge.ok_of (fun p hp => ?_) (by rw [e1]; exact ⟨this.1, this.2, by simp [upB], by simp [upB]⟩)
      simp [upB] at hp
      rcases hp with rfl | rfl | rfl | rfl <;> exact pk _
    · unfold idB
      rw [hb i (by omega), hb j hj]
      show xs[i] ≠ xs[j]
      exact (List.pairwise_iff_getElem.1 hx) i j (by omega) hj hij
    · obtain ⟨c1, c2, c3, c4, c5, c6, c7, c8, c9⟩ := hw.lk l hl
      have b1 := hw.bd l.a.toNat
      have b2 := hw.bd l.b.toNat
      have e1 := hb l.a.toNat (by omega)
      have e2 := hb l.b.toNat (by omega)
      unfold nP
      rw [e1, e2]
      simp only [upB, List.length_cons, List.length_nil]
      refine ⟨c1, ⟨c2, by omega, c6, by omega⟩, ⟨c4, by omega, c8, by omega⟩⟩
    · unfold nP at hk
      unfold inf
      rw [hb i hi] at hk ⊢
      have hk4 : k < 4 := by simpa [upB] using hk
      have e : pt (upB xs[i] (upAt (endsOf L) i)) k = pq (upAt (endsOf L) i k) := by
        rcases (show k = 0 ∨ k = 1 ∨ k = 2 ∨ k = 3 by omega) with rfl | rfl | rfl | rfl <;> rfl
      rw [e]
      have : (pq (upAt (endsOf L) i k)).up = upAt (endsOf L) i k := by unfold pq; split <;> simp_all [desP]
      rw [this, upAt, decide_eq_true_iff]
  have : netNew xs L = (⟨newBs (endsOf L) xs, L⟩, true) := by unfold netNew; rw [if_pos hok]
  rw [this]
  exact ⟨rfl, hlen, rfl, hok⟩
theorem settle_fit {n : Net} (hn : n.P) (k : Int) : Fit n (settle n k) := by
  unfold settle
  split
  · exact (stN_ga hn _).1
  · exact Fit.refl hn
theorem settle_w {n : Net} (hn : n.ok = true) (k : Int) : NetW (settle n k) ∧ (settle n k).bridges.length = n.bridges.length ∧ (settle n k).links = n.links := by
  have := settle_fit ((Net.ok_iff n).1 hn) k
  exact ⟨NetW.of this.p, this.len, this.links⟩

def NetSt (H A : Heap) (c n K : Nat) : Prop := ∃ (l : List Lf) (m : Net) (fp : List Nat), blkAt A K = some ⟨27, .wr, [l]⟩ ∧ IsNet A l m fp ∧ NetW m ∧ 1 ≤ m.bridges.length ∧ (∀ i ∈ fp, H.length + 1 ≤ i ∧ i ≠ K) ∧ CurTo H A c n ∧ blkAt A H.length = some ⟨27, .wr, [[.sl none 0, .sl none 0]]⟩
theorem NetSt.next {H H1 H2 : Heap} {c n K : Nat} (h : NetSt H H1 c n K) (h2 : CurTo H1 H2 c n) (hc : c < H.length) (hK : H.length < K) : NetSt H H2 c n K := by
  obtain ⟨l, b, fp, h3, h4, hw, h1, h5, h7, h8⟩ := h
  exact ⟨l, b, fp, h2.1.blk h3 (by simp; omega), h4.keep h2.1 (fun k hk hk2 => by have := h5 k hk; simp at hk2; omega), hw, h1, h5, h7.next h2, h2.1.blk h8 (by simp; omega)⟩
theorem NetSt.app {H H1 : Heap} {c n K : Nat} (h : NetSt H H1 c n K) (hc : c < H.length) (hK : H.length < K) (G : Heap) : NetSt H (H1 ++ G) c n K := by
  have h7 : CurTo H H1 c n := by obtain ⟨_, _, _, _, _, _, _, _, h7, _⟩ := h; exact h7
  exact h.next ((CurTo.refl h7.2).app G) hc hK
theorem l10DrawRight {H : Heap} {c n : Nat} (hc : Cur H c n) : Runs env 89 [.ptr c 0 0] H fun v H' => (∃ (l : List Lf) (m : Net) (fp : List Nat), v = .agg l ∧ IsNet H' l m fp ∧ NetW m ∧ 1 ≤ m.bridges.length ∧ ∀ i ∈ fp, H.length ≤ i) ∧ CurTo H H' c n := by
  have hcl := hc.lt
  refine Runs.walk ok89 Try.func89 rfl (by simp [Try.f89]) fun Q hQ => ?_
  simp only [Try.f89, strip, stripL, stripI, stripG, chkT, tagsB, tagsL, tagD, addT, tagA, lookN, tagOp, elmT, ty22, ty24, ty25, ty33, ty54, ty58, ty95, ty122, Nat.reduceEqDiff, if_false, reduceIte, Option.getD_some, Option.getD_none, dstAt, dstOk, Nat.reduceLT, decide_true, if_true]
  obtain ⟨X, hX⟩ : ∃ X : Heap, X = H ++ [some ⟨27, .wr, [[.sl none 0, .sl none 0]]⟩] := ⟨_, rfl⟩
  have bzX : blkAt X H.length = some ⟨27, .wr, [[.sl none 0, .sl none 0]]⟩ := by rw [hX]; simp
  have hlX : X.length = H.length + 1 := by rw [hX]; simp
  have toX : CurTo H X c n := by rw [hX]; exact (CurTo.refl hc).app _
  simp
  rw [← hX]
  clear hX
  refine stpL_runs (l10DrawIds toX.2) ?_
  rintro _ B ⟨⟨q, xs, fx, rfl, ox, hxn, hxr, hx1, hx4, hfx⟩, htoB⟩
  have hxi : ∀ (k : Nat), X.length ≤ k → k ∉ [c] := fun k hm h => by simp at h; omega
  have toB := toX.next htoB
  have bzB := htoB.1.blk bzX (by simp; omega)
  obtain ⟨ax, rfl, ox'⟩ := id ox
  simp [builtinV, pureB, lenV]
  refine stpL_runs (l10DrawWires htoB.2 (m := (xs.length : Int)) (by omega) (by omega)) ?_
  rintro _ D ⟨⟨q2, L, nx, fl, rfl, oL, hw, hL6, hfl⟩, htoD⟩
  have toD := toB.next htoD
  have bzD := htoD.1.blk bzB (by simp; omega)
  have oxD := ox.keep htoD.1 (fun k hk => hxi k (hfx k hk))
  simp
  refine stpL_runs (specNetNew_is oxD.rd (by omega) oL.rd (by omega)) ?_
  rintro _ _ ⟨l, fp, rfl, oN, ⟨⟨G, rfl⟩, hfp⟩⟩
  obtain ⟨n1, n2, n3, n4⟩ := netDrawn hxn hxr hx1 hx4 hw hL6
  generalize (netNew xs L).1 = m0 at oN n2 n3 n4
  have hw0 := NetW.ofOk n4
  have hLn := oN.len
  have hTn : l.take l.length = l := List.take_length
  rw [hLn] at hTn
  simp [hLn, hTn]
  obtain ⟨K, hK⟩ : ∃ K, K = D.length + G.length := ⟨_, rfl⟩
  have hDl := toD.len
  have hBl := htoB.len
  have hDl2 := htoD.len
  have hKl : H.length < K := by omega
  have hlt := oN.lt
  have hKe : (D ++ G).length = K := by simp [hK]
  have hfp' : ∀ k ∈ fp, H.length + 1 ≤ k ∧ k ≠ K := fun k hk => by
    have a1 := hfp k hk
    have a2 := hlt k hk
    rw [hKe] at a2
    omega
  rw [← hK]
  have hKe2 : (D ++ (G ++ [some ⟨27, .wr, [l]⟩]) : Heap).length = K + 1 := by simp [hK]
  obtain ⟨E, hE⟩ : ∃ E : Heap, E = D ++ (G ++ [some ⟨27, .wr, [l]⟩]) := ⟨_, rfl⟩
  obtain ⟨F, hF⟩ : ∃ F : Heap, F = D ++ (G ++ [some ⟨27, .wr, [l]⟩, some ⟨3, .wr, [[.i .i64 0], [.i .i64 1], [.i .i64 5], [.i .i64 30]]⟩]) := ⟨_, rfl⟩
  have hEF : F = E ++ [some ⟨3, .wr, [0, 1, 5, 30].map encI⟩] := by rw [hF, hE]; simp [encI]
  have bKF : blkAt F K = some ⟨27, .wr, [l]⟩ := by rw [hF, hK]; simp
  have toF : CurTo H F c n := by rw [hF, ← List.append_assoc]; exact (toD.app _).app _
  have bzF : blkAt F H.length = some ⟨27, .wr, [[.sl none 0, .sl none 0]]⟩ := by rw [hF]; exact blkAt_app bzD _
  have oF : IsNet F l m0 fp := by rw [hF, ← List.append_assoc]; exact oN.app _
  rw [← hE] at hKe2
  have hsl : Sl F 3 (some (K + 1, 0)) ([0, 1, 5, 30].map encI) := by
    rw [hEF, ← hKe2]
    exact Sl.of (by simp [encI])
  rw [← hF, show D.length + (G.length + 1) = K + 1 by omega]
  clear hE hF hEF oN hfp hlt hKe hK
  refine stpL_cur (l1PickInt (xs := [0, 1, 5, 30]) toF.2 hsl (by simp) (by simp)) toF.2 (by rintro _ _ ⟨_, h⟩; exact h) ?_
  rintro _ A ⟨⟨r, rfl, hr⟩, htoA⟩
  have hrI : I64 r := by simp at hr; rcases hr with rfl | rfl | rfl | rfl <;> exact ⟨by omega, by omega⟩
  have toA := toF.next htoA
  have oA := oF.keep htoA.1 (fun k hk hk2 => by have := hfp' k hk; simp at hk2; omega)
  have bKA := htoA.1.blk bKF (by simp; omega)
  have bzA := htoA.1.blk bzF (by simp; omega)
  obtain ⟨sw, sl, -⟩ := settle_w n4 r
  simp
  refine stpL_runs_f (specSettle_is oA.rd hw0.sz r hrI) (by rintro _ _ ⟨_, _, _, _, hf⟩; exact hf.1) ?_
  rintro _ _ ⟨l2, fp2, rfl, o2, ⟨⟨G2, rfl⟩, hfp2⟩⟩
  generalize settle m0 r = m2 at o2 sw sl
  have hL2 := o2.len
  have hT2 : l2.take l2.length = l2 := List.take_length
  rw [hL2] at hT2
  have hlt2 := o2.lt
  have bKG := blkAt_app bKA G2
  have hKA := blkAt_len bKA
  have hKG := blkAt_len bKG
  have hl0 : l.drop 2 = [] := by rw [← hLn]; exact List.drop_length
  simp [bKG, hKG, hL2, hT2, hl0, hLn]
  have st0 : NetSt H ((A ++ G2).set K (some ⟨27, .wr, [l2]⟩)) c n K := by
    refine ⟨l2, m2, fp2, blkAt_set hKG, o2.keep (Keep.set _ _) (fun k hk hk2 => ?_), sw, by omega, fun k hk => ?_, (toA.app G2).set (by omega) (by omega) _, by rw [blkAt_set_ne (by omega)]; exact blkAt_app bzA G2⟩
    · have := hfp2 k hk; simp at hk2; omega
    · have := hfp2 k hk; have := toA.len; omega
  obtain ⟨Z, hZ⟩ : ∃ Z : Heap, Z = (A ++ G2).set K (some ⟨27, .wr, [l2]⟩) := ⟨_, rfl⟩
  rw [← hZ] at st0 ⊢
  clear hZ
  have ret : ∀ (HF : Heap) (tm : Ab.T), tm 2 = .ptr H.length 0 0 → (∃ (l : List Lf) (m : Net) (fp : List Nat), blkAt HF H.length = some ⟨27, .wr, [l]⟩ ∧ IsNet HF l m fp ∧ NetW m ∧ 1 ≤ m.bridges.length ∧ (∀ k ∈ fp, H.length ≤ k) ∧ CurTo H HF c n) → Q .ret tm HF := by
    rintro HF tm t2 ⟨l, m, fp, h1, h2, h3, h4, h5, h6⟩
    have hL := h2.len
    have hT : l.take l.length = l := List.take_length
    rw [hL] at hT
    refine hQ _ _ _ (by simp) ?_
    have hres : resT env.τ tm HF (Try.f89.results.toList) = some [W.agg l] := by simp [Try.f89, t2, h1, hL, hT]
    rw [hres, optK_some]
    refine ⟨?_, h6.leave hc _⟩
    rcases leave_opt H HF [W.agg l] with e | ⟨e, hr⟩ <;> rw [e]
    · exact ⟨l, m, fp, rfl, h2, h3, h4, h5⟩
    · exact ⟨l, m, [], rfl, h2.free (by simpa using hr) H, h3, h4, by simp⟩
  clear hw n1 n2 n3 n4 hL2 hT2 hlt2 o2
  refine wpS_loop (fun j tm H' => ∃ i : Nat, i + j = 4 ∧ tm 0 = .ptr c 0 0 ∧ tm 2 = .ptr H.length 0 0 ∧ tm 4 = .ptr K 0 0 ∧ tm 6 = .int i ∧ NetSt H H' c n K) 4 (by rw [env_K]; omega) ⟨0, by simp, by simp, by simp, by simp, by simp, st0⟩ ?_
  rintro j tm A1 hj ⟨i, hij, t0, t2, t4, t6, st⟩ Q2 hn2 he2 hr2
  have hcA1 : Cur A1 c n := by obtain ⟨_, _, _, _, _, _, _, _, h7, _⟩ := st; exact h7.2
  simp [t0, t6]
  refine stpL_runs (l1Below hcA1 4) ?_
  rintro _ B1 ⟨⟨u, rfl, hu0, hu1, -⟩, htoB1⟩
  have hu := hu1 (by omega)
  have st1 := st.next htoB1 hcl hKl
  clear st
  have hw : IntKind.i64.wrap ((i : Int) + 1) = (i : Int) + 1 := wrap64 (by omega) (by omega)
  obtain ⟨l1, m1, f1, k1, o1, w1, p1, hf1, to1, z1⟩ := id st1
  have d1 := blkAt_len k1
  obtain ⟨q0, q1, f10, f11, e1, ⟨a1, rows1, fa, fb, e2, _⟩, _⟩ := id o1
  simp only [Net.enc] at e1
  subst e2
  have p1I : 0 < (m1.bridges.length : Int) := by omega
  have p1N : 0 < m1.bridges.length := by omega
  by_cases hc2 : (i : Int) < u
  · simp [hc2, t0, t2, t4, t6, k1, d1, e1, builtinV, pureB, lenV, p1N]
    refine stpL_runs (l1Below to1.2 m1.bridges.length) ?_
    rintro _ C1 ⟨⟨k, rfl, hk0, hk1, -⟩, htoC1⟩
    have hk := hk1 (by omega)
    obtain ⟨k, rfl⟩ : ∃ x : Nat, k = (x : Int) := ⟨k.toNat, by omega⟩
    have hkN : k < m1.bridges.length := by omega
    simp [t0, t2, t4, t6]
    refine stpL_runs (l8DrawIn htoC1.2) ?_
    rintro _ D1 ⟨⟨x, rfl⟩, htoD1⟩
    have hto2 := htoC1.next htoD1
    have st2 := ((st1.next hto2 hcl hKl).app hcl hKl [some ⟨62, .wr, [x.enc]⟩])
    have o3 := (o1.keep hto2.1 (fun k hk hk2 => by have := hf1 k hk; simp at hk2; omega)).app [some ⟨62, .wr, [x.enc]⟩]
    have k3 := blkAt_app (hto2.1.blk k1 (by simp; omega)) [some ⟨62, .wr, [x.enc]⟩]
    have z3 := blkAt_app (hto2.1.blk z1 (by simp; omega)) [some ⟨62, .wr, [x.enc]⟩]
    have to3 : CurTo H (D1 ++ [some ⟨62, .wr, [x.enc]⟩]) c n := (to1.next hto2).app _
    have bx : blkAt (D1 ++ [some ⟨62, .wr, [x.enc]⟩]) D1.length = some ⟨62, .wr, [x.enc]⟩ := by simp
    simp only [In.enc] at bx o3 k3 z3 to3 st2
    simp [In.enc]
    obtain ⟨D2, hD2⟩ : ∃ D2 : Heap, D2 = D1 ++ [some ⟨62, .wr, [[.i .i64 x.kind, .i .i64 x.port, .i .i64 x.vec.root, .i .i64 x.vec.cost, .i .i64 x.vec.bridge, .i .i64 x.vec.port, .i .i64 x.hops, .b x.up]]⟩] := ⟨_, rfl⟩
    rw [← hD2] at bx o3 k3 z3 to3 st2 ⊢
    have dx := blkAt_len bx
    have d3 := blkAt_len k3
    clear hD2
    by_cases hk1 : x.kind = 1
    · obtain ⟨bid, blo, l0, q1', e3, hbm1, hbl, hbb, hbe, hbm, hrow, hL0, hrd, hput⟩ := netPut o3 hkN
      rw [e1] at e3
      simp at e3
      obtain ⟨e5, -⟩ := e3
      have hT0 : l0.take l0.length = l0 := List.take_length
      rw [hL0] at hT0
      have hD0 : l0.drop 2 = [] := by rw [← hL0]; exact List.drop_length
      have hsz : (bAt m1 k).sz ≤ 1048576 := by
        have := (Bridge.ok_all (bAt_ok w1 hkN)).2.2.2.2
        unfold Bridge.sz; omega
      have hrun := specReact hrd hsz x
      simp only [In.enc] at hrun
      simp [hk1, t0, t2, t4, t6, k3, d3, bx, dx, e1, e5, indexAddrV, elemIs, hbl, hbb, hbe, hk, hrow, hL0, hT0, In.enc]
      rw [hk1] at hrun
      refine stpL_runs_f hrun (by rintro _ _ ⟨_, _, _, _, _, _, _, hf, _⟩; exact hf.1) ?_
      rintro _ _ ⟨l5, f5, q5, fq5, rfl, o5, oq5, ⟨⟨G5, rfl⟩, hf5⟩, -⟩
      have hL5 := o5.len
      have hT5 : l5.take l5.length = l5 := List.take_length
      rw [hL5] at hT5
      have hbb5 := blkAt_app hbb G5
      have hid5 := blkAt_len hbb5
      obtain ⟨f6, o6, k6, hf6⟩ := hput _ l5 _ f5 (Keep.app [] D2 G5) o5 (fun j hj => hf5 j (by simp [hj]))
      have st6 : NetSt H ((D2 ++ G5).set bid (some ⟨56, .wr, blo.rows.set k l5⟩)) c n K := by
        refine ⟨l1, _, f6, k6.blk k3 (fun hh => (hf1 K hh).2 rfl), o6, w1.set hkN (reactB_ok _ (bAt_ok w1 hkN)) (reactB_len _ _), by simp [setBr]; omega, fun i hi => ?_, to3.own k6 (fun i hi => by have := hf1 i hi; omega) hcl, k6.blk z3 (fun hh => by have := hf1 _ hh; omega)⟩
        rcases hf6 i hi with h | h
        · exact hf1 i h
        · omega
      simp [hbb5, hid5, hbe, hbm, hk, hrow, hL0, hL5, hT5, hD0, indexAddrV, elemIs, t6, hw]
      exact hn2 (j - 1) _ _ (by omega) ⟨i + 1, by omega, by simp [t0], by simp [t2], by simp [t4], by simp, st6⟩
    · simp [hk1, bx, dx, t6, hw]
      exact hn2 (j - 1) _ _ (by omega) ⟨i + 1, by omega, by simp [t0], by simp [t2], by simp [t4], by simp [hw], st2⟩
  · simp [hc2, t0, t2, t4, t6]
    refine he2 _ _ _ ?_
    have hL1 := o1.len
    have hT1 : l1.take l1.length = l1 := List.take_length
    rw [hL1] at hT1
    have dz1 := blkAt_len z1
    simp [t2, t4, k1, d1, hL1, hT1, z1, dz1]
    refine ret _ _ (by simp [t2]) ⟨l1, m1, f1, blkAt_set dz1, o1.keep (Keep.set _ _) (fun k hk hk2 => by have := hf1 k hk; simp at hk2; omega), w1, p1, fun k hk => by have := hf1 k hk; omega, to1.set (Nat.le_refl _) hcl _⟩

theorem cutKeep {f : List Nat} {A B : Heap} (h : Keep f A B) : Keep f A (B.take A.length) := ⟨by have := h.1; simp; omega, fun id hi hn => by rw [List.getElem?_take_of_lt hi]; exact h.2 id hi hn⟩
theorem takeKeep (n : Nat) (B : Heap) : Keep [] (B.take n) B := ⟨by simp; omega, fun id hi _ => by simp at hi; rw [List.getElem?_take_of_lt (by omega)]⟩
/-- A bridge put into a net, where meanwhile a cursor went on. -/
theorem netPutC {A B : Heap} {c : Nat} {l : List Lf} {n : Net} {fp : List Nat} (hI : IsNet A l n fp) (hk : Keep [c] A B) (hc : c ∉ fp) {t : Nat} (ht : t < n.bridges.length) :
    ∃ (bid : Nat) (blo : Blk) (l0 : List Lf) (q1 : Lf), l = [.sl (some (bid, 0)) n.bridges.length, q1] ∧ bid ∈ fp ∧ bid < A.length ∧ blkAt B bid = some blo ∧ blo.elem = 56 ∧ blo.md = .wr ∧ blo.rows[t]? = some l0 ∧ l0.length = 2 ∧
      ∀ (l2 : List Lf) (b : Bridge) (f2 : List Nat), IsBridge B l2 b f2 → (∀ i ∈ f2, A.length ≤ i) → ∃ fp', IsNet (B.set bid (some ⟨56, .wr, blo.rows.set t l2⟩)) l (setBr n t b) fp' ∧ ∀ i ∈ fp', i ∈ fp ∨ A.length ≤ i := by
  have k1 := cutKeep hk
  have k2 := takeKeep A.length B
  have hDl : (B.take A.length).length = A.length := by have := hk.1; simp; omega
  have hID := hI.keep k1 (fun i hi h => by simp at h; subst h; exact hc hi)
  obtain ⟨bid, blo, l0, q1, rfl, h1, h2, h3, h4, h5, h6, h7, -, hput⟩ := netPut hID ht
  refine ⟨bid, blo, l0, q1, rfl, h1, by rw [hDl] at h2; exact h2, k2.blk h3 (by simp), h4, h5, h6, h7, fun l2 b f2 hb hf => ?_⟩
  obtain ⟨fp', z1, -, z3⟩ := hput B l2 b f2 k2 hb (fun i hi => by rw [hDl]; exact hf i hi)
  exact ⟨fp', z1, fun i hi => by have := z3 i hi; rwa [hDl] at this⟩
theorem netSmall {n : Net} (h : n.bridges.length ≤ 5) (h2 : ∀ b ∈ n.bridges, b.ports.length ≤ 6) (h3 : n.links.length ≤ 7) : n.sz ≤ 2000 := by
  have key : ∀ bs : List Bridge, (∀ b ∈ bs, b.ports.length ≤ 6) → (bs.map Bridge.sz).sum ≤ 6 * bs.length := by
    intro bs
    induction bs with
    | nil => simp
    | cons b bs ih =>
      intro h
      have h1 := h b (by simp)
      have h2 := ih (fun c hc => h c (by simp [hc]))
      simp only [List.map_cons, List.sum_cons, List.length_cons]
      unfold Bridge.sz at h2 ⊢
      omega
  have h1 := key _ h2
  unfold Net.sz BridgeS.sz
  omega

theorem l10Draw {H : Heap} {c n : Nat} (hc : Cur H c n) : Runs env 49 [.ptr c 0 0] H fun v H' => (∃ (l : List Lf) (m : Net) (fp : List Nat), v = .agg l ∧ IsNet H' l m fp ∧ m.sz ≤ 2000 ∧ ∀ i ∈ fp, H.length ≤ i) ∧ CurTo H H' c n := by
  have hcl := hc.lt
  refine Runs.walk ok49 Try.func49 rfl (by simp [Try.f49]) fun Q hQ => ?_
  simp only [Try.f49, strip, stripL, stripI, stripG, chkT, tagsB, tagsL, tagD, addT, tagA, lookN, tagOp, elmT, ty22, ty24, ty25, ty33, ty54, ty58, ty95, ty122, Nat.reduceEqDiff, if_false, reduceIte, Option.getD_some, Option.getD_none, dstAt, dstOk, Nat.reduceLT, decide_true, if_true]
  obtain ⟨X, hX⟩ : ∃ X : Heap, X = H ++ [some ⟨27, .wr, [[.sl none 0, .sl none 0]]⟩] := ⟨_, rfl⟩
  have bzX : blkAt X H.length = some ⟨27, .wr, [[.sl none 0, .sl none 0]]⟩ := by rw [hX]; simp
  have hlX : X.length = H.length + 1 := by rw [hX]; simp
  have toX : CurTo H X c n := by rw [hX]; exact (CurTo.refl hc).app _
  simp
  rw [← hX]
  clear hX
  have ret : ∀ (HF : Heap) (tm : Ab.T), tm 2 = .ptr H.length 0 0 → (∃ (l : List Lf) (m : Net) (fp : List Nat), blkAt HF H.length = some ⟨27, .wr, [l]⟩ ∧ IsNet HF l m fp ∧ m.sz ≤ 2000 ∧ (∀ k ∈ fp, H.length ≤ k) ∧ CurTo H HF c n) → Q .ret tm HF := by
    rintro HF tm t2 ⟨l, m, fp, h1, h2, h3, h5, h6⟩
    have hL := h2.len
    have hT : l.take l.length = l := List.take_length
    rw [hL] at hT
    refine hQ _ _ _ (by simp) ?_
    have hres : resT env.τ tm HF (Try.f49.results.toList) = some [W.agg l] := by simp [Try.f49, t2, h1, hL, hT]
    rw [hres, optK_some]
    refine ⟨?_, h6.leave hc _⟩
    rcases leave_opt H HF [W.agg l] with e | ⟨e, hr⟩ <;> rw [e]
    · exact ⟨l, m, fp, rfl, h2, h3, h5⟩
    · exact ⟨l, m, [], rfl, h2.free (by simpa using hr) H, h3, by simp⟩
  refine stpL_runs (l10DrawRight toX.2) ?_
  rintro _ B0 ⟨⟨l, m, fp, rfl, om0, hw, hm1, hfp⟩, htoB⟩
  have hL := om0.len
  have hT : l.take l.length = l := List.take_length
  rw [hL] at hT
  have hD : l.drop 2 = [] := by rw [← hL]; exact List.drop_length
  have hlt := om0.lt
  obtain ⟨B, hB⟩ : ∃ B : Heap, B = B0 ++ [some ⟨27, .wr, [l]⟩] := ⟨_, rfl⟩
  obtain ⟨K, hK⟩ : ∃ K, K = B0.length := ⟨_, rfl⟩
  have toB : CurTo H B c n := by rw [hB]; exact (toX.next htoB).app _
  have om : IsNet B l m fp := by rw [hB]; exact om0.app _
  have bK : blkAt B K = some ⟨27, .wr, [l]⟩ := by rw [hB, hK]; simp
  have bz : blkAt B H.length = some ⟨27, .wr, [[.sl none 0, .sl none 0]]⟩ := by rw [hB]; exact blkAt_app (htoB.1.blk bzX (by simp; omega)) _
  have hfp2 : ∀ k ∈ fp, H.length + 1 ≤ k ∧ k < K := fun k hk => by have := hfp k hk; have := hlt k hk; omega
  have hKl : H.length < K := by have := htoB.len; omega
  simp [hL, hT]
  rw [← hB, ← hK]
  clear hB om0 hlt hfp hK
  obtain ⟨hb5, hl6⟩ := hw.len
  have hp4 : ∀ b ∈ m.bridges, b.ports.length ≤ 4 := fun b hb => (Bridge.ok_all (hw.ok b hb)).2.2.2.2
  refine stpL_runs (l1Below toB.2 10) ?_
  rintro _ C ⟨⟨u, rfl, hu0, hu1, -⟩, htoC⟩
  have toC := toB.next htoC
  have omC := om.keep htoC.1 (fun k hk hk2 => by have := hfp2 k hk; simp at hk2; omega)
  have bKC := htoC.1.blk bK (by simp; omega)
  have bzC := htoC.1.blk bz (by simp; omega)
  have dKC := blkAt_len bKC
  have dzC := blkAt_len bzC
  have hcf : c ∉ fp := fun h => by have := hfp2 c h; omega
  have hne3 : ∀ (Y : Heap) (y : Option Blk), blkAt (List.set Y K y) H.length = blkAt Y H.length := fun Y y => blkAt_set_ne (by omega)
  by_cases c0 : u = 0
  · obtain ⟨q0, q1, f0, f1, e0, ⟨a, rows, fa, fb, e1, _⟩, _⟩ := id omC
    simp only [Net.enc] at e0
    subst e1
    simp [c0, bKC, dKC, e0]
    refine stpL_cur (l8Draw toC.2) toC.2 (by rintro _ _ ⟨_, h⟩; exact h) ?_
    rintro _ D ⟨⟨l2, b, f2, rfl, ob, hbp1, hbp6, hf2⟩, htoD⟩
    have toD := toC.next htoD
    obtain ⟨bid, blo, l0, q1', e3, hbf, hbl, hbb, hbe, hbm, hrow, hL0, hput⟩ := netPutC omC htoD.1 hcf (show 0 < m.bridges.length by omega)
    obtain ⟨f3, o3, hf3⟩ := hput l2 b f2 ob hf2
    rw [e0] at e3
    simp at e3
    obtain ⟨e5, -⟩ := e3
    have hLb := ob.len
    have hTb : l2.take l2.length = l2 := List.take_length
    rw [hLb] at hTb
    have hD0 : l0.drop 2 = [] := by rw [← hL0]; exact List.drop_length
    have db := blkAt_len hbb
    have hbid := hfp2 bid hbf
    have bKD := htoD.1.blk bKC (by simp; omega)
    have bzD := htoD.1.blk bzC (by simp; omega)
    have m1N : 0 < m.bridges.length := by omega
    have m1I : 0 < (m.bridges.length : Int) := by omega
    simp [e5, indexAddrV, elemIs, hbb, db, hbe, hbm, hrow, hL0, hLb, hTb, hD0, m1N, m1I]
    obtain ⟨E, hE⟩ : ∃ E : Heap, E = D.set bid (some ⟨56, .wr, blo.rows.set 0 l2⟩) := ⟨_, rfl⟩
    have bKE : blkAt E K = some ⟨27, .wr, [l]⟩ := by rw [hE, blkAt_set_ne (by omega)]; exact bKD
    have bzE : blkAt E H.length = some ⟨27, .wr, [[.sl none 0, .sl none 0]]⟩ := by rw [hE, blkAt_set_ne (by omega)]; exact bzD
    have toE : CurTo H E c n := by rw [hE]; exact toD.set (by omega) (by omega) _
    rw [← hE] at o3 ⊢
    have dKE := blkAt_len bKE
    have dzE := blkAt_len bzE
    have hL3 : l.length = 2 := hL
    have hlr := hL
    rw [e0, e5] at bKE hT
    simp [bKE, dKE, bzE, dzE]
    refine ret _ _ (by simp) ⟨l, setBr m 0 b, f3, by rw [e0, e5]; exact blkAt_set dzE, o3.keep (Keep.set _ _) (fun k hk hk2 => ?_), ?_, fun k hk => ?_, toE.set (Nat.le_refl _) hcl _⟩
    · simp at hk2
      rcases hf3 k hk with h | h
      · have := hfp2 k h; omega
      · omega
    · refine netSmall (by simp [setBr]; omega) (fun y hy => ?_) (by simp only [setBr]; omega)
      simp only [setBr] at hy
      rcases List.mem_or_eq_of_mem_set hy with h | h
      · have := hp4 y h; omega
      · rw [h]; exact hbp6
    · rcases hf3 k hk with h | h
      · have := hfp2 k h; omega
      · omega
  · by_cases c1 : u = 1
    · obtain ⟨q0, q1, f0, f1, e0, i0, ⟨a1, e1, o1⟩, hf, hnd⟩ := id omC
      simp only [Net.enc] at e0
      subst e1
      simp [c0, c1, bKC, dKC, e0]
      refine stpL_cur (l1Below toC.2 6) toC.2 (by rintro _ _ ⟨_, h⟩; exact h) ?_
      rintro _ D1 ⟨⟨v1, rfl, v10, v11, -⟩, to1⟩
      have v12 := v11 (by omega)
      have w1 : IntKind.i64.wrap (v1 - 1) = v1 - 1 := wrap64 (by omega) (by omega)
      simp [w1]
      refine stpL_cur (l1Below to1.2 5) to1.2 (by rintro _ _ ⟨_, h⟩; exact h) ?_
      rintro _ D2 ⟨⟨v2, rfl, v20, v21, -⟩, to2⟩
      have v22 := v21 (by omega)
      simp
      refine stpL_cur (l1Below to2.2 4) to2.2 (by rintro _ _ ⟨_, h⟩; exact h) ?_
      rintro _ D3 ⟨⟨v3, rfl, v30, v31, -⟩, to3⟩
      have v32 := v31 (by omega)
      simp
      refine stpL_cur (l1Below to3.2 5) to3.2 (by rintro _ _ ⟨_, h⟩; exact h) ?_
      rintro _ D4 ⟨⟨v4, rfl, v40, v41, -⟩, to4⟩
      have v42 := v41 (by omega)
      have w4 : IntKind.i64.wrap (v4 - 1) = v4 - 1 := wrap64 (by omega) (by omega)
      have toD4 := ((to1.next to2).next to3).next to4
      have toD := toC.next toD4
      have bKD := toD4.1.blk bKC (by simp; omega)
      have bzD := toD4.1.blk bzC (by simp; omega)
      have hf0 : ∀ k ∈ f0, k ∈ fp := fun k hk => by rw [hf]; simp [hk]
      have hf1 : ∀ k ∈ f1, k ∈ fp := fun k hk => by rw [hf]; simp [hk]
      have i0D := i0.keep okBridge toD4.1 (fun k hk hk2 => by have := hfp2 k (hf0 k hk); simp at hk2; omega)
      have o1D := o1.keep toD4.1 (fun k hk hk2 => by have := hfp2 k (hf1 k hk); simp at hk2; omega)
      simp [w4]
      refine stpL_append (e := 50) (rows := m.links.map Link.enc) (ys := [Link.enc ⟨v1 - 1, v2, v3, v4 - 1⟩]) (o1D.app _) (Sl.of (by simp [Link.enc])) rfl rfl rfl (by simp) (by simp; omega) (by simp) rfl fun a2 E0 fc hoE hkE hfE => ?_
      have dKD := blkAt_len bKD
      have dzD := blkAt_len bzD
      have kE : Keep f1 D4 E0 := hkE.base
      have bKE := kE.blk bKD (fun h => by have := hfp2 K (hf1 K h); omega)
      have bzE := kE.blk bzD (fun h => by have := hfp2 _ (hf1 _ h); omega)
      have dKE := blkAt_len bKE
      have dzE := blkAt_len bzE
      have toE : CurTo H E0 c n := toD.own kE (fun k hk => by have := hfp2 k (hf1 k hk); omega) hcl
      have hfc : ∀ k ∈ fc, k ∈ f1 ∨ D4.length ≤ k := fun k hk => by
        rcases hfE k hk with h | h
        · exact .inl h
        · simp at h; exact .inr (by omega)
      simp [bKE, dKE, e0]
      obtain ⟨E, hE⟩ : ∃ E : Heap, E = E0.set K (some ⟨27, .wr, [[q0, .sl a2 (m.links.length + 1)]]⟩) := ⟨_, rfl⟩
      have bK2 : blkAt E K = some ⟨27, .wr, [[q0, .sl a2 (m.links.length + 1)]]⟩ := by rw [hE]; exact blkAt_set dKE
      have bz2 : blkAt E H.length = some ⟨27, .wr, [[.sl none 0, .sl none 0]]⟩ := by rw [hE, blkAt_set_ne (by omega)]; exact bzE
      have toE2 : CurTo H E c n := by rw [hE]; exact toE.set (by omega) (by omega) _
      have dK2 := blkAt_len bK2
      have dz2 := blkAt_len bz2
      have kS : Keep [K] E0 E := by rw [hE]; exact Keep.set _ _
      have nd := hnd
      rw [hf, List.nodup_append] at nd
      have x01 : ∀ k ∈ f0, k ∉ f1 := fun k h1 h2 => nd.2.2 k h1 k h2 rfl
      have i0E := (i0D.keep okBridge kE (fun k hk hk2 => x01 k hk hk2)).keep okBridge kS (fun k hk hk2 => by have := hfp2 k (hf0 k hk); simp at hk2; omega)
      have l4 : K < D4.length := dKD
      have o1E : Own E 50 a2 ((m.links ++ [(⟨v1 - 1, v2, v3, v4 - 1⟩ : Link)]).map Link.enc) fc := by
        have := hoE.keep kS (fun k hk hk2 => by
          simp at hk2
          rcases hfc k hk with h | h
          · have := hfp2 k (hf1 k h); omega
          · omega)
        simpa using this
      have ndN : (f0 ++ fc).Nodup := nodup_app nd.1 hoE.nodup (fun k h1 h2 => by
        rcases hfc k h2 with h | h
        · exact x01 k h1 h
        · have := hfp2 k (hf0 k h1); omega)
      have nE : IsNet E [q0, .sl a2 (m.links.length + 1)] ⟨m.bridges, m.links ++ [⟨v1 - 1, v2, v3, v4 - 1⟩]⟩ (f0 ++ fc) := ⟨q0, _, f0, fc, rfl, i0E, ⟨a2, by simp, o1E⟩, rfl, ndN⟩
      rw [← hE]
      simp [bK2, dK2, bz2, dz2]
      refine ret _ _ (by simp) ⟨_, _, f0 ++ fc, blkAt_set dz2, nE.keep (Keep.set _ _) (fun k hk hk2 => ?_), ?_, fun k hk => ?_, toE2.set (Nat.le_refl _) hcl _⟩
      · simp at hk2
        rcases List.mem_append.1 hk with h | h
        · have := hfp2 k (hf0 k h); omega
        · rcases hfc k h with h | h
          · have := hfp2 k (hf1 k h); omega
          · omega
      · exact netSmall (by simp only; omega) (fun y hy => by have := hp4 y hy; omega) (by simp; omega)
      · rcases List.mem_append.1 hk with h | h
        · have := hfp2 k (hf0 k h); omega
        · rcases hfc k h with h | h
          · have := hfp2 k (hf1 k h); omega
          · omega
    · have hT2 := hT
      simp [c0, c1, bKC, dKC, hL, hT, bzC, dzC]
      refine ret _ _ (by simp) ⟨l, m, fp, blkAt_set dzC, omC.keep (Keep.set _ _) (fun k hk hk2 => by have := hfp2 k hk; simp at hk2; omega), ?_, fun k hk => by have := hfp2 k hk; omega, toC.set (Nat.le_refl _) hcl _⟩
      exact netSmall (by omega) (fun y hy => by have := hp4 y hy; omega) (by omega)

theorem netDrawNetOk {H : Heap} {a : Option (Nat × Nat)} {bs : List Int} (hs : Sl H 5 a (bs.map encU)) (hn : bs.length ≤ 1048576) : Runs env 18 [.w (.lf (.sl a bs.length))] H fun v H' => (∃ (l : List Lf) (m : Net) (fp : List Nat), v = .agg l ∧ IsNet H' l m fp ∧ m.sz ≤ 2000) ∧ Keep [] H H' := by
  refine Runs.walk ok18 Try.func18 rfl (by simp [Try.f18]) fun Q hQ => ?_
  simp only [Try.f18, strip, stripL, stripI, stripG, chkT, tagsB, tagsL, tagD, addT, tagA, lookN, tagOp, elmT, ty22, ty24, ty25, ty33, ty54, ty58, ty95, ty122, Nat.reduceEqDiff, if_false, reduceIte, Option.getD_some, Option.getD_none, dstAt, dstOk, Nat.reduceLT, decide_true, if_true]
  obtain ⟨X0, hX0⟩ : ∃ X0 : Heap, X0 = H ++ [some ⟨27, .wr, [[.sl none 0, .sl none 0]]⟩] := ⟨_, rfl⟩
  have bz0 : blkAt X0 H.length = some ⟨27, .wr, [[.sl none 0, .sl none 0]]⟩ := by rw [hX0]; simp
  have k0 : Keep [] H X0 := by rw [hX0]; exact Keep.app _ _ _
  have hl0 : X0.length = H.length + 1 := by rw [hX0]; simp
  have hs0 : Sl X0 5 a (bs.map encU) := by rw [hX0]; exact hs.app _
  simp
  rw [← hX0]
  refine stpL_runs (l1New hs0 hn) ?_
  rintro _ X ⟨c, rfl, hc, hcl, hk⟩
  have bz := hk.blk bz0 (by simp)
  simp
  refine stpL_runs (l10Draw hc) ?_
  rintro _ Y ⟨⟨l, m, fp, rfl, om, hms, hfp⟩, hto⟩
  have bz2 := hto.1.blk bz (fun h => by simp at h; omega)
  have hY := blkAt_len bz2
  have hX := blkAt_len bz
  have hL := om.len
  have hT : l.take l.length = l := List.take_length
  rw [hL] at hT
  simp [bz2, hY, hL, hT, -set_lt]
  refine hQ _ _ _ (by simp) ?_
  obtain ⟨HF, hHF⟩ : ∃ HF : Heap, HF = Y.set H.length (some ⟨27, .wr, [l]⟩) := ⟨_, rfl⟩
  rw [← hHF]
  have b2 : blkAt HF H.length = some ⟨27, .wr, [l]⟩ := by rw [hHF]; exact blkAt_set hY
  have kF : Keep [H.length] Y HF := by rw [hHF]; exact Keep.set _ _
  have kA : Keep [] H HF := ((k0.next hk (by simp)).next hto.1 (by simp; omega)).next kF (by simp)
  have oF := om.keep kF (fun i hi h => by have := hfp i hi; simp at h; omega)
  simp [Try.f18, b2, hL, hT]
  rcases leave_opt H HF [W.agg l] with e | ⟨e, hr⟩ <;> rw [e]
  · exact ⟨⟨m, ⟨fp, oF⟩, hms⟩, kA⟩
  · exact ⟨⟨m, ⟨[], oF.free (by simpa using hr) H⟩, hms⟩, Keep.refl _ _⟩

theorem netDrawRound {H : Heap} {a : Option (Nat × Nat)} {bs : List Int} (hs : Sl H 5 a (bs.map encU)) (hn : bs.length ≤ 1048576) : Runs env 10 [.w (.lf (.sl a bs.length))] H fun v H' => (∃ (l : List Lf) (m : Net) (fp : List Nat), v = .agg l ∧ IsNet H' l m fp ∧ m.sz ≤ 2000) ∧ Keep [] H H' := by
  refine Runs.walk ok10 Try.func10 rfl (by simp [Try.f10]) fun Q hQ => ?_
  simp only [Try.f10, strip, stripL, stripI, stripG, chkT, tagsB, tagsL, tagD, addT, tagA, lookN, tagOp, elmT, ty22, ty24, ty25, ty33, ty54, ty58, ty95, ty122, Nat.reduceEqDiff, if_false, reduceIte, Option.getD_some, Option.getD_none, dstAt, dstOk, Nat.reduceLT, decide_true, if_true]
  obtain ⟨X0, hX0⟩ : ∃ X0 : Heap, X0 = H ++ [some ⟨27, .wr, [[.sl none 0, .sl none 0]]⟩] := ⟨_, rfl⟩
  have bz0 : blkAt X0 H.length = some ⟨27, .wr, [[.sl none 0, .sl none 0]]⟩ := by rw [hX0]; simp
  have k0 : Keep [] H X0 := by rw [hX0]; exact Keep.app _ _ _
  have hl0 : X0.length = H.length + 1 := by rw [hX0]; simp
  have hs0 : Sl X0 5 a (bs.map encU) := by rw [hX0]; exact hs.app _
  simp
  rw [← hX0]
  refine stpL_runs (l1New hs0 hn) ?_
  rintro _ X ⟨c, rfl, hc, hcl, hk⟩
  have bz := hk.blk bz0 (by simp)
  simp
  refine stpL_runs (l10Draw hc) ?_
  rintro _ Y ⟨⟨l, m, fp, rfl, om, hms, hfp⟩, hto⟩
  have bz2 := hto.1.blk bz (fun h => by simp at h; omega)
  have hY := blkAt_len bz2
  have hX := blkAt_len bz
  have hL := om.len
  have hT : l.take l.length = l := List.take_length
  rw [hL] at hT
  simp [bz2, hY, hL, hT, -set_lt]
  refine hQ _ _ _ (by simp) ?_
  obtain ⟨HF, hHF⟩ : ∃ HF : Heap, HF = Y.set H.length (some ⟨27, .wr, [l]⟩) := ⟨_, rfl⟩
  rw [← hHF]
  have b2 : blkAt HF H.length = some ⟨27, .wr, [l]⟩ := by rw [hHF]; exact blkAt_set hY
  have kF : Keep [H.length] Y HF := by rw [hHF]; exact Keep.set _ _
  have kA : Keep [] H HF := ((k0.next hk (by simp)).next hto.1 (by simp; omega)).next kF (by simp)
  have oF := om.keep kF (fun i hi h => by have := hfp i hi; simp at h; omega)
  simp [Try.f10, b2, hL, hT]
  rcases leave_opt H HF [W.agg l] with e | ⟨e, hr⟩ <;> rw [e]
  · exact ⟨⟨m, ⟨fp, oF⟩, hms⟩, kA⟩
  · exact ⟨⟨m, ⟨[], oF.free (by simpa using hr) H⟩, hms⟩, Keep.refl _ _⟩

theorem netDrawSettle {H : Heap} {a : Option (Nat × Nat)} {bs : List Int} (hs : Sl H 5 a (bs.map encU)) (hn : bs.length ≤ 1048576) : Runs env 12 [.w (.lf (.sl a bs.length))] H fun v H' => (∃ (l : List Lf) (m : Net) (fp : List Nat) (x : Int), v = .tup ([.agg l, .lf (.i .i64 x)]) ∧ IsNet H' l m fp ∧ m.sz ≤ 2000 ∧ I64 x) ∧ Keep [] H H' := by
  refine Runs.walk ok12 Try.func12 rfl (by simp [Try.f12]) fun Q hQ => ?_
  simp only [Try.f12, strip, stripL, stripI, stripG, chkT, tagsB, tagsL, tagD, addT, tagA, lookN, tagOp, elmT, ty22, ty24, ty25, ty33, ty54, ty58, ty95, ty122, Nat.reduceEqDiff, if_false, reduceIte, Option.getD_some, Option.getD_none, dstAt, dstOk, Nat.reduceLT, decide_true, if_true]
  obtain ⟨X0, hX0⟩ : ∃ X0 : Heap, X0 = H ++ [some ⟨27, .wr, [[.sl none 0, .sl none 0]]⟩] := ⟨_, rfl⟩
  have bz0 : blkAt X0 H.length = some ⟨27, .wr, [[.sl none 0, .sl none 0]]⟩ := by rw [hX0]; simp
  have k0 : Keep [] H X0 := by rw [hX0]; exact Keep.app _ _ _
  have hl0 : X0.length = H.length + 1 := by rw [hX0]; simp
  have hs0 : Sl X0 5 a (bs.map encU) := by rw [hX0]; exact hs.app _
  simp
  rw [← hX0]
  have fin : ∀ (Y : Heap) (tm : Ab.T) (l : List Lf) (m : Net) (fp : List Nat) (x : Int), tm 2 = .ptr H.length 0 0 → tm 3 = .int x → blkAt Y H.length = some ⟨27, .wr, [l]⟩ → IsNet Y l m fp → m.sz ≤ 2000 → I64 x → Keep [] H Y → Q .ret tm Y := by
    intro Y tm l m fp x t2 t3 b2 oF hsz hx kA
    have hL := oF.len
    have hT : l.take l.length = l := List.take_length
    rw [hL] at hT
    refine hQ _ _ _ (by simp) ?_
    have hres : resT env.τ tm Y (Try.f12.results.toList) = some [W.agg l, W.lf (.i .i64 x)] := by simp [Try.f12, t2, t3, b2, hL, hT]
    rw [hres, optK_some]
    rcases leave_opt H Y [W.agg l, W.lf (.i .i64 x)] with e | ⟨e, hr⟩ <;> rw [e]
    · exact ⟨⟨l, m, fp, x, rfl, oF, hsz, hx⟩, kA⟩
    · have hr2 : l.all refFree = true := by
        simp only [List.all_cons, W.free, Bool.and_eq_true] at hr
        exact hr.1
      exact ⟨⟨l, m, [], x, rfl, oF.free hr2 H, hsz, hx⟩, Keep.refl _ _⟩
  refine stpL_runs (l1New hs0 hn) ?_
  rintro _ X ⟨c, rfl, hc, hcl, hk⟩
  have bz := hk.blk bz0 (by simp)
  have hcX := hc.lt
  simp
  refine stpL_runs (l10Draw hc) ?_
  rintro _ Y0 ⟨⟨l, m, fp, rfl, om0, hsz, hfp⟩, hto0⟩
  have hL := om0.len
  have hT : l.take l.length = l := List.take_length
  rw [hL] at hT
  have hD : l.drop 2 = [] := by rw [← hL]; exact List.drop_length
  obtain ⟨Y, hY⟩ : ∃ Y : Heap, Y = Y0 ++ [some ⟨27, .wr, [l]⟩] := ⟨_, rfl⟩
  have om : IsNet Y l m fp := by rw [hY]; exact om0.app _
  have hto : CurTo X Y c bs.length := by rw [hY]; exact hto0.app _
  have bK : blkAt Y Y0.length = some ⟨27, .wr, [l]⟩ := by rw [hY]; simp
  have bz2 := hto.1.blk bz (fun h => by simp at h; omega)
  have dK := blkAt_len bK
  have dz := blkAt_len bz2
  have hlY := hto0.len
  have kY : Keep [] H Y := (k0.next hk (by simp)).next hto.1 (by simp; omega)
  obtain ⟨q0, q1, f0, f1, e0, ⟨ab, rows, fa, fb, e1, _⟩, ⟨al, e2, _⟩, _⟩ := id om
  simp only [Net.enc] at e0
  subst e1 e2
  have hbl := BridgeS.sz_len m.bridges
  have hml : m.bridges.length ≤ 2000 ∧ m.links.length ≤ 2000 := by unfold Net.sz at hsz; omega
  have w2 : IntKind.i64.wrap ((m.bridges.length : Int) + 2) = (m.bridges.length : Int) + 2 := wrap64 (by omega) (by omega)
  have w3 : IntKind.i64.wrap ((m.links.length : Int) + 2) = (m.links.length : Int) + 2 := wrap64 (by omega) (by omega)
  simp [hL, hT]
  have hlY2 : Y.length = Y0.length + 1 := by rw [hY]; simp
  obtain ⟨F, hF⟩ : ∃ F : Heap, F = Y ++ [some ⟨3, .wr, [0, 1, 10, 40, -1].map encI⟩] := ⟨_, rfl⟩
  have hsl : Sl F 3 (some (Y.length, 0)) ([0, 1, 10, 40, -1].map encI) := by rw [hF]; exact Sl.of (by simp [encI])
  have toF : CurTo X F c bs.length := by rw [hF]; exact hto.app _
  have oF : IsNet F l m fp := by rw [hF]; exact om.app _
  have bzF : blkAt F H.length = some ⟨27, .wr, [[.sl none 0, .sl none 0]]⟩ := by rw [hF]; exact blkAt_app bz2 _
  have kF : Keep [] H F := by rw [hF]; exact kY.next (Keep.app [] _ _) (by simp)
  have eF : Y0 ++ [some ⟨27, .wr, [l]⟩, some ⟨3, .wr, [[.i .i64 0], [.i .i64 1], [.i .i64 10], [.i .i64 40], [.i .i64 (-1)]]⟩] = F := by rw [hF, hY]; simp [encI]
  rw [eF, ← hlY2]
  refine stpL_cur (l1PickInt (xs := [0, 1, 10, 40, -1]) toF.2 hsl (by simp) (by simp)) toF.2 (by rintro _ _ ⟨_, h⟩; exact h) ?_
  rintro _ A ⟨⟨x, rfl, hx⟩, htoA⟩
  have hxI : I64 x := by simp at hx; rcases hx with rfl | rfl | rfl | rfl | rfl <;> exact ⟨by omega, by omega⟩
  have bzA := htoA.1.blk bzF (fun h => by simp at h; omega)
  have oA := oF.keep htoA.1 (fun i hi h => by have := hfp i hi; simp at h; omega)
  have dzA := blkAt_len bzA
  have kA : Keep [] H A := kF.next htoA.1 (by simp; omega)
  simp [bzA, dzA, hL]
  refine fin _ _ l m fp x (by simp) (by simp) (blkAt_set dzA) (oA.keep (Keep.set _ _) (fun i hi h => by have := hfp i hi; simp at h; omega)) hsz hxI (kA.next (Keep.set _ _) (by simp))

theorem netDrawSame {H : Heap} {a : Option (Nat × Nat)} {bs : List Int} (hs : Sl H 5 a (bs.map encU)) (hn : bs.length ≤ 1048576) : Runs env 17 [.w (.lf (.sl a bs.length))] H fun v H' => (∃ (l l2 : List Lf) (m m2 : Net) (fp fp2 : List Nat), v = .tup [.agg l, .agg l2] ∧ IsNet H' l m fp ∧ IsNet H' l2 m2 fp2 ∧ m.sz ≤ 2000 ∧ m2.sz ≤ 2000) ∧ Keep [] H H' := by
  refine Runs.walk ok17 Try.func17 rfl (by simp [Try.f17]) fun Q hQ => ?_
  simp only [Try.f17, strip, stripL, stripI, stripG, chkT, tagsB, tagsL, tagD, addT, tagA, lookN, tagOp, elmT, ty22, ty24, ty25, ty33, ty54, ty58, ty95, ty122, Nat.reduceEqDiff, if_false, reduceIte, Option.getD_some, Option.getD_none, dstAt, dstOk, Nat.reduceLT, decide_true, if_true]
  obtain ⟨X0, hX0⟩ : ∃ X0 : Heap, X0 = H ++ [some ⟨27, .wr, [[.sl none 0, .sl none 0]]⟩, some ⟨27, .wr, [[.sl none 0, .sl none 0]]⟩] := ⟨_, rfl⟩
  have bz0 : blkAt X0 H.length = some ⟨27, .wr, [[.sl none 0, .sl none 0]]⟩ := by rw [hX0]; simp
  have bw0 : blkAt X0 (H.length + 1) = some ⟨27, .wr, [[.sl none 0, .sl none 0]]⟩ := by rw [hX0]; simp
  have k0 : Keep [] H X0 := by rw [hX0]; exact Keep.app _ _ _
  have hl0 : X0.length = H.length + 2 := by rw [hX0]; simp
  have hs0 : Sl X0 5 a (bs.map encU) := by rw [hX0]; exact hs.app _
  simp
  rw [← hX0]
  have fin : ∀ (Y : Heap) (tm : Ab.T) (l l2 : List Lf) (m m2 : Net) (fp fp2 : List Nat), tm 2 = .ptr H.length 0 0 → tm 3 = .ptr (H.length + 1) 0 0 → blkAt Y H.length = some ⟨27, .wr, [l]⟩ → blkAt Y (H.length + 1) = some ⟨27, .wr, [l2]⟩ → IsNet Y l m fp → IsNet Y l2 m2 fp2 → m.sz ≤ 2000 → m2.sz ≤ 2000 → Keep [] H Y → Q .ret tm Y := by
    intro Y tm l l2 m m2 fp fp2 t2 t3 b2 b3 oF oF2 hsz hsz2 kA
    have hL := oF.len
    have hT : l.take l.length = l := List.take_length
    rw [hL] at hT
    have hL2 := oF2.len
    have hT2 : l2.take l2.length = l2 := List.take_length
    rw [hL2] at hT2
    refine hQ _ _ _ (by simp) ?_
    have hres : resT env.τ tm Y (Try.f17.results.toList) = some [W.agg l, W.agg l2] := by simp [Try.f17, t2, t3, b2, b3, hL, hT, hL2, hT2]
    rw [hres, optK_some]
    rcases leave_opt H Y [W.agg l, W.agg l2] with e | ⟨e, hr⟩ <;> rw [e]
    · exact ⟨⟨l, l2, m, m2, fp, fp2, rfl, oF, oF2, hsz, hsz2⟩, kA⟩
    · simp only [List.all_cons, W.free, Bool.and_eq_true] at hr
      exact ⟨⟨l, l2, m, m2, [], [], rfl, oF.free hr.1 H, oF2.free hr.2.1 H, hsz, hsz2⟩, Keep.refl _ _⟩
  refine stpL_runs (l1New hs0 hn) ?_
  rintro _ X ⟨c, rfl, hc, hcl, hk⟩
  have bz := hk.blk bz0 (by simp)
  have bw := hk.blk bw0 (by simp)
  have hcX := hc.lt
  simp
  refine stpL_runs (l10Draw hc) ?_
  rintro _ Y0 ⟨⟨l, m, fp, rfl, om0, hsz, hfp⟩, hto0⟩
  have hL := om0.len
  have hT : l.take l.length = l := List.take_length
  rw [hL] at hT
  obtain ⟨Y, hY⟩ : ∃ Y : Heap, Y = Y0 ++ [some ⟨27, .wr, [l]⟩] := ⟨_, rfl⟩
  obtain ⟨K, hK⟩ : ∃ K, K = Y0.length := ⟨_, rfl⟩
  have om : IsNet Y l m fp := by rw [hY]; exact om0.app _
  have hto : CurTo X Y c bs.length := by rw [hY]; exact hto0.app _
  have bK : blkAt Y K = some ⟨27, .wr, [l]⟩ := by rw [hY, hK]; simp
  have bz2 := hto.1.blk bz (fun h => by simp at h; omega)
  have bw2 := hto.1.blk bw (fun h => by simp at h; omega)
  have hlY := hto0.len
  have kY : Keep [] H Y := (k0.next hk (by simp)).next hto.1 (by simp; omega)
  simp [hL, hT]
  rw [← hY, ← hK]
  clear hY
  refine stpL_runs (l1Once hto.2 2) ?_
  rintro _ A ⟨⟨y, rfl⟩, htoA⟩
  have bKA := htoA.1.blk bK (fun h => by simp at h; omega)
  have bzA := htoA.1.blk bz2 (fun h => by simp at h; omega)
  have bwA := htoA.1.blk bw2 (fun h => by simp at h; omega)
  have oA := om.keep htoA.1 (fun i hi h => by have := hfp i hi; simp at h; omega)
  have dKA := blkAt_len bKA
  have kA : Keep [] H A := kY.next htoA.1 (by simp; omega)
  have last : ∀ (B : Heap) (l2 : List Lf) (m2 : Net) (fp2 : List Nat) (tm : Ab.T), Keep [] H B → blkAt B H.length = some ⟨27, .wr, [[.sl none 0, .sl none 0]]⟩ → blkAt B (H.length + 1) = some ⟨27, .wr, [[.sl none 0, .sl none 0]]⟩ → IsNet B l m fp → IsNet B l2 m2 fp2 → m2.sz ≤ 2000 → (∀ i ∈ fp2, H.length + 2 ≤ i) → tm 2 = .ptr H.length 0 0 → tm 3 = .ptr (H.length + 1) 0 0 → Q .ret tm ((B.set H.length (some ⟨27, .wr, [l]⟩)).set (H.length + 1) (some ⟨27, .wr, [l2]⟩)) := by
    intro B l2 m2 fp2 tm kB bzB bwB oB oB2 hsz2 hfp2 t2 t3
    have dz := blkAt_len bzB
    have dw := blkAt_len bwB
    refine fin _ _ l l2 m m2 fp fp2 t2 t3 ?_ (blkAt_set (by simp; omega)) ((oB.keep (Keep.set _ _) (fun i hi h => by have := hfp i hi; simp at h; omega)).keep (Keep.set _ _) (fun i hi h => by have := hfp i hi; simp at h; omega)) ((oB2.keep (Keep.set _ _) (fun i hi h => by have := hfp2 i hi; simp at h; omega)).keep (Keep.set _ _) (fun i hi h => by have := hfp2 i hi; simp at h; omega)) hsz hsz2 ((kB.next (Keep.set _ _) (by simp)).next (Keep.set _ _) (by simp))
    rw [blkAt_set_ne (by omega)]
    exact blkAt_set dz
  cases y
  · simp [bKA, dKA, hL, hT]
    refine stpL_cur (l10Draw htoA.2) htoA.2 (by rintro _ _ ⟨_, h⟩; exact h) ?_
    rintro _ B ⟨⟨l2, m2, fp2, rfl, om2, hsz2, hfp2⟩, htoB⟩
    have hL2 := om2.len
    have hT2 : l2.take l2.length = l2 := List.take_length
    rw [hL2] at hT2
    have bzB := htoB.1.blk bzA (fun h => by simp at h; omega)
    have bwB := htoB.1.blk bwA (fun h => by simp at h; omega)
    have dzB := blkAt_len bzB
    have dwB := blkAt_len bwB
    have hlA := htoA.len
    have bwB' : ∀ y, blkAt (B.set H.length y) (H.length + 1) = some ⟨27, .wr, [[.sl none 0, .sl none 0]]⟩ := fun y => by rw [blkAt_set_ne (by omega)]; exact bwB
    simp [bzB, dzB, bwB', dwB, hL, hT, hL2, hT2]
    exact last B l2 m2 fp2 _ (kA.next htoB.1 (by simp; omega)) bzB bwB (oA.keep htoB.1 (fun i hi h => by have := hfp i hi; simp at h; omega)) om2 hsz2 (fun i hi => by have := hfp2 i hi; omega) (by simp) (by simp)
  · simp [bKA, dKA, hL, hT]
    refine stpL_runs_f (specCopyNet oA.rd (by omega)) (by rintro _ _ ⟨_, _, _, _, hf⟩; exact hf.1) ?_
    rintro _ _ ⟨l2, fp2, rfl, om2, ⟨⟨G, rfl⟩, hfp2⟩⟩
    have hL2 := om2.len
    have hT2 : l2.take l2.length = l2 := List.take_length
    rw [hL2] at hT2
    have bzB := blkAt_app bzA G
    have bwB := blkAt_app bwA G
    have dzB := blkAt_len bzB
    have dwB := blkAt_len bwB
    have hlA := htoA.len
    have bwB' : ∀ y, blkAt ((A ++ G).set H.length y) (H.length + 1) = some ⟨27, .wr, [[.sl none 0, .sl none 0]]⟩ := fun y => by rw [blkAt_set_ne (by omega)]; exact bwB
    simp [bzB, dzB, bwB', dwB, hL, hT, hL2, hT2]
    exact last (A ++ G) l2 m fp2 _ (kA.next (Keep.app [] _ _) (by simp)) bzB bwB (oA.app _) om2 hsz (fun i hi => by have := hfp2 i hi; omega) (by simp) (by simp)

theorem netDrawNetNew {H : Heap} {a : Option (Nat × Nat)} {bs : List Int} (hs : Sl H 5 a (bs.map encU)) (hn : bs.length ≤ 1048576) : Runs env 14 [.w (.lf (.sl a bs.length))] H fun v H' => (∃ (q q2 : Lf) (xs : List Int) (L : List Link) (fp fp2 : List Nat), v = .tup [.lf q, .lf q2] ∧ IsIntS H' q xs fp ∧ IsLinkS H' q2 L fp2 ∧ xs.length ≤ 5 ∧ L.length ≤ 7) ∧ Keep [] H H' := by
  refine Runs.walk ok14 Try.func14 rfl (by simp [Try.f14]) fun Q hQ => ?_
  simp only [Try.f14, strip, stripL, stripI, stripG, chkT, tagsB, tagsL, tagD, addT, tagA, lookN, tagOp, elmT, ty22, ty24, ty25, ty33, ty54, ty58, ty95, ty122, Nat.reduceEqDiff, if_false, reduceIte, Option.getD_some, Option.getD_none, dstAt, dstOk, Nat.reduceLT, decide_true, if_true]
  simp
  have fin : ∀ (Y : Heap) (tm : Ab.T) (q q2 : Lf) (xs : List Int) (L : List Link) (fp fp2 : List Nat), tm 2 = .w (.lf q) → tm 3 = .w (.lf q2) → IsIntS Y q xs fp → IsLinkS Y q2 L fp2 → xs.length ≤ 5 → L.length ≤ 7 → Keep [] H Y → Q .ret tm Y := by
    intro Y tm q q2 xs L fp fp2 t2 t3 o1 o2 h1 h2 kA
    refine hQ _ _ _ (by simp) ?_
    have hres : resT env.τ tm Y (Try.f14.results.toList) = some [W.lf q, W.lf q2] := by simp [Try.f14, t2, t3]
    rw [hres, optK_some]
    rcases leave_opt H Y [W.lf q, W.lf q2] with e | ⟨e, hr⟩ <;> rw [e]
    · exact ⟨⟨q, q2, xs, L, fp, fp2, rfl, o1, o2, h1, h2⟩, kA⟩
    · simp only [List.all_cons, W.free, Bool.and_eq_true] at hr
      exact ⟨⟨q, q2, xs, L, [], [], rfl, o1.free hr.1 H, o2.free hr.2.1 H, h1, h2⟩, Keep.refl _ _⟩
  refine stpL_runs (l1New hs hn) ?_
  rintro _ X ⟨c, rfl, hc, hcl, hk⟩
  have hcX := hc.lt
  simp
  refine stpL_runs (l10DrawIds hc) ?_
  rintro _ B ⟨⟨q, xs, fx, rfl, ox, hxn, hxr, hx1, hx4, hfx⟩, htoB⟩
  obtain ⟨ax, rfl, ox'⟩ := id ox
  simp [builtinV, pureB, lenV]
  refine stpL_runs (l10DrawWires htoB.2 (m := (xs.length : Int)) (by omega) (by omega)) ?_
  rintro _ D ⟨⟨q2, L, nx, fl, rfl, oL, hw, hL6, hfl⟩, htoD⟩
  obtain ⟨al, rfl, oL'⟩ := id oL
  have toD := htoB.next htoD
  have oxD := ox'.keep htoD.1 (fun k hk h => by have := hfx k hk; simp at h; omega)
  simp
  refine stpL_runs (l1Below htoD.2 10) ?_
  rintro _ E ⟨⟨u, rfl, hu0, hu1, -⟩, htoE⟩
  have toE := toD.next htoE
  have hlB := htoB.len
  have oxE := oxD.keep htoE.1 (fun k hk h => by have := hfx k hk; simp at h; omega)
  have oLE := oL'.keep htoE.1 (fun k hk h => by have := hfl k hk; simp at h; omega)
  have kE : Keep [] H E := hk.next toE.1 (by simp; omega)
  by_cases c0 : u = 0
  · simp [c0]
    obtain ⟨F, hF⟩ : ∃ F : Heap, F = E ++ [some ⟨3, .wr, [0, 10, 3].map encI⟩] := ⟨_, rfl⟩
    have eF : E ++ [some ⟨3, .wr, [[.i .i64 0], [.i .i64 10], [.i .i64 3]]⟩] = F := by rw [hF]; simp [encI]
    have hsl : Sl F 3 (some (E.length, 0)) ([0, 10, 3].map encI) := by rw [hF]; exact Sl.of (by simp [encI])
    have toF : CurTo E F c bs.length := by rw [hF]; exact (CurTo.refl toE.2).app _
    rw [eF]
    refine stpL_runs (l1PickInt (xs := [0, 10, 3]) toF.2 hsl (by simp) (by simp)) ?_
    rintro _ A ⟨⟨x, rfl, hx⟩, htoA⟩
    have toA := toF.next htoA
    have oxA := oxE.keep toA.1 (fun k hk h => by have := hfx k hk; simp at h; omega)
    have oLA := oLE.keep toA.1 (fun k hk h => by have := hfl k hk; simp at h; omega)
    have hlE := htoE.len
    simp
    refine stpL_append (e := 3) (rows := xs.map encI) (ys := [encI x]) (oxA.app _) (Sl.of (by simp [encI])) rfl rfl rfl (by simp) (by simp; omega) (by simp) rfl fun a2 G fc hoG hkG hfG => ?_
    have hfx' : ∀ i ∈ fx, H.length ≤ i := fun i hi => by have := hfx i hi; have := hk.1; omega
    have hlA := toA.len
    have kA : Keep [] H A := kE.next toA.1 (by simp; omega)
    have kG : Keep [] H G := (kA.next (Keep.app [] _ _) (by simp)).next hkG hfx'
    have hlD := htoD.len
    have oLG := (oLA.app _).keep hkG (fun k hk h => by
      have h1 := hfx k h
      have h2 := hfl k hk
      have h3 := oxD
      have h4 := ox'.lt k h
      omega)
    simp
    refine fin _ _ (.sl a2 (xs.length + 1)) (.sl al L.length) (xs ++ [x]) L fc fl (by simp) (by simp) ⟨a2, by simp, by simpa using hoG⟩ ⟨al, rfl, oLG⟩ (by simp; omega) (by omega) kG
  · by_cases c1 : u = 1
    · simp [c0, c1]
      refine stpL_runs (l1Below toE.2 5) ?_
      rintro _ A ⟨⟨v1, rfl, v10, v11, -⟩, to1⟩
      simp
      refine stpL_runs (l1Below to1.2 3) ?_
      rintro _ A2 ⟨⟨v2, rfl, v20, v21, -⟩, to2⟩
      have toA := to1.next to2
      have oxA := oxE.keep toA.1 (fun k hk h => by have := hfx k hk; simp at h; omega)
      have oLA := oLE.keep toA.1 (fun k hk h => by have := hfl k hk; simp at h; omega)
      simp
      refine stpL_append (e := 50) (rows := L.map Link.enc) (ys := [Link.enc ⟨0, v1, v2, 0⟩]) (oLA.app _) (Sl.of (by simp [Link.enc])) rfl rfl rfl (by simp) (by simp; omega) (by simp) rfl fun a2 G fc hoG hkG hfG => ?_
      have hlE := htoE.len
      have hlA := toA.len
      have hlD := htoD.len
      have hfl' : ∀ i ∈ fl, H.length ≤ i := fun i hi => by have := hfl i hi; have := hk.1; omega
      have kA : Keep [] H A2 := kE.next toA.1 (by simp; omega)
      have kG : Keep [] H G := (kA.next (Keep.app [] _ _) (by simp)).next hkG hfl'
      have oxG := (oxA.app _).keep hkG (fun k hk h => by
        have h1 := hfl k h
        have h4 := ox'.lt k hk
        omega)
      simp
      refine fin _ _ (.sl ax xs.length) (.sl a2 (L.length + 1)) xs (L ++ [⟨0, v1, v2, 0⟩]) fx fc (by simp) (by simp) ⟨ax, rfl, oxG⟩ ⟨a2, by simp, by simpa using hoG⟩ (by omega) (by simp; omega) kG
    · simp [c0, c1]
      exact fin _ _ _ _ xs L fx fl (by simp) (by simp) ⟨ax, rfl, oxE⟩ ⟨al, rfl, oLE⟩ (by omega) (by omega) kE

theorem netNew_sz {xs : List Int} {L : List Link} (h1 : xs.length ≤ 5) (h2 : L.length ≤ 7) : (netNew xs L).1.sz ≤ 2000 ∧ ((netNew xs L).2 = true → (netNew xs L).1.ok = true) := by
  unfold netNew
  split
  · rename_i h
    refine ⟨?_, fun _ => h⟩
    have hw := NetW.ofOk h
    refine netSmall hw.len.1 (fun b hb => ?_) (by have := hw.len.2; simp only at this ⊢; omega)
    have := (Bridge.ok_all (hw.ok b hb)).2.2.2.2
    omega
  · refine ⟨by simp [Net.sz, BridgeS.sz], fun h => by simp at h⟩
theorem settle_ok {n : Net} (h : n.ok = true) (k : Int) : (settle n k).ok = true := (Net.ok_iff _).2 (settle_fit ((Net.ok_iff n).1 h) k).p
theorem settle_no {n : Net} (h : n.ok = false) (k : Int) : settle n k = n := by unfold settle; rw [if_neg (by simp [h])]

theorem netsLaw {H : Heap} {a : Option (Nat × Nat)} {bs : List Int} (hs : Sl H 5 a (bs.map encU)) : Runs env 3 [.w (.lf (.sl a bs.length))] H fun v _ => v = .bool true := by
  have eb := fun (H : Heap) => bigL (H := H) (a := a) (n := bs.length)
  refine Runs.walk ok3 Try.func3 rfl (by simp [Try.f3]) fun Q hQ => ?_
  simp only [Try.f3, strip, stripL, stripI, stripG, chkT, tagsB, tagsL, tagD, addT, tagA, lookN, tagOp, elmT, ty22, ty24, ty25, ty33, ty54, ty58, ty95, ty122, Nat.reduceEqDiff, if_false, reduceIte, Option.getD_some, Option.getD_none, dstAt, dstOk, Nat.reduceLT, decide_true, if_true]
  simp [eb]
  refine selS_intro (fun hb => ?_) (fun hb => ?_)
  · simp
    refine hQ _ _ _ (by simp) ?_
    simp [Try.f3]
  simp at hb
  have hn : bs.length ≤ 1048576 := by omega
  simp
  refine stpL_runs (netDrawRound hs hn) ?_
  rintro _ A1 ⟨⟨l1, m1, f1, rfl, o1, hz1⟩, k1⟩
  have hs := hs.keep k1 (by simp)
  have hLl1 := o1.len
  have hTl1 : l1.take l1.length = l1 := List.take_length
  rw [hLl1] at hTl1
  obtain ⟨W3, hW3⟩ : ∃ W : Heap, W = A1 ++ [some ⟨27, .wr, [l1]⟩] := ⟨_, rfl⟩
  obtain ⟨K3, hK3⟩ : ∃ K, K = A1.length := ⟨_, rfl⟩
  have b3 : blkAt W3 K3 = some ⟨27, .wr, [l1]⟩ := by rw [hW3, hK3]; simp
  have kw3 : Keep [] A1 W3 := by rw [hW3]; exact Keep.app _ _ _
  have o1 := o1.keep kw3 (by simp)
  have hs := hs.keep kw3 (by simp)
  simp [hLl1, hTl1]
  rw [← hW3, ← hK3]
  clear hW3 hK3
  refine stpL_runs (implRound_is o1.rd (by omega)) ?_
  rintro _ A2 ⟨l2, f2, rfl, o2, hf2⟩
  have k2 := hf2.kp
  have b3 := k2.blk b3 (by simp)
  have o1 := o1.keep k2 (by simp)
  have hs := hs.keep k2 (by simp)
  have hLl2 := o2.len
  have hTl2 : l2.take l2.length = l2 := List.take_length
  rw [hLl2] at hTl2
  obtain ⟨W4, hW4⟩ : ∃ W : Heap, W = A2 ++ [some ⟨27, .wr, [l2]⟩] := ⟨_, rfl⟩
  obtain ⟨K4, hK4⟩ : ∃ K, K = A2.length := ⟨_, rfl⟩
  have b4 : blkAt W4 K4 = some ⟨27, .wr, [l2]⟩ := by rw [hW4, hK4]; simp
  have kw4 : Keep [] A2 W4 := by rw [hW4]; exact Keep.app _ _ _
  have b3 := kw4.blk b3 (by simp)
  have o1 := o1.keep kw4 (by simp)
  have o2 := o2.keep kw4 (by simp)
  have hs := hs.keep kw4 (by simp)
  simp [hLl2, hTl2]
  rw [← hW4, ← hK4]
  clear hW4 hK4
  refine stpL_runs (netDrawSettle hs hn) ?_
  rintro _ A3 ⟨⟨l3, m3, f3, r, rfl, o3, hz3, hrI⟩, k3⟩
  have b3 := k3.blk b3 (by simp)
  have b4 := k3.blk b4 (by simp)
  have o1 := o1.keep k3 (by simp)
  have o2 := o2.keep k3 (by simp)
  have hs := hs.keep k3 (by simp)
  have hLl3 := o3.len
  have hTl3 : l3.take l3.length = l3 := List.take_length
  rw [hLl3] at hTl3
  obtain ⟨W5, hW5⟩ : ∃ W : Heap, W = A3 ++ [some ⟨27, .wr, [l3]⟩] := ⟨_, rfl⟩
  obtain ⟨K5, hK5⟩ : ∃ K, K = A3.length := ⟨_, rfl⟩
  have b5 : blkAt W5 K5 = some ⟨27, .wr, [l3]⟩ := by rw [hW5, hK5]; simp
  have kw5 : Keep [] A3 W5 := by rw [hW5]; exact Keep.app _ _ _
  have b3 := kw5.blk b3 (by simp)
  have b4 := kw5.blk b4 (by simp)
  have o1 := o1.keep kw5 (by simp)
  have o2 := o2.keep kw5 (by simp)
  have o3 := o3.keep kw5 (by simp)
  have hs := hs.keep kw5 (by simp)
  simp [hLl3, hTl3]
  rw [← hW5, ← hK5]
  clear hW5 hK5
  refine stpL_runs (implSettle_is o3.rd (by omega) r hrI) ?_
  rintro _ A4 ⟨l4, f4, rfl, o4, hf4⟩
  have k4 := hf4.kp
  have b3 := k4.blk b3 (by simp)
  have b4 := k4.blk b4 (by simp)
  have b5 := k4.blk b5 (by simp)
  have o1 := o1.keep k4 (by simp)
  have o2 := o2.keep k4 (by simp)
  have o3 := o3.keep k4 (by simp)
  have hs := hs.keep k4 (by simp)
  have hLl4 := o4.len
  have hTl4 : l4.take l4.length = l4 := List.take_length
  rw [hLl4] at hTl4
  obtain ⟨W7, hW7⟩ : ∃ W : Heap, W = A4 ++ [some ⟨27, .wr, [l4]⟩] := ⟨_, rfl⟩
  obtain ⟨K7, hK7⟩ : ∃ K, K = A4.length := ⟨_, rfl⟩
  have b7 : blkAt W7 K7 = some ⟨27, .wr, [l4]⟩ := by rw [hW7, hK7]; simp
  have kw7 : Keep [] A4 W7 := by rw [hW7]; exact Keep.app _ _ _
  have b3 := kw7.blk b3 (by simp)
  have b4 := kw7.blk b4 (by simp)
  have b5 := kw7.blk b5 (by simp)
  have o1 := o1.keep kw7 (by simp)
  have o2 := o2.keep kw7 (by simp)
  have o3 := o3.keep kw7 (by simp)
  have o4 := o4.keep kw7 (by simp)
  have hs := hs.keep kw7 (by simp)
  simp [hLl4, hTl4]
  rw [← hW7, ← hK7]
  clear hW7 hK7
  refine stpL_runs (netDrawNetNew hs hn) ?_
  rintro _ A5 ⟨⟨q, q2, xs, L, fx, fl, rfl, ox, oL, hx5, hL7⟩, k5⟩
  have b3 := k5.blk b3 (by simp)
  have b4 := k5.blk b4 (by simp)
  have b5 := k5.blk b5 (by simp)
  have b7 := k5.blk b7 (by simp)
  have o1 := o1.keep k5 (by simp)
  have o2 := o2.keep k5 (by simp)
  have o3 := o3.keep k5 (by simp)
  have o4 := o4.keep k5 (by simp)
  have hs := hs.keep k5 (by simp)
  simp
  refine stpL_runs (implNetNew_is ox.rd (by omega) oL.rd (by omega)) ?_
  rintro _ A6 ⟨l5, f5, rfl, o5, hf5⟩
  have k6 := hf5.kp
  have b3 := k6.blk b3 (by simp)
  have b4 := k6.blk b4 (by simp)
  have b5 := k6.blk b5 (by simp)
  have b7 := k6.blk b7 (by simp)
  have o1 := o1.keep k6 (by simp)
  have o2 := o2.keep k6 (by simp)
  have o3 := o3.keep k6 (by simp)
  have o4 := o4.keep k6 (by simp)
  have ox := ox.keep k6 (by simp)
  have oL := oL.keep k6 (by simp)
  have hs := hs.keep k6 (by simp)
  have hLl5 := o5.len
  have hTl5 : l5.take l5.length = l5 := List.take_length
  rw [hLl5] at hTl5
  obtain ⟨W10, hW10⟩ : ∃ W : Heap, W = A6 ++ [some ⟨27, .wr, [l5]⟩] := ⟨_, rfl⟩
  obtain ⟨K10, hK10⟩ : ∃ K, K = A6.length := ⟨_, rfl⟩
  have b10 : blkAt W10 K10 = some ⟨27, .wr, [l5]⟩ := by rw [hW10, hK10]; simp
  have kw10 : Keep [] A6 W10 := by rw [hW10]; exact Keep.app _ _ _
  have b3 := kw10.blk b3 (by simp)
  have b4 := kw10.blk b4 (by simp)
  have b5 := kw10.blk b5 (by simp)
  have b7 := kw10.blk b7 (by simp)
  have o1 := o1.keep kw10 (by simp)
  have o2 := o2.keep kw10 (by simp)
  have o3 := o3.keep kw10 (by simp)
  have o4 := o4.keep kw10 (by simp)
  have o5 := o5.keep kw10 (by simp)
  have ox := ox.keep kw10 (by simp)
  have oL := oL.keep kw10 (by simp)
  have hs := hs.keep kw10 (by simp)
  simp [hLl5, hTl5]
  rw [← hW10, ← hK10]
  clear hW10 hK10
  refine stpL_runs (specNetNew_is ox.rd (by omega) oL.rd (by omega)) ?_
  rintro _ A7 ⟨l6, f6, rfl, o6, hf6⟩
  have k7 := hf6.kp
  have b3 := k7.blk b3 (by simp)
  have b4 := k7.blk b4 (by simp)
  have b5 := k7.blk b5 (by simp)
  have b7 := k7.blk b7 (by simp)
  have b10 := k7.blk b10 (by simp)
  have o1 := o1.keep k7 (by simp)
  have o2 := o2.keep k7 (by simp)
  have o3 := o3.keep k7 (by simp)
  have o4 := o4.keep k7 (by simp)
  have o5 := o5.keep k7 (by simp)
  have ox := ox.keep k7 (by simp)
  have oL := oL.keep k7 (by simp)
  have hs := hs.keep k7 (by simp)
  have hLl6 := o6.len
  have hTl6 : l6.take l6.length = l6 := List.take_length
  rw [hLl6] at hTl6
  obtain ⟨W12, hW12⟩ : ∃ W : Heap, W = A7 ++ [some ⟨27, .wr, [l6]⟩] := ⟨_, rfl⟩
  obtain ⟨K12, hK12⟩ : ∃ K, K = A7.length := ⟨_, rfl⟩
  have b12 : blkAt W12 K12 = some ⟨27, .wr, [l6]⟩ := by rw [hW12, hK12]; simp
  have kw12 : Keep [] A7 W12 := by rw [hW12]; exact Keep.app _ _ _
  have b3 := kw12.blk b3 (by simp)
  have b4 := kw12.blk b4 (by simp)
  have b5 := kw12.blk b5 (by simp)
  have b7 := kw12.blk b7 (by simp)
  have b10 := kw12.blk b10 (by simp)
  have o1 := o1.keep kw12 (by simp)
  have o2 := o2.keep kw12 (by simp)
  have o3 := o3.keep kw12 (by simp)
  have o4 := o4.keep kw12 (by simp)
  have o5 := o5.keep kw12 (by simp)
  have o6 := o6.keep kw12 (by simp)
  have ox := ox.keep kw12 (by simp)
  have oL := oL.keep kw12 (by simp)
  have hs := hs.keep kw12 (by simp)
  simp [hLl6, hTl6]
  rw [← hW12, ← hK12]
  clear hW12 hK12
  refine stpL_runs (netDrawSame hs hn) ?_
  rintro _ A8 ⟨⟨l7, l8, m7, m8, f7, f8, rfl, o7, o8, hz7, hz8⟩, k8⟩
  have b3 := k8.blk b3 (by simp)
  have b4 := k8.blk b4 (by simp)
  have b5 := k8.blk b5 (by simp)
  have b7 := k8.blk b7 (by simp)
  have b10 := k8.blk b10 (by simp)
  have b12 := k8.blk b12 (by simp)
  have o1 := o1.keep k8 (by simp)
  have o2 := o2.keep k8 (by simp)
  have o3 := o3.keep k8 (by simp)
  have o4 := o4.keep k8 (by simp)
  have o5 := o5.keep k8 (by simp)
  have o6 := o6.keep k8 (by simp)
  have ox := ox.keep k8 (by simp)
  have oL := oL.keep k8 (by simp)
  have hs := hs.keep k8 (by simp)
  have hLl7 := o7.len
  have hTl7 : l7.take l7.length = l7 := List.take_length
  rw [hLl7] at hTl7
  have hLl8 := o8.len
  have hTl8 : l8.take l8.length = l8 := List.take_length
  rw [hLl8] at hTl8
  obtain ⟨W14, hW14⟩ : ∃ W : Heap, W = A8 ++ [some ⟨27, .wr, [l7]⟩, some ⟨27, .wr, [l8]⟩] := ⟨_, rfl⟩
  obtain ⟨K14, hK14⟩ : ∃ K, K = A8.length := ⟨_, rfl⟩
  have b14 : blkAt W14 K14 = some ⟨27, .wr, [l7]⟩ := by rw [hW14, hK14]; simp
  have b15 : blkAt W14 (K14 + 1) = some ⟨27, .wr, [l8]⟩ := by rw [hW14, hK14]; simp
  have kw14 : Keep [] A8 W14 := by rw [hW14]; exact Keep.app _ _ _
  have b3 := kw14.blk b3 (by simp)
  have b4 := kw14.blk b4 (by simp)
  have b5 := kw14.blk b5 (by simp)
  have b7 := kw14.blk b7 (by simp)
  have b10 := kw14.blk b10 (by simp)
  have b12 := kw14.blk b12 (by simp)
  have o1 := o1.keep kw14 (by simp)
  have o2 := o2.keep kw14 (by simp)
  have o3 := o3.keep kw14 (by simp)
  have o4 := o4.keep kw14 (by simp)
  have o5 := o5.keep kw14 (by simp)
  have o6 := o6.keep kw14 (by simp)
  have o7 := o7.keep kw14 (by simp)
  have o8 := o8.keep kw14 (by simp)
  have ox := ox.keep kw14 (by simp)
  have oL := oL.keep kw14 (by simp)
  have hs := hs.keep kw14 (by simp)
  simp [hLl7, hTl7, hLl8, hTl8]
  rw [← hW14, ← hK14]
  clear hW14 hK14
  refine stpL_runs (netDrawNetOk hs hn) ?_
  rintro _ A9 ⟨⟨l9, m9, f9, rfl, o9, hz9⟩, k9⟩
  have b3 := k9.blk b3 (by simp)
  have b4 := k9.blk b4 (by simp)
  have b5 := k9.blk b5 (by simp)
  have b7 := k9.blk b7 (by simp)
  have b10 := k9.blk b10 (by simp)
  have b12 := k9.blk b12 (by simp)
  have b14 := k9.blk b14 (by simp)
  have b15 := k9.blk b15 (by simp)
  have o1 := o1.keep k9 (by simp)
  have o2 := o2.keep k9 (by simp)
  have o3 := o3.keep k9 (by simp)
  have o4 := o4.keep k9 (by simp)
  have o5 := o5.keep k9 (by simp)
  have o6 := o6.keep k9 (by simp)
  have o7 := o7.keep k9 (by simp)
  have o8 := o8.keep k9 (by simp)
  have ox := ox.keep k9 (by simp)
  have oL := oL.keep k9 (by simp)
  have hs := hs.keep k9 (by simp)
  have hLl9 := o9.len
  have hTl9 : l9.take l9.length = l9 := List.take_length
  rw [hLl9] at hTl9
  obtain ⟨W16, hW16⟩ : ∃ W : Heap, W = A9 ++ [some ⟨27, .wr, [l9]⟩] := ⟨_, rfl⟩
  obtain ⟨K16, hK16⟩ : ∃ K, K = A9.length := ⟨_, rfl⟩
  have b16 : blkAt W16 K16 = some ⟨27, .wr, [l9]⟩ := by rw [hW16, hK16]; simp
  have kw16 : Keep [] A9 W16 := by rw [hW16]; exact Keep.app _ _ _
  have b3 := kw16.blk b3 (by simp)
  have b4 := kw16.blk b4 (by simp)
  have b5 := kw16.blk b5 (by simp)
  have b7 := kw16.blk b7 (by simp)
  have b10 := kw16.blk b10 (by simp)
  have b12 := kw16.blk b12 (by simp)
  have b14 := kw16.blk b14 (by simp)
  have b15 := kw16.blk b15 (by simp)
  have o1 := o1.keep kw16 (by simp)
  have o2 := o2.keep kw16 (by simp)
  have o3 := o3.keep kw16 (by simp)
  have o4 := o4.keep kw16 (by simp)
  have o5 := o5.keep kw16 (by simp)
  have o6 := o6.keep kw16 (by simp)
  have o7 := o7.keep kw16 (by simp)
  have o8 := o8.keep kw16 (by simp)
  have o9 := o9.keep kw16 (by simp)
  have ox := ox.keep kw16 (by simp)
  have oL := oL.keep kw16 (by simp)
  have hs := hs.keep kw16 (by simp)
  simp [hLl9, hTl9]
  rw [← hW16, ← hK16]
  clear hW16 hK16
  obtain ⟨hzn, hnn⟩ := netNew_sz hx5 hL7
  have z2 : (settle m1 1).sz ≤ 1048576 := settle_sz0 (by omega)
  have z4 : (settle m3 r).sz ≤ 1048576 := settle_sz0 (by omega)
  have g3 := fun G => blkAt_app b3 G
  have n3 := blkAt_len b3
  have g4 := fun G => blkAt_app b4 G
  have n4 := blkAt_len b4
  have g5 := fun G => blkAt_app b5 G
  have n5 := blkAt_len b5
  have g7 := fun G => blkAt_app b7 G
  have n7 := blkAt_len b7
  have g10 := fun G => blkAt_app b10 G
  have n10 := blkAt_len b10
  have g12 := fun G => blkAt_app b12 G
  have n12 := blkAt_len b12
  have g14 := fun G => blkAt_app b14 G
  have n14 := blkAt_len b14
  have g15 := fun G => blkAt_app b15 G
  have n15 := blkAt_len b15
  have g16 := fun G => blkAt_app b16 G
  have n16 := blkAt_len b16
  have p7 := fun G => implSame_is (o7.rd.app G) (by omega) (o8.rd.app G) (by omega)
  have p8 := fun G => specSame_is (o7.rd.app G) (by omega) (o8.rd.app G) (by omega)
  have p5 := fun G => implSame_is (o5.rd.app G) (by omega) (o6.rd.app G) (by omega)
  have p9 := fun G => implNetOk_is (o9.rd.app G) (by omega)
  have p10 := fun G => specNetOk_is (o9.rd.app G) (by omega)
  have q1 := fun G => implNetOk_is (o1.rd.app G) (by omega)
  have q2' := fun G => implNetOk_is (o2.rd.app G) z2
  have q3 := fun G => implNetOk_is (o3.rd.app G) (by omega)
  have q4 := fun G => implNetOk_is (o4.rd.app G) z4
  have q5 := fun G => implNetOk_is (o5.rd.app G) (by omega)
  have q6 := fun G => implSame_is (o2.rd.app G) z2 (o1.rd.app G) (by omega)
  have fin : ∀ tm HH, tm 2 = .bool true → Q .ret tm HH := by
    intro tm HH t2
    refine hQ _ _ _ (by simp) ?_
    simp [Try.f3, t2]
  simp [b3, n3, b4, n4, hLl1, hTl1, hLl2, hTl2]
  refine stpL_runs_f (specRound_is o1.rd (by omega)) (by rintro _ _ ⟨_, _, _, _, hf⟩; exact hf.1) ?_
  rintro _ _ ⟨l10, f10, rfl, o10, ⟨⟨G1, rfl⟩, -⟩⟩
  have s1 := implSame_is (o2.rd.app G1) z2 o10.rd z2
  simp [s1, g7, n7, g5, n5, hLl3, hTl3, hLl4, hTl4]
  refine stpL_runs_f (specSettle_is (o3.rd.app G1) (by omega) r hrI) (by rintro _ _ ⟨_, _, _, _, hf⟩; exact hf.1) ?_
  rintro _ _ ⟨l11, f11, rfl, o11, ⟨⟨G2, rfl⟩, -⟩⟩
  have s2 := implSame_is ((o4.rd.app G1).app G2) z4 o11.rd z4
  rw [List.append_assoc] at s2
  simp [s2, g10, n10, g12, n12, g14, n14, g15, n15, g16, n16, hLl5, hTl5, hLl6, hTl6, hLl7, hTl7, hLl8, hTl8, hLl9, hTl9, p5, p7, p8, p9, p10]
  have c1 : m1.ok = true → (settle m1 1).ok = true := fun h => settle_ok h 1
  have c2 : m1.ok = false → settle m1 1 = m1 := fun h => settle_no h 1
  have c3 : m3.ok = true → (settle m3 r).ok = true := fun h => settle_ok h r
  have q6' := q6 (G1 ++ G2)
  have q1' := q1 (G1 ++ G2)
  have q2'' := q2' (G1 ++ G2)
  have q3' := q3 (G1 ++ G2)
  have q4' := q4 (G1 ++ G2)
  have q5' := q5 (G1 ++ G2)
  have i3 := g3 (G1 ++ G2)
  have i4 := g4 (G1 ++ G2)
  have i5 := g5 (G1 ++ G2)
  have i7 := g7 (G1 ++ G2)
  have i10 := g10 (G1 ++ G2)
  have e1 : K3 < (W16 ++ (G1 ++ G2)).length := blkAt_len i3
  have e2 : K4 < (W16 ++ (G1 ++ G2)).length := blkAt_len i4
  have e3 : K5 < (W16 ++ (G1 ++ G2)).length := blkAt_len i5
  have e4 : K7 < (W16 ++ (G1 ++ G2)).length := blkAt_len i7
  have e5 : K10 < (W16 ++ (G1 ++ G2)).length := blkAt_len i10
  generalize W16 ++ (G1 ++ G2) = U at i3 i4 i5 i7 i10 e1 e2 e3 e4 e5 q1' q2'' q3' q4' q5' q6' ⊢
  clear q1 q2' q3 q4 q5 q6 p5 p7 p8 p9 p10 s1 s2 g3 g4 g5 g7 g10 g12 g14 g15 g16
  cases h1 : m1.ok
  · rw [h1] at q1'
    rw [c2 h1, decide_eq_true rfl] at q6'
    cases hN : (netNew xs L).2
    · cases h3 : m3.ok
      · rw [h3] at q3'
        simp [i3, e1, hLl1, hTl1, q1', i4, e2, hLl2, hTl2, q6', i5, e3, hLl3, hTl3, q3']
        exact fin _ _ (by simp)
      · rw [h3] at q3'
        rw [c3 h3] at q4'
        simp [i3, e1, hLl1, hTl1, q1', i4, e2, hLl2, hTl2, q6', i5, e3, hLl3, hTl3, q3', i7, e4, hLl4, hTl4, q4']
        exact fin _ _ (by simp)
    · rw [hnn hN] at q5'
      cases h3 : m3.ok
      · rw [h3] at q3'
        simp [i3, e1, hLl1, hTl1, q1', i4, e2, hLl2, hTl2, q6', i5, e3, hLl3, hTl3, q3', i10, e5, hLl5, hTl5, q5']
        exact fin _ _ (by simp)
      · rw [h3] at q3'
        rw [c3 h3] at q4'
        simp [i3, e1, hLl1, hTl1, q1', i4, e2, hLl2, hTl2, q6', i5, e3, hLl3, hTl3, q3', i7, e4, hLl4, hTl4, q4', i10, e5, hLl5, hTl5, q5']
        exact fin _ _ (by simp)
  · rw [h1] at q1'
    rw [c1 h1] at q2''
    cases hN : (netNew xs L).2
    · cases h3 : m3.ok
      · rw [h3] at q3'
        simp [i3, e1, hLl1, hTl1, q1', i4, e2, hLl2, hTl2, q2'', i5, e3, hLl3, hTl3, q3']
        exact fin _ _ (by simp)
      · rw [h3] at q3'
        rw [c3 h3] at q4'
        simp [i3, e1, hLl1, hTl1, q1', i4, e2, hLl2, hTl2, q2'', i5, e3, hLl3, hTl3, q3', i7, e4, hLl4, hTl4, q4']
        exact fin _ _ (by simp)
    · rw [hnn hN] at q5'
      cases h3 : m3.ok
      · rw [h3] at q3'
        simp [i3, e1, hLl1, hTl1, q1', i4, e2, hLl2, hTl2, q2'', i5, e3, hLl3, hTl3, q3', i10, e5, hLl5, hTl5, q5']
        exact fin _ _ (by simp)
      · rw [h3] at q3'
        rw [c3 h3] at q4'
        simp [i3, e1, hLl1, hTl1, q1', i4, e2, hLl2, hTl2, q2'', i5, e3, hLl3, hTl3, q3', i7, e4, hLl4, hTl4, q4', i10, e5, hLl5, hTl5, q5']
        exact fin _ _ (by simp)
end W
end Go.Proofs.Ytjgjjaidpceieaa
