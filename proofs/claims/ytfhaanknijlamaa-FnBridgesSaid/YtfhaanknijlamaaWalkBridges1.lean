/- The functions that this law reaches: what each computes. Conditions: those that each theorem names. -/
import Derived.Test.YtfhaanknijlamaaWalkBridges
set_option maxRecDepth 100000
set_option maxHeartbeats 4000000
set_option linter.unusedSimpArgs false
set_option linter.unusedVariables false
set_option linter.unnecessarySimpa false
namespace Go.Proofs.Ytfhaanknijlamaa
open Go Go.Ab Go.ChangeShapes Go.WideShapes Go.ChangeAt Go.RowKit
namespace W
def encU (x : Int) : List Lf := [.i .u8 x]
/-- A cursor over n bytes. -/
def Cur (H : Heap) (c n : Nat) : Prop := ∃ (a : Option (Nat × Nat)) (i h : Int) (bs : List Int), blkAt H c = some ⟨154, .wr, [[.sl a n, .i .i64 i, .i .i64 h]]⟩ ∧ 0 ≤ i ∧ i ≤ n ∧ bs.length = n ∧ n ≤ 1048576 ∧ (∀ id r, a = some (id, r) → bs ≠ [] → id < c) ∧ Sl H 5 a (bs.map encU)
theorem Cur.lt {H : Heap} {c n : Nat} (h : Cur H c n) : c < H.length := let ⟨_, _, _, _, h1, _⟩ := h; blkAt_len h1
theorem Cur.keep {H H' : Heap} {c n : Nat} {f : List Nat} (h : Cur H c n) (hk : Keep f H H') (hf : ∀ i ∈ f, c < i) : Cur H' c n := by
  obtain ⟨a, i, h, bs, h1, h2, h3, h4, h5, h6, h7⟩ := h
  have hlt := blkAt_len h1
  refine ⟨a, i, h, bs, hk.blk h1 (fun hc => by have := hf c hc; omega), h2, h3, h4, h5, h6, ?_⟩
  by_cases hb : bs = []
  · subst hb; exact Sl.nil _ _ _
  · exact h7.keep hk (fun id r he hi => by have := hf id hi; have := h6 id r he hb; omega)
theorem Cur.app {H : Heap} {c n : Nat} (h : Cur H c n) (G : Heap) : Cur (H ++ G) c n := h.keep (Keep.app [] H G) (by simp)
theorem Cur.ne {H : Heap} {c n id : Nat} {b : Blk} (h : Cur H c n) (hb : blkAt H id = some b) (he : b.elem ≠ 154) : id ≠ c := by
  obtain ⟨a, i, h, bs, h1, -⟩ := h
  rintro rfl
  rw [h1] at hb
  injection hb with hb
  rw [← hb] at he
  exact he rfl
/-- From H to H' the cursor may have gone on, nothing else that was has turned. -/
def CurTo (H H' : Heap) (c n : Nat) : Prop := Keep [c] H H' ∧ Cur H' c n
theorem CurTo.refl {H : Heap} {c n : Nat} (h : Cur H c n) : CurTo H H c n := ⟨Keep.refl _ _, h⟩
theorem CurTo.app {H H' : Heap} {c n : Nat} (h : CurTo H H' c n) (G : Heap) : CurTo H (H' ++ G) c n := ⟨h.1.trans (Keep.app [] _ G) (fun _ h _ => h) (by simp), h.2.app G⟩
theorem CurTo.next {H H1 H2 : Heap} {c n : Nat} (h : CurTo H H1 c n) (h2 : CurTo H1 H2 c n) : CurTo H H2 c n := ⟨h.1.trans h2.1 (fun _ h _ => h) (fun _ h _ => h), h2.2⟩
theorem CurTo.base {H G H' : Heap} {c n : Nat} (h : CurTo (H ++ G) H' c n) : CurTo H H' c n := ⟨h.1.base, h.2⟩
theorem CurTo.set {H H' : Heap} {c n : Nat} (h : CurTo H H' c n) {id : Nat} (hid : H.length ≤ id) (hc : c < id) (y : Option Blk) : CurTo H (H'.set id y) c n :=
  ⟨h.1.trans (Keep.set _ _) (fun _ h _ => h) (fun i hi hlt => by simp at hi; omega), h.2.keep (Keep.set _ _) (by simpa using hc)⟩
theorem CurTo.own {H H' H2 : Heap} {c n : Nat} (h : CurTo H H' c n) {f : List Nat} (hk : Keep f H' H2) (hf : ∀ i ∈ f, H.length ≤ i) (hc : c < H.length) : CurTo H H2 c n :=
  ⟨h.1.trans hk (fun _ h _ => h) (fun i hi hlt => by have := hf i hi; omega), h.2.keep hk (fun i hi => by have := hf i hi; omega)⟩
theorem CurTo.leave {H H' : Heap} {c n : Nat} (h : CurTo H H' c n) (hc : Cur H c n) (ws : List W) : CurTo H (Go.Ab.leave H H' ws) c n := by
  rcases leave_or H H' ws with e | ⟨e, -⟩ <;> rw [e]
  · exact h
  · exact CurTo.refl hc
theorem CurTo.len {H H' : Heap} {c n : Nat} (h : CurTo H H' c n) : H.length ≤ H'.length := h.1.1
/-- Of what was there only the cursor's block turned. -/
theorem CurTo.only {H H' : Heap} {c n : Nat} (h : CurTo H H' c n) (hc : Cur H c n) : onlyT (some 154) H H' = true := by
  unfold onlyT
  simp only [List.all_eq_true, List.mem_range, Bool.or_eq_true, decide_eq_true_eq]
  intro id hid
  by_cases he : id = c
  · subst he
    obtain ⟨a, i, h0, bs, h1, -⟩ := hc
    obtain ⟨a', i', h0', bs', h1', -⟩ := h.2
    have e1 := blkAt_some h1
    have e2 := blkAt_some h1'
    right
    rw [e1, e2]
    rfl
  · exact .inl (h.1.2 id hid (by simpa using he))

/-- A call of a function that draws. -/
theorem stpL_cur {call : Fun} {draw : Bool} {tm : Ab.T} {H : Heap} {Q : Ex → Ab.T → Heap → Prop} {fr : List Fr} {is : List I2} {f : Nat} {args : List V} {d : Option Nat} {K : V → Heap → Prop} {x y : List (Nat × Nat × Nat)} {c n : Nat} (h : Runs env f args H K) (hc : Cur H c n) (hto : ∀ v H', K v H' → CurTo H H' c n)
    (hk : ∀ v H', K v H' → stpL env call (some (v, H')) d draw is fr tm Q) (hw : env.wr f = true := by rfl) (hn : env.wt f = some 154 := by rfl) : stpL env call (guardCall env draw (.w (.lf (.fn f x y))) H (run env f args H)) d draw is fr tm Q := by
  obtain ⟨v, H', hr, hK⟩ := h
  have : guardCall env draw (.w (.lf (.fn f x y))) H (run env f args H) = some (v, H') := by
    rw [hr]
    unfold guardCall
    split
    · rfl
    · have h1 := hto v H' hK
      simp [hw, hn, h1.len, h1.only hc]
  rw [this]
  exact hk v H' hK

theorem and255 (a : Int) : 0 ≤ IntKind.i64.wrap ((BitVec.ofInt 64 a &&& 255#64).toNat : Nat) ∧ IntKind.i64.wrap ((BitVec.ofInt 64 a &&& 255#64).toNat : Nat) ≤ 255 := by
  have h : (BitVec.ofInt 64 a &&& 255#64).toNat ≤ 255 := by
    rw [BitVec.toNat_and]
    exact Nat.le_trans Nat.and_le_right (by decide)
  rw [wrap64 (by omega) (by omega)]
  omega
theorem l1Byte {H : Heap} {c n : Nat} (hc : Cur H c n) : Runs env 161 [.ptr c 0 0] H fun v H' => (∃ x : Int, v = .int x ∧ 0 ≤ x ∧ x ≤ 255) ∧ CurTo H H' c n := by
  have hc0 := hc
  obtain ⟨a, i, h, bs, h1, h2, h3, h4, h5, h6, h7⟩ := hc
  have hl := blkAt_len h1
  refine Runs.walk ok161 Try.func161 rfl (by simp [Try.f161]) fun Q hQ => ?_
  simp only [Try.f161, strip, stripL, stripI, stripG, chkT, tagsB, tagsL, tagD, addT, tagA, lookN, tagOp, elmT, ty22, ty24, ty33, ty40, ty44, ty54, ty55, ty63, ty171, ty175, ty176, ty183, Nat.reduceEqDiff, if_false, reduceIte, Option.getD_some, Option.getD_none, dstAt, dstOk, Nat.reduceLT, decide_true, if_true]
  have hset : ∀ y : Blk, blkAt (H.set c (some y)) c = some y := fun y => blkAt_set hl
  have hto : ∀ (i' h' : Int), 0 ≤ i' → i' ≤ n → CurTo H (H.set c (some ⟨154, .wr, [[.sl a n, .i .i64 i', .i .i64 h']]⟩)) c n := fun i' h' g1 g2 =>
    ⟨Keep.set _ _, a, i', h', bs, hset _, g1, g2, h4, h5, h6, by
      by_cases hb : bs = []
      · subst hb; exact Sl.nil _ _ _
      · exact h7.keep (Keep.set _ _) (fun id r he hi => by have := h6 id r he hb; simp at hi; omega)⟩
  simp [h1, hl, hset, builtinV, pureB, lenV, binV, binInt, cmpI, arI, IntKind.bits]
  refine selS_intro (fun hc1 => ?_) (fun hc1 => ?_)
  · simp at hc1
    obtain ⟨k, rfl⟩ : ∃ k : Nat, i = (k : Int) := ⟨i.toNat, by omega⟩
    have hk : k < bs.length := by omega
    obtain ⟨id3, r3, bl3, rfl, hb3, hbe3, hrow3⟩ := h7 k _ (by rw [List.getElem?_map, List.getElem?_eq_getElem hk]; rfl)
    have hid3 := blkAt_len hb3
    have hlt3 : id3 < c := h6 id3 r3 rfl (by rintro rfl; simp at hk)
    have hse : ∀ y : Option Blk, blkAt (H.set c y) id3 = some bl3 := fun y => by rw [blkAt_set_ne (by omega)]; exact hb3
    have hkn : k < n := by omega
    have hkI : (k : Int) < n := by omega
    have hw : IntKind.i64.wrap ((k : Int) + 1) = (k : Int) + 1 := wrap64 (by omega) (by omega)
    simp [hset, hl, hse, hid3, hbe3, hrow3, indexAddrV, elemIs, hkn, hkI, encU, binV, binInt, cmpI, arI, IntKind.bits, convV, hw]
    refine hQ _ _ _ (by simp) ?_
    simp [Try.f161]
    exact ⟨and255 _, (hto _ _ (by omega) (by omega)).leave hc0 _⟩
  · simp at hc1
    simp
    refine hQ _ _ _ (by simp) ?_
    simp [Try.f161]
    exact ⟨and255 _, (hto _ _ h2 h3).leave hc0 _⟩

theorem tmod_le {s k : Int} (hs : 0 ≤ s) (hk : 0 < k) : s.tmod k ≤ s := by
  rw [Int.tmod_eq_emod_of_nonneg hs]
  obtain ⟨a, rfl⟩ := Int.eq_ofNat_of_zero_le hs
  obtain ⟨b, rfl⟩ := Int.eq_ofNat_of_zero_le (show 0 ≤ k by omega)
  have := Nat.mod_le a b
  omega
theorem l1Below {H : Heap} {c n : Nat} (hc : Cur H c n) (k : Int) : Runs env 97 [.ptr c 0 0, .int k] H fun v H' => (∃ x : Int, v = .int x ∧ 0 ≤ x ∧ (0 < k → x < k) ∧ x ≤ 4294967295) ∧ CurTo H H' c n := by
  refine Runs.walk ok97 Try.func97 rfl (by simp [Try.f97]) fun Q hQ => ?_
  simp only [Try.f97, strip, stripL, stripI, stripG, chkT, tagsB, tagsL, tagD, addT, tagA, lookN, tagOp, elmT, ty22, ty24, ty33, ty40, ty44, ty54, ty55, ty63, ty171, ty175, ty176, ty183, Nat.reduceEqDiff, if_false, reduceIte, Option.getD_some, Option.getD_none, dstAt, dstOk, Nat.reduceLT, decide_true, if_true]
  have fin : ∀ (HF : Heap) (tm : Ab.T) (x : Int), tm 4 = .int x → 0 ≤ x → (0 < k → x < k) → x ≤ 4294967295 → CurTo H HF c n → Q .ret tm HF := by
    intro HF tm x t4 h1 h2 h3 hto
    refine hQ _ _ _ (by simp) ?_
    simp [Try.f97, t4]
    exact ⟨⟨h1, h2, h3⟩, hto.leave hc _⟩
  simp
  by_cases hk : k ≤ 0
  · simp [hk]
    exact fin _ _ 0 (by simp) (by omega) (by omega) (by omega) (CurTo.refl hc)
  have hk0 : ¬ k = 0 := by omega
  simp [hk]
  by_cases hk2 : k ≤ 256
  · simp [hk2]
    refine stpL_runs (l1Byte hc) ?_
    rintro _ H1 ⟨⟨x, rfl, hx1, hx2⟩, hto⟩
    simp [hk0]
    have h1 := Int.tmod_nonneg k hx1
    have h2 := Int.tmod_lt_of_pos x (show 0 < k by omega)
    exact fin _ _ (x.tmod k) (by simp) h1 (fun _ => h2) (by omega) hto
  · simp [hk2]
    refine stpL_runs (l1Byte hc) ?_
    rintro _ H1 ⟨⟨x, rfl, hx1, hx2⟩, hto1⟩
    simp
    refine stpL_runs (l1Byte hto1.2) ?_
    rintro _ H2 ⟨⟨y, rfl, hy1, hy2⟩, hto2⟩
    simp
    refine stpL_runs (l1Byte hto2.2) ?_
    rintro _ H3 ⟨⟨z, rfl, hz1, hz2⟩, hto3⟩
    simp
    refine stpL_runs (l1Byte hto3.2) ?_
    rintro _ H4 ⟨⟨w, rfl, hw1, hw2⟩, hto4⟩
    have g1 : IntKind.i64.wrap (x * 16777216) = x * 16777216 := wrap64 (by omega) (by omega)
    have g2 : IntKind.i64.wrap (y * 65536) = y * 65536 := wrap64 (by omega) (by omega)
    have g3 : IntKind.i64.wrap (x * 16777216 + y * 65536) = x * 16777216 + y * 65536 := wrap64 (by omega) (by omega)
    have g4 : IntKind.i64.wrap (z * 256) = z * 256 := wrap64 (by omega) (by omega)
    have g5 : IntKind.i64.wrap (x * 16777216 + y * 65536 + z * 256) = x * 16777216 + y * 65536 + z * 256 := wrap64 (by omega) (by omega)
    have g6 : IntKind.i64.wrap (x * 16777216 + y * 65536 + z * 256 + w) = x * 16777216 + y * 65536 + z * 256 + w := wrap64 (by omega) (by omega)
    simp [hk0, g1, g2, g3, g4, g5, g6]
    obtain ⟨s, hs⟩ : ∃ s, s = x * 16777216 + y * 65536 + z * 256 + w := ⟨_, rfl⟩
    have hs0 : 0 ≤ s := by omega
    have h1 := Int.tmod_nonneg k hs0
    have h2 := Int.tmod_lt_of_pos s (show 0 < k by omega)
    have h3 : s.tmod k ≤ s := tmod_le hs0 (by omega)
    refine fin _ _ (s.tmod k) ?_ h1 (fun _ => h2) (by omega) (((hto1.next hto2).next hto3).next hto4)
    simp [hs]

theorem l1Once {H : Heap} {c n : Nat} (hc : Cur H c n) (k : Int) : Runs env 99 [.ptr c 0 0, .int k] H fun v H' => (∃ b : Bool, v = .bool b) ∧ CurTo H H' c n := by
  refine Runs.walk ok99 Try.func99 rfl (by simp [Try.f99]) fun Q hQ => ?_
  simp only [Try.f99, strip, stripL, stripI, stripG, chkT, tagsB, tagsL, tagD, addT, tagA, lookN, tagOp, elmT, ty22, ty24, ty33, ty40, ty44, ty54, ty55, ty63, ty171, ty175, ty176, ty183, Nat.reduceEqDiff, if_false, reduceIte, Option.getD_some, Option.getD_none, dstAt, dstOk, Nat.reduceLT, decide_true, if_true]
  simp
  refine stpL_runs (l1Below hc k) ?_
  rintro _ H1 ⟨⟨x, rfl, hx1, hx2⟩, hto⟩
  simp
  refine hQ _ _ _ (by simp) ?_
  simp [Try.f99]
  exact ⟨by omega, hto.leave hc _⟩

theorem l1PickInt {H : Heap} {c n : Nat} (hc : Cur H c n) {a : Option (Nat × Nat)} {xs : List Int} (hs : Sl H 3 a (xs.map encI)) (hx : xs ≠ []) (hlen : xs.length ≤ 1048576) :
    Runs env 104 [.ptr c 0 0, .w (.lf (.sl a xs.length))] H fun v H' => (∃ x : Int, v = .int x ∧ x ∈ xs) ∧ CurTo H H' c n := by
  have hpos : 0 < xs.length := List.length_pos_iff.2 hx
  refine Runs.walk ok104 Try.func104 rfl (by simp [Try.f104]) fun Q hQ => ?_
  simp only [Try.f104, strip, stripL, stripI, stripG, chkT, tagsB, tagsL, tagD, addT, tagA, lookN, tagOp, elmT, ty22, ty24, ty33, ty40, ty44, ty54, ty55, ty63, ty171, ty175, ty176, ty183, Nat.reduceEqDiff, if_false, reduceIte, Option.getD_some, Option.getD_none, dstAt, dstOk, Nat.reduceLT, decide_true, if_true]
  simp [builtinV, pureB, lenV]
  refine stpL_runs (l1Below hc xs.length) ?_
  rintro _ H1 ⟨⟨x, rfl, hx1, hx2, -⟩, hto⟩
  have hxl := hx2 (by omega)
  obtain ⟨k, rfl⟩ : ∃ k : Nat, x = (k : Int) := ⟨x.toNat, by omega⟩
  have hk : k < xs.length := by omega
  obtain ⟨id3, r3, bl3, rfl, hb3, hbe3, hrow3⟩ := hs k _ (by rw [List.getElem?_map, List.getElem?_eq_getElem hk]; rfl)
  have hne := hc.ne hb3 (by rw [hbe3]; decide)
  have hb4 := hto.1.blk hb3 (by simpa using hne)
  have hid4 := blkAt_len hb4
  have hkI : (k : Int) < xs.length := by omega
  simp [hb4, hid4, hbe3, hrow3, indexAddrV, elemIs, hk, hkI, encI]
  refine hQ _ _ _ (by simp) ?_
  simp [Try.f104]
  exact hto.leave hc _

theorem l6DrawRight {H : Heap} {c n : Nat} (hc : Cur H c n) : Runs env 172 [.ptr c 0 0] H fun v H' => (∃ x : Vec, v = .agg x.enc) ∧ CurTo H H' c n := by
  have hcl := hc.lt
  refine Runs.walk ok172 Try.func172 rfl (by simp [Try.f172]) fun Q hQ => ?_
  simp only [Try.f172, strip, stripL, stripI, stripG, chkT, tagsB, tagsL, tagD, addT, tagA, lookN, tagOp, elmT, ty22, ty24, ty33, ty40, ty44, ty54, ty55, ty63, ty171, ty175, ty176, ty183, Nat.reduceEqDiff, if_false, reduceIte, Option.getD_some, Option.getD_none, dstAt, dstOk, Nat.reduceLT, decide_true, if_true]
  have fin : ∀ (HF : Heap) (tm : Ab.T) (x : Vec), tm 2 = .ptr H.length 0 0 → blkAt HF H.length = some ⟨28, .wr, [x.enc]⟩ → CurTo H HF c n → Q .ret tm HF := by
    intro HF tm x t2 hb hto
    refine hQ _ _ _ (by simp) ?_
    have hres : resT env.τ tm HF (Try.f172.results.toList) = some [W.agg x.enc] := by simp [Try.f172, t2, hb]
    rw [hres, optK_some]
    exact ⟨⟨x, rfl⟩, hto.leave hc _⟩
  have hcX := hc.app [some ⟨28, .wr, [[.i .i64 0, .i .i64 0, .i .i64 0, .i .i64 0]]⟩]
  have bzX : blkAt (H ++ [some ⟨28, .wr, [[.i .i64 0, .i .i64 0, .i .i64 0, .i .i64 0]]⟩]) H.length = some ⟨28, .wr, [[.i .i64 0, .i .i64 0, .i .i64 0, .i .i64 0]]⟩ := by simp
  have hlX : (H ++ [some ⟨28, .wr, [[.i .i64 0, .i .i64 0, .i .i64 0, .i .i64 0]]⟩] : Heap).length = H.length + 1 := by simp
  simp
  refine stpL_runs (l1Below hcX 4) ?_
  rintro _ H1 ⟨⟨x, rfl, hx⟩, hto1⟩
  simp
  refine stpL_runs (l1Below hto1.2 4) ?_
  rintro _ H2 ⟨⟨y, rfl, hy⟩, hto2⟩
  have hto := hto1.next hto2
  have bz2 := hto.1.blk bzX (by simp; omega)
  have dz2 := blkAt_len bz2
  have hcc2 := hto.base
  have hl2 := hto.len
  rw [hlX] at hl2
  obtain ⟨r, hr⟩ : ∃ r, r = IntKind.i64.wrap (1 + x) := ⟨_, rfl⟩
  simp [← hr]
  have hcM := hto.2.app [some ⟨28, .wr, [[.i .i64 r, .i .i64 0, .i .i64 0, .i .i64 y]]⟩]
  refine stpL_cur (l1Below hcM 3) hcM (fun v H' h => h.2) ?_
  rintro _ H3 ⟨⟨z, rfl, hz⟩, hto3⟩
  have b3 : blkAt H3 H2.length = some ⟨28, .wr, [[.i .i64 r, .i .i64 0, .i .i64 0, .i .i64 y]]⟩ := hto3.1.blk (by simp) (by simp; omega)
  have bz3 := hto3.1.blk (blkAt_app bz2 _) (by simp; omega)
  have d3 := blkAt_len b3
  have dz3 := blkAt_len bz3
  have hcc3 := hcc2.next hto3.base
  obtain ⟨g, hg⟩ : ∃ g, g = IntKind.i64.wrap (r + z) := ⟨_, rfl⟩
  have hset : ∀ (Y : Heap) (y : Blk), H2.length < Y.length → blkAt (List.set Y H2.length (some y)) H2.length = some y := fun Y y h => blkAt_set h
  have hne3 : ∀ (Y : Heap) (y : Option Blk), blkAt (List.set Y H2.length y) H.length = blkAt Y H.length := fun Y y => blkAt_set_ne (by omega)
  simp [b3, d3, ← hg, hset]
  refine selS_intro (fun hq => ?_) (fun hq => ?_)
  · simp
    have hcS := (hcc3.set (id := H2.length) (by omega) (by omega) (some ⟨28, .wr, [[.i .i64 r, .i .i64 0, .i .i64 g, .i .i64 y]]⟩))
    refine stpL_runs (l1Below hcS.2 3) ?_
    rintro _ H4 ⟨⟨u, rfl, hu⟩, hto4⟩
    have b4 := hto4.1.blk (blkAt_set d3) (by simp; omega)
    have bz4 := hto4.1.blk (show blkAt (H3.set H2.length _) H.length = _ from (hne3 _ _).trans bz3) (by simp; omega)
    have d4 := blkAt_len b4
    have dz4 := blkAt_len bz4
    have hcc4 := hcS.next hto4
    simp [b4, d4, bz4, dz4, hset, hne3]
    refine fin _ _ ⟨_, _, _, _⟩ ?_ (blkAt_set (Nat.lt_of_lt_of_eq dz4 (List.length_set).symm)) ((hcc4.set (by omega) (by omega) _).set (by omega) (by omega) _)
    simp
  · simp [b3, d3, bz3, dz3, hset, hne3]
    refine fin _ _ ⟨_, _, _, _⟩ ?_ (blkAt_set (Nat.lt_of_lt_of_eq dz3 (List.length_set).symm)) ((hcc3.set (by omega) (by omega) _).set (by omega) (by omega) _)
    simp

theorem l6Draw {H : Heap} {c n : Nat} (hc : Cur H c n) : Runs env 145 [.ptr c 0 0] H fun v H' => (∃ x : Vec, v = .agg x.enc) ∧ CurTo H H' c n := by
  have hcl := hc.lt
  refine Runs.walk ok145 Try.func145 rfl (by simp [Try.f145]) fun Q hQ => ?_
  simp only [Try.f145, strip, stripL, stripI, stripG, chkT, tagsB, tagsL, tagD, addT, tagA, lookN, tagOp, elmT, ty22, ty24, ty33, ty40, ty44, ty54, ty55, ty63, ty171, ty175, ty176, ty183, Nat.reduceEqDiff, if_false, reduceIte, Option.getD_some, Option.getD_none, dstAt, dstOk, Nat.reduceLT, decide_true, if_true]
  have fin : ∀ (HF : Heap) (tm : Ab.T) (x : Vec), tm 2 = .ptr H.length 0 0 → blkAt HF H.length = some ⟨28, .wr, [x.enc]⟩ → CurTo H HF c n → Q .ret tm HF := by
    intro HF tm x t2 hb hto
    refine hQ _ _ _ (by simp) ?_
    have hres : resT env.τ tm HF (Try.f145.results.toList) = some [W.agg x.enc] := by simp [Try.f145, t2, hb]
    rw [hres, optK_some]
    exact ⟨⟨x, rfl⟩, hto.leave hc _⟩
  have hcX := hc.app [some ⟨28, .wr, [[.i .i64 0, .i .i64 0, .i .i64 0, .i .i64 0]]⟩]
  have bzX : blkAt (H ++ [some ⟨28, .wr, [[.i .i64 0, .i .i64 0, .i .i64 0, .i .i64 0]]⟩]) H.length = some ⟨28, .wr, [[.i .i64 0, .i .i64 0, .i .i64 0, .i .i64 0]]⟩ := by simp
  have hlX : (H ++ [some ⟨28, .wr, [[.i .i64 0, .i .i64 0, .i .i64 0, .i .i64 0]]⟩] : Heap).length = H.length + 1 := by simp
  simp
  refine stpL_runs (l6DrawRight hcX) ?_
  rintro _ H1 ⟨⟨x, rfl⟩, hto1⟩
  have bz1 := hto1.1.blk bzX (by simp; omega)
  have dz1 := blkAt_len bz1
  have hcc1 := hto1.base
  have hl1 := hto1.len
  rw [hlX] at hl1
  simp [Vec.enc]
  have hcM := hto1.2.app [some ⟨28, .wr, [[.i .i64 x.root, .i .i64 x.cost, .i .i64 x.bridge, .i .i64 x.port]]⟩]
  refine stpL_runs (l1Below hcM 10) ?_
  rintro _ H2 ⟨⟨k, rfl, -⟩, hto2⟩
  have b3 : blkAt H2 H1.length = some ⟨28, .wr, [[.i .i64 x.root, .i .i64 x.cost, .i .i64 x.bridge, .i .i64 x.port]]⟩ := hto2.1.blk (by simp) (by simp; omega)
  have bz2 := hto2.1.blk (blkAt_app bz1 _) (by simp; omega)
  have d3 := blkAt_len b3
  have dz2 := blkAt_len bz2
  have hcc2 := hcc1.next hto2.base
  have hne3 : ∀ (Y : Heap) (y : Option Blk), blkAt (List.set Y H1.length y) H.length = blkAt Y H.length := fun Y y => blkAt_set_ne (by omega)
  have hne4 : ∀ (Y : Heap) (y : Blk), H1.length < Y.length → blkAt (List.set Y H1.length (some y)) H1.length = some y := fun Y y h => blkAt_set h
  by_cases c0 : k = 0
  · simp [c0]
    have hcL := hto2.2.app [some ⟨3, .wr, [encI 0, encI 9, encI 10]⟩]
    simp only [encI] at hcL
    refine stpL_runs (l1PickInt (xs := [0, 9, 10]) hcL (Sl.of (by simp [encI])) (by simp) (by simp)) ?_
    rintro _ H3 ⟨⟨y, rfl, -⟩, hto3⟩
    have hto3 := hto3.base
    have b33 := hto3.1.blk b3 (by simp; omega)
    have bz3 := hto3.1.blk bz2 (by simp; omega)
    have d33 := blkAt_len b33
    have dz3 := blkAt_len bz3
    have hcc3 := hcc2.next hto3
    simp [b33, d33, bz3, dz3, hne3, hne4, Vec.enc]
    refine fin _ _ ⟨y, x.cost, x.bridge, x.port⟩ ?_ (blkAt_set (Nat.lt_of_lt_of_eq dz3 (List.length_set).symm)) ((hcc3.set (by omega) (by omega) _).set (by omega) (by omega) _)
    simp
  by_cases c1 : k = 1
  · simp [c1]
    have hcL := hto2.2.app [some ⟨3, .wr, [encI (-1), encI 0, encI 20, encI 21]⟩]
    simp only [encI] at hcL
    refine stpL_runs (l1PickInt (xs := [(-1), 0, 20, 21]) hcL (Sl.of (by simp [encI])) (by simp) (by simp)) ?_
    rintro _ H3 ⟨⟨y, rfl, -⟩, hto3⟩
    have hto3 := hto3.base
    have b33 := hto3.1.blk b3 (by simp; omega)
    have bz3 := hto3.1.blk bz2 (by simp; omega)
    have d33 := blkAt_len b33
    have dz3 := blkAt_len bz3
    have hcc3 := hcc2.next hto3
    simp [b33, d33, bz3, dz3, hne3, hne4, Vec.enc]
    refine fin _ _ ⟨x.root, y, x.bridge, x.port⟩ ?_ (blkAt_set (Nat.lt_of_lt_of_eq dz3 (List.length_set).symm)) ((hcc3.set (by omega) (by omega) _).set (by omega) (by omega) _)
    simp
  by_cases c2 : k = 2
  · simp [c2]
    have hcL := hto2.2.app [some ⟨3, .wr, [encI 0, encI 9, encI 10]⟩]
    simp only [encI] at hcL
    refine stpL_runs (l1PickInt (xs := [0, 9, 10]) hcL (Sl.of (by simp [encI])) (by simp) (by simp)) ?_
    rintro _ H3 ⟨⟨y, rfl, -⟩, hto3⟩
    have hto3 := hto3.base
    have b33 := hto3.1.blk b3 (by simp; omega)
    have bz3 := hto3.1.blk bz2 (by simp; omega)
    have d33 := blkAt_len b33
    have dz3 := blkAt_len bz3
    have hcc3 := hcc2.next hto3
    simp [b33, d33, bz3, dz3, hne3, hne4, Vec.enc]
    refine fin _ _ ⟨x.root, x.cost, y, x.port⟩ ?_ (blkAt_set (Nat.lt_of_lt_of_eq dz3 (List.length_set).symm)) ((hcc3.set (by omega) (by omega) _).set (by omega) (by omega) _)
    simp
  by_cases c3 : k = 3
  · simp [c3]
    have hcL := hto2.2.app [some ⟨3, .wr, [encI (-1), encI 3, encI 4]⟩]
    simp only [encI] at hcL
    refine stpL_runs (l1PickInt (xs := [(-1), 3, 4]) hcL (Sl.of (by simp [encI])) (by simp) (by simp)) ?_
    rintro _ H3 ⟨⟨y, rfl, -⟩, hto3⟩
    have hto3 := hto3.base
    have b33 := hto3.1.blk b3 (by simp; omega)
    have bz3 := hto3.1.blk bz2 (by simp; omega)
    have d33 := blkAt_len b33
    have dz3 := blkAt_len bz3
    have hcc3 := hcc2.next hto3
    simp [b33, d33, bz3, dz3, hne3, hne4, Vec.enc]
    refine fin _ _ ⟨x.root, x.cost, x.bridge, y⟩ ?_ (blkAt_set (Nat.lt_of_lt_of_eq dz3 (List.length_set).symm)) ((hcc3.set (by omega) (by omega) _).set (by omega) (by omega) _)
    simp
  simp [c0, c1, c2, c3, b3, d3, bz2, dz2]
  refine fin _ _ ⟨_, _, _, _⟩ ?_ (blkAt_set dz2) (hcc2.set (by omega) (by omega) _)
  simp

theorem l7DrawRight {H : Heap} {c n : Nat} (hc : Cur H c n) : Runs env 171 [.ptr c 0 0] H fun v H' => (∃ x : Port, v = .agg x.enc) ∧ CurTo H H' c n := by
  have hcl := hc.lt
  refine Runs.walk ok171 Try.func171 rfl (by simp [Try.f171]) fun Q hQ => ?_
  simp only [Try.f171, strip, stripL, stripI, stripG, chkT, tagsB, tagsL, tagD, addT, tagA, lookN, tagOp, elmT, ty22, ty24, ty33, ty40, ty44, ty54, ty55, ty63, ty171, ty175, ty176, ty183, Nat.reduceEqDiff, if_false, reduceIte, Option.getD_some, Option.getD_none, dstAt, dstOk, Nat.reduceLT, decide_true, if_true]
  have fin : ∀ (HF : Heap) (tm : Ab.T) (x : Port), tm 2 = .ptr H.length 0 0 → blkAt HF H.length = some ⟨43, .wr, [x.enc]⟩ → CurTo H HF c n → Q .ret tm HF := by
    intro HF tm x t2 hb hto
    refine hQ _ _ _ (by simp) ?_
    have hres : resT env.τ tm HF (Try.f171.results.toList) = some [W.agg x.enc] := by simp [Try.f171, t2, hb]
    rw [hres, optK_some]
    exact ⟨⟨x, rfl⟩, hto.leave hc _⟩
  have hcX := hc.app [some ⟨43, .wr, [[.b false, .b false, .i .i64 0, .i .i64 0, .i .i64 0, .i .i64 0, .i .i64 0, .i .i64 0, .i .i64 0, .i .i64 0, .b false]]⟩]
  have bzX : blkAt (H ++ [some ⟨43, .wr, [[.b false, .b false, .i .i64 0, .i .i64 0, .i .i64 0, .i .i64 0, .i .i64 0, .i .i64 0, .i .i64 0, .i .i64 0, .b false]]⟩]) H.length = some ⟨43, .wr, [[.b false, .b false, .i .i64 0, .i .i64 0, .i .i64 0, .i .i64 0, .i .i64 0, .i .i64 0, .i .i64 0, .i .i64 0, .b false]]⟩ := by simp
  have hlX : (H ++ [some ⟨43, .wr, [[.b false, .b false, .i .i64 0, .i .i64 0, .i .i64 0, .i .i64 0, .i .i64 0, .i .i64 0, .i .i64 0, .i .i64 0, .b false]]⟩] : Heap).length = H.length + 1 := by simp
  have eO := fun H p => l7Open H p
  have eF := fun H p => specFade H p
  have eT := fun H p r => specTurn H p r
  have eC := fun H p v h => specClaim H p v h
  simp only [Port.enc, Vec.enc] at eO eF eT eC
  simp
  refine stpL_runs (l1Once hcX 5) ?_
  rintro _ H1 ⟨⟨b, rfl⟩, hto1⟩
  have bz1 := hto1.1.blk bzX (by simp; omega)
  have dz1 := blkAt_len bz1
  have hcc1 := hto1.base
  have hl1 := hto1.len
  rw [hlX] at hl1
  cases b
  rotate_left
  · simp [bz1, dz1]
    refine fin _ _ ⟨_, _, ⟨_, _, _, _⟩, _, _, _, _, _⟩ ?_ (blkAt_set dz1) (hcc1.set (by omega) (by omega) _)
    simp
  simp
  have hcL := hto1.2.app [some ⟨3, .wr, [encI 0, encI 2, encI 4]⟩]
  simp only [encI] at hcL
  refine stpL_runs (l1PickInt (xs := [0, 2, 4]) hcL (Sl.of (by simp [encI])) (by simp) (by simp)) ?_
  rintro _ H2 ⟨⟨w, rfl, -⟩, hto2⟩
  have bz2 := hto2.1.blk (blkAt_app bz1 _) (by simp; omega)
  have dz2 := blkAt_len bz2
  have hcc2 := hcc1.next hto2.base
  have hl2 := hto2.base.len
  simp
  have hcM := hto2.2.app [some ⟨43, .wr, [[.b true, .b false, .i .i64 0, .i .i64 0, .i .i64 0, .i .i64 0, .i .i64 0, .i .i64 0, .i .i64 2, .i .i64 w, .b false]]⟩]
  refine stpL_runs (l1Once hcM 3) ?_
  rintro _ H3 ⟨⟨b, rfl⟩, hto3⟩
  have b3 : blkAt H3 H2.length = some ⟨43, .wr, [[.b true, .b false, .i .i64 0, .i .i64 0, .i .i64 0, .i .i64 0, .i .i64 0, .i .i64 0, .i .i64 2, .i .i64 w, .b false]]⟩ := hto3.1.blk (by simp) (by simp; omega)
  have bz3 := hto3.1.blk (blkAt_app bz2 _) (by simp; omega)
  have hcc3 := hcc2.next hto3.base
  have hne3 : ∀ (Y : Heap) (y : Option Blk), blkAt (List.set Y H2.length y) H.length = blkAt Y H.length := fun Y y => blkAt_set_ne (by omega)
  have d3 := blkAt_len b3
  have dz3 := blkAt_len bz3
  obtain ⟨p0, hp0⟩ : ∃ p0 : Port, p0 = ⟨true, false, ⟨0, 0, 0, 0⟩, 0, 0, 2, w, false⟩ := ⟨_, rfl⟩
  cases b
  rotate_left
  · simp
    simp [b3, d3]
    have e0 := fun H => l7Open H p0
    rw [hp0] at e0
    simp only [Port.enc] at e0
    simp [e0]
    refine stpL_runs (l1Below hcc3.2 3) ?_
    rintro _ H7 ⟨⟨r, rfl, -⟩, hto7⟩
    have bz7 := hto7.1.blk bz3 (by simp; omega)
    have dz7 := blkAt_len bz7
    have et := fun H => specTurn H (⟨true, false, ⟨0, 0, 0, 0⟩, 0, 0, 2, w, openBy 2 w⟩ : Port) (IntKind.i64.wrap (1 + r))
    simp only [Port.enc] at et
    simp [et, bz7, dz7]
    refine fin _ _ (turnP (⟨true, false, ⟨0, 0, 0, 0⟩, 0, 0, 2, w, openBy 2 w⟩ : Port) (IntKind.i64.wrap (1 + r))) ?_ (blkAt_set dz7) ((hcc3.next hto7).set (by omega) (by omega) _)
    simp
  simp [b3, d3]
  have e0 := fun H => l7Open H p0
  rw [hp0] at e0
  simp only [Port.enc] at e0
  simp [e0]
  obtain ⟨p1, hp1⟩ : ∃ p1 : Port, p1 = ⟨true, false, ⟨0, 0, 0, 0⟩, 0, 0, 2, w, openBy 2 w⟩ := ⟨_, rfl⟩
  refine stpL_runs (l6DrawRight hto3.2) ?_
  rintro _ H4 ⟨⟨v, rfl⟩, hto4⟩
  simp [Vec.enc]
  refine stpL_runs (l1Below hto4.2 4) ?_
  rintro _ H5 ⟨⟨h, rfl, -⟩, hto5⟩
  have hto45 := hto4.next hto5
  have b5 := hto45.1.blk b3 (by simp; omega)
  have bz5 := hto45.1.blk bz3 (by simp; omega)
  have d5 := blkAt_len b5
  have hcc5 := hcc3.next hto45
  have e1 := fun H => specClaim H p1 v h
  rw [hp1] at e1
  simp only [Port.enc, Vec.enc] at e1
  obtain ⟨p2, hp2⟩ : ∃ p2 : Port, p2 = claimP p1 v h := ⟨_, rfl⟩
  rw [← hp1, ← hp2] at e1
  simp [e1, b5, d5]
  have bs := blkAt_set (b := ⟨43, .wr, [[.b p2.up, .b p2.has, .i .i64 p2.vec.root, .i .i64 p2.vec.cost, .i .i64 p2.vec.bridge, .i .i64 p2.vec.port, .i .i64 p2.hops, .i .i64 p2.left, .i .i64 p2.role, .i .i64 p2.wait, .b p2.opn]]⟩) d5
  have bzs := (hne3 H5 (some ⟨43, .wr, [[.b p2.up, .b p2.has, .i .i64 p2.vec.root, .i .i64 p2.vec.cost, .i .i64 p2.vec.bridge, .i .i64 p2.vec.port, .i .i64 p2.hops, .i .i64 p2.left, .i .i64 p2.role, .i .i64 p2.wait, .b p2.opn]]⟩)).trans bz5
  have hcs := hcc5.set (id := H2.length) (by omega) (by omega) (some ⟨43, .wr, [[.b p2.up, .b p2.has, .i .i64 p2.vec.root, .i .i64 p2.vec.cost, .i .i64 p2.vec.bridge, .i .i64 p2.vec.port, .i .i64 p2.hops, .i .i64 p2.left, .i .i64 p2.role, .i .i64 p2.wait, .b p2.opn]]⟩)
  refine stpL_runs (l1Once hcs.2 3) ?_
  rintro _ H6 ⟨⟨b, rfl⟩, hto6⟩
  have b6 := hto6.1.blk bs (by simp; omega)
  have bz6 := hto6.1.blk bzs (by simp; omega)
  have d6 := blkAt_len b6
  have dz6 := blkAt_len bz6
  have hcc6 := hcs.next hto6
  have eo := fun H => l7Open H p2
  simp only [Port.enc] at eo
  cases b
  · simp [b6, d6, eo]
    refine stpL_runs (l1Below hcc6.2 3) ?_
    rintro _ H7 ⟨⟨r, rfl, -⟩, hto7⟩
    have bz7 := hto7.1.blk bz6 (by simp; omega)
    have dz7 := blkAt_len bz7
    have et := fun H => specTurn H ({ p2 with opn := openBy p2.role p2.wait } : Port) (IntKind.i64.wrap (1 + r))
    simp only [Port.enc] at et
    simp [et, bz7, dz7]
    refine fin _ _ (turnP ({ p2 with opn := openBy p2.role p2.wait } : Port) (IntKind.i64.wrap (1 + r))) ?_ (blkAt_set dz7) ((hcc6.next hto7).set (by omega) (by omega) _)
    simp
  · have ef := fun H => specFade H p2
    obtain ⟨p3, hp3⟩ : ∃ p3 : Port, p3 = fadeP p2 := ⟨_, rfl⟩
    rw [← hp3] at ef
    simp only [Port.enc] at ef
    have eo3 := fun H => l7Open H p3
    simp only [Port.enc] at eo3
    have hset6 : ∀ y : Blk, blkAt (List.set H6 H2.length (some y)) H2.length = some y := fun y => blkAt_set d6
    simp [b6, d6, ef, hset6, eo3]
    have bzs6 := (hne3 H6 (some ⟨43, .wr, [[.b p3.up, .b p3.has, .i .i64 p3.vec.root, .i .i64 p3.vec.cost, .i .i64 p3.vec.bridge, .i .i64 p3.vec.port, .i .i64 p3.hops, .i .i64 p3.left, .i .i64 p3.role, .i .i64 p3.wait, .b p3.opn]]⟩)).trans bz6
    have hcs6 := hcc6.set (id := H2.length) (by omega) (by omega) (some ⟨43, .wr, [[.b p3.up, .b p3.has, .i .i64 p3.vec.root, .i .i64 p3.vec.cost, .i .i64 p3.vec.bridge, .i .i64 p3.vec.port, .i .i64 p3.hops, .i .i64 p3.left, .i .i64 p3.role, .i .i64 p3.wait, .b p3.opn]]⟩)
    refine stpL_runs (l1Below hcs6.2 3) ?_
    rintro _ H7 ⟨⟨r, rfl, -⟩, hto7⟩
    have bz7 := hto7.1.blk bzs6 (by simp; omega)
    have dz7 := blkAt_len bz7
    have et := fun H => specTurn H ({ p3 with opn := openBy p3.role p3.wait } : Port) (IntKind.i64.wrap (1 + r))
    simp only [Port.enc] at et
    simp [et, bz7, dz7]
    refine fin _ _ (turnP ({ p3 with opn := openBy p3.role p3.wait } : Port) (IntKind.i64.wrap (1 + r))) ?_ (blkAt_set dz7) ((hcs6.next hto7).set (by omega) (by omega) _)
    simp

theorem l7Draw {H : Heap} {c n : Nat} (hc : Cur H c n) : Runs env 143 [.ptr c 0 0] H fun v H' => (∃ x : Port, v = .agg x.enc) ∧ CurTo H H' c n := by
  have hcl := hc.lt
  refine Runs.walk ok143 Try.func143 rfl (by simp [Try.f143]) fun Q hQ => ?_
  simp only [Try.f143, strip, stripL, stripI, stripG, chkT, tagsB, tagsL, tagD, addT, tagA, lookN, tagOp, elmT, ty22, ty24, ty33, ty40, ty44, ty54, ty55, ty63, ty171, ty175, ty176, ty183, Nat.reduceEqDiff, if_false, reduceIte, Option.getD_some, Option.getD_none, dstAt, dstOk, Nat.reduceLT, decide_true, if_true]
  have fin : ∀ (HF : Heap) (tm : Ab.T) (x : Port), tm 2 = .ptr H.length 0 0 → blkAt HF H.length = some ⟨43, .wr, [x.enc]⟩ → CurTo H HF c n → Q .ret tm HF := by
    intro HF tm x t2 hb hto
    refine hQ _ _ _ (by simp) ?_
    have hres : resT env.τ tm HF (Try.f143.results.toList) = some [W.agg x.enc] := by simp [Try.f143, t2, hb]
    rw [hres, optK_some]
    exact ⟨⟨x, rfl⟩, hto.leave hc _⟩
  have hcX := hc.app [some ⟨43, .wr, [[.b false, .b false, .i .i64 0, .i .i64 0, .i .i64 0, .i .i64 0, .i .i64 0, .i .i64 0, .i .i64 0, .i .i64 0, .b false]]⟩]
  have bzX : blkAt (H ++ [some ⟨43, .wr, [[.b false, .b false, .i .i64 0, .i .i64 0, .i .i64 0, .i .i64 0, .i .i64 0, .i .i64 0, .i .i64 0, .i .i64 0, .b false]]⟩]) H.length = some ⟨43, .wr, [[.b false, .b false, .i .i64 0, .i .i64 0, .i .i64 0, .i .i64 0, .i .i64 0, .i .i64 0, .i .i64 0, .i .i64 0, .b false]]⟩ := by simp
  have hlX : (H ++ [some ⟨43, .wr, [[.b false, .b false, .i .i64 0, .i .i64 0, .i .i64 0, .i .i64 0, .i .i64 0, .i .i64 0, .i .i64 0, .i .i64 0, .b false]]⟩] : Heap).length = H.length + 1 := by simp
  simp
  refine stpL_runs (l7DrawRight hcX) ?_
  rintro _ H1 ⟨⟨x, rfl⟩, hto1⟩
  have bz1 := hto1.1.blk bzX (by simp; omega)
  have dz1 := blkAt_len bz1
  have hcc1 := hto1.base
  have hl1 := hto1.len
  rw [hlX] at hl1
  simp [Port.enc]
  have hcM := hto1.2.app [some ⟨43, .wr, [[.b x.up, .b x.has, .i .i64 x.vec.root, .i .i64 x.vec.cost, .i .i64 x.vec.bridge, .i .i64 x.vec.port, .i .i64 x.hops, .i .i64 x.left, .i .i64 x.role, .i .i64 x.wait, .b x.opn]]⟩]
  refine stpL_runs (l1Below hcM 12) ?_
  rintro _ H2 ⟨⟨k, rfl, -⟩, hto2⟩
  have b3 : blkAt H2 H1.length = some ⟨43, .wr, [[.b x.up, .b x.has, .i .i64 x.vec.root, .i .i64 x.vec.cost, .i .i64 x.vec.bridge, .i .i64 x.vec.port, .i .i64 x.hops, .i .i64 x.left, .i .i64 x.role, .i .i64 x.wait, .b x.opn]]⟩ := hto2.1.blk (by simp) (by simp; omega)
  have bz2 := hto2.1.blk (blkAt_app bz1 _) (by simp; omega)
  have d3 := blkAt_len b3
  have dz2 := blkAt_len bz2
  have hcc2 := hcc1.next hto2.base
  have hne3 : ∀ (Y : Heap) (y : Option Blk), blkAt (List.set Y H1.length y) H.length = blkAt Y H.length := fun Y y => blkAt_set_ne (by omega)
  have hne4 : ∀ (Y : Heap) (y : Blk), H1.length < Y.length → blkAt (List.set Y H1.length (some y)) H1.length = some y := fun Y y h => blkAt_set h
  by_cases c0 : k = 0
  · simp [c0]
    simp [b3, d3, bz2, dz2, hne3, hne4]
    refine fin _ _ ⟨!x.up, x.has, x.vec, x.hops, x.left, x.role, x.wait, x.opn⟩ ?_ (blkAt_set (Nat.lt_of_lt_of_eq dz2 (List.length_set).symm)) ((hcc2.set (by omega) (by omega) _).set (by omega) (by omega) _)
    simp
  by_cases c1 : k = 1
  · simp [c1]
    refine stpL_runs (l6Draw hto2.2) ?_
    rintro _ H3 ⟨⟨y, rfl⟩, hto3⟩
    have b33 := hto3.1.blk b3 (by simp; omega)
    have bz3 := hto3.1.blk bz2 (by simp; omega)
    have d33 := blkAt_len b33
    have dz3 := blkAt_len bz3
    have hcc3 := hcc2.next hto3
    simp [b33, d33, bz3, dz3, hne3, hne4, Vec.enc]
    refine fin _ _ ⟨x.up, x.has, y, x.hops, x.left, x.role, x.wait, x.opn⟩ ?_ (blkAt_set (Nat.lt_of_lt_of_eq dz3 (List.length_set).symm)) ((hcc3.set (by omega) (by omega) _).set (by omega) (by omega) _)
    simp
  by_cases c2 : k = 2
  · simp [c2]
    have hcL := hto2.2.app [some ⟨3, .wr, [encI 0, encI 1, encI 3, encI 4]⟩]
    simp only [encI] at hcL
    refine stpL_runs (l1PickInt (xs := [0, 1, 3, 4]) hcL (Sl.of (by simp [encI])) (by simp) (by simp)) ?_
    rintro _ H3 ⟨⟨y, rfl, -⟩, hto3⟩
    have hto3 := hto3.base
    have b33 := hto3.1.blk b3 (by simp; omega)
    have bz3 := hto3.1.blk bz2 (by simp; omega)
    have d33 := blkAt_len b33
    have dz3 := blkAt_len bz3
    have hcc3 := hcc2.next hto3
    simp [b33, d33, bz3, dz3, hne3, hne4, Vec.enc]
    refine fin _ _ ⟨x.up, x.has, x.vec, x.hops, y, x.role, x.wait, x.opn⟩ ?_ (blkAt_set (Nat.lt_of_lt_of_eq dz3 (List.length_set).symm)) ((hcc3.set (by omega) (by omega) _).set (by omega) (by omega) _)
    simp
  by_cases c3 : k = 3
  · simp [c3]
    refine stpL_runs (l1Below hto2.2 6) ?_
    rintro _ H3 ⟨⟨y, rfl, -⟩, hto3⟩
    have b33 := hto3.1.blk b3 (by simp; omega)
    have bz3 := hto3.1.blk bz2 (by simp; omega)
    have d33 := blkAt_len b33
    have dz3 := blkAt_len bz3
    have hcc3 := hcc2.next hto3
    simp [b33, d33, bz3, dz3, hne3, hne4, Vec.enc]
    refine fin _ _ ⟨x.up, x.has, x.vec, x.hops, x.left, IntKind.i64.wrap (y - 1), x.wait, x.opn⟩ ?_ (blkAt_set (Nat.lt_of_lt_of_eq dz3 (List.length_set).symm)) ((hcc3.set (by omega) (by omega) _).set (by omega) (by omega) _)
    simp
  by_cases c4 : k = 4
  · simp [c4]
    simp [b3, d3, bz2, dz2, hne3, hne4]
    refine fin _ _ ⟨x.up, x.has, x.vec, x.hops, x.left, x.role, x.wait, !x.opn⟩ ?_ (blkAt_set (Nat.lt_of_lt_of_eq dz2 (List.length_set).symm)) ((hcc2.set (by omega) (by omega) _).set (by omega) (by omega) _)
    simp
  by_cases c5 : k = 5
  · simp [c5]
    have hcL := hto2.2.app [some ⟨3, .wr, [encI (-1), encI 4, encI 5]⟩]
    simp only [encI] at hcL
    refine stpL_runs (l1PickInt (xs := [(-1), 4, 5]) hcL (Sl.of (by simp [encI])) (by simp) (by simp)) ?_
    rintro _ H3 ⟨⟨y, rfl, -⟩, hto3⟩
    have hto3 := hto3.base
    have b33 := hto3.1.blk b3 (by simp; omega)
    have bz3 := hto3.1.blk bz2 (by simp; omega)
    have d33 := blkAt_len b33
    have dz3 := blkAt_len bz3
    have hcc3 := hcc2.next hto3
    simp [b33, d33, bz3, dz3, hne3, hne4, Vec.enc]
    refine fin _ _ ⟨x.up, x.has, x.vec, x.hops, x.left, x.role, y, x.opn⟩ ?_ (blkAt_set (Nat.lt_of_lt_of_eq dz3 (List.length_set).symm)) ((hcc3.set (by omega) (by omega) _).set (by omega) (by omega) _)
    simp
  simp [c0, c1, c2, c3, c4, c5, b3, d3, bz2, dz2]
  refine fin _ _ ⟨_, _, ⟨_, _, _, _⟩, _, _, _, _, _⟩ ?_ (blkAt_set dz2) (hcc2.set (by omega) (by omega) _)
  simp

theorem l8DrawIn {H : Heap} {c n : Nat} (hc : Cur H c n) : Runs env 144 [.ptr c 0 0] H fun v H' => (∃ x : In, v = .agg x.enc) ∧ CurTo H H' c n := by
  have hcl := hc.lt
  refine Runs.walk ok144 Try.func144 rfl (by simp [Try.f144]) fun Q hQ => ?_
  simp only [Try.f144, strip, stripL, stripI, stripG, chkT, tagsB, tagsL, tagD, addT, tagA, lookN, tagOp, elmT, ty22, ty24, ty33, ty40, ty44, ty54, ty55, ty63, ty171, ty175, ty176, ty183, Nat.reduceEqDiff, if_false, reduceIte, Option.getD_some, Option.getD_none, dstAt, dstOk, Nat.reduceLT, decide_true, if_true]
  have fin : ∀ (HF : Heap) (tm : Ab.T) (x : In), tm 2 = .ptr H.length 0 0 → blkAt HF H.length = some ⟨30, .wr, [x.enc]⟩ → CurTo H HF c n → Q .ret tm HF := by
    intro HF tm x t2 hb hto
    refine hQ _ _ _ (by simp) ?_
    have hres : resT env.τ tm HF (Try.f144.results.toList) = some [W.agg x.enc] := by simp [Try.f144, t2, hb]
    rw [hres, optK_some]
    exact ⟨⟨x, rfl⟩, hto.leave hc _⟩
  have hcX := hc.app [some ⟨30, .wr, [[.i .i64 0, .i .i64 0, .i .i64 0, .i .i64 0, .i .i64 0, .i .i64 0, .i .i64 0, .b false]]⟩]
  have bzX : blkAt (H ++ [some ⟨30, .wr, [[.i .i64 0, .i .i64 0, .i .i64 0, .i .i64 0, .i .i64 0, .i .i64 0, .i .i64 0, .b false]]⟩]) H.length = some ⟨30, .wr, [[.i .i64 0, .i .i64 0, .i .i64 0, .i .i64 0, .i .i64 0, .i .i64 0, .i .i64 0, .b false]]⟩ := by simp
  have hlX : (H ++ [some ⟨30, .wr, [[.i .i64 0, .i .i64 0, .i .i64 0, .i .i64 0, .i .i64 0, .i .i64 0, .i .i64 0, .b false]]⟩] : Heap).length = H.length + 1 := by simp
  simp
  refine stpL_runs (l1Below hcX 4) ?_
  rintro _ H1 ⟨⟨p, rfl, -⟩, hto1⟩
  have bz1 := hto1.1.blk bzX (by simp; omega)
  have hcc1 := hto1.base
  have hl1 := hto1.len
  rw [hlX] at hl1
  simp
  refine stpL_runs (l1Below hto1.2 4) ?_
  rintro _ H2 ⟨⟨k, rfl, -⟩, hto2⟩
  have bz2 := hto2.1.blk bz1 (by simp; omega)
  have dz2 := blkAt_len bz2
  have hcc2 := hcc1.next hto2
  by_cases c0 : k = 0
  · simp [c0, bz2, dz2]
    refine fin _ _ ⟨_, _, ⟨_, _, _, _⟩, _, _⟩ ?_ (blkAt_set dz2) (hcc2.set (by omega) (by omega) _)
    simp
  by_cases c1 : k = 1
  · simp [c1]
    refine stpL_runs (l1Once hto2.2 3) ?_
    rintro _ H3 ⟨⟨b, rfl⟩, hto3⟩
    have bz3 := hto3.1.blk bz2 (by simp; omega)
    have dz3 := blkAt_len bz3
    simp [bz3, dz3]
    refine fin _ _ ⟨_, _, ⟨_, _, _, _⟩, _, _⟩ ?_ (blkAt_set dz3) ((hcc2.next hto3).set (by omega) (by omega) _)
    simp
  simp [c0, c1]
  refine stpL_runs (l6DrawRight hto2.2) ?_
  rintro _ H3 ⟨⟨v, rfl⟩, hto3⟩
  have bz3 := hto3.1.blk bz2 (by simp; omega)
  simp
  refine stpL_runs (l1Below hto3.2 4) ?_
  rintro _ H4 ⟨⟨h, rfl, -⟩, hto4⟩
  have bz4 := hto4.1.blk bz3 (by simp; omega)
  have dz4 := blkAt_len bz4
  simp [bz4, dz4, Vec.enc]
  refine fin _ _ ⟨_, _, ⟨_, _, _, _⟩, _, _⟩ ?_ (blkAt_set dz4) (((hcc2.next hto3).next hto4).set (by omega) (by omega) _)
  simp

theorem l8DrawBent {H : Heap} {c n : Nat} (hc : Cur H c n) : Runs env 85 [.ptr c 0 0] H fun v H' => (∃ x : In, v = .agg x.enc) ∧ CurTo H H' c n := by
  have hcl := hc.lt
  refine Runs.walk ok85 Try.func85 rfl (by simp [Try.f85]) fun Q hQ => ?_
  simp only [Try.f85, strip, stripL, stripI, stripG, chkT, tagsB, tagsL, tagD, addT, tagA, lookN, tagOp, elmT, ty22, ty24, ty33, ty40, ty44, ty54, ty55, ty63, ty171, ty175, ty176, ty183, Nat.reduceEqDiff, if_false, reduceIte, Option.getD_some, Option.getD_none, dstAt, dstOk, Nat.reduceLT, decide_true, if_true]
  have fin : ∀ (HF : Heap) (tm : Ab.T) (x : In), tm 2 = .ptr H.length 0 0 → blkAt HF H.length = some ⟨30, .wr, [x.enc]⟩ → CurTo H HF c n → Q .ret tm HF := by
    intro HF tm x t2 hb hto
    refine hQ _ _ _ (by simp) ?_
    have hres : resT env.τ tm HF (Try.f85.results.toList) = some [W.agg x.enc] := by simp [Try.f85, t2, hb]
    rw [hres, optK_some]
    exact ⟨⟨x, rfl⟩, hto.leave hc _⟩
  have hcX := hc.app [some ⟨30, .wr, [[.i .i64 0, .i .i64 0, .i .i64 0, .i .i64 0, .i .i64 0, .i .i64 0, .i .i64 0, .b false]]⟩]
  have bzX : blkAt (H ++ [some ⟨30, .wr, [[.i .i64 0, .i .i64 0, .i .i64 0, .i .i64 0, .i .i64 0, .i .i64 0, .i .i64 0, .b false]]⟩]) H.length = some ⟨30, .wr, [[.i .i64 0, .i .i64 0, .i .i64 0, .i .i64 0, .i .i64 0, .i .i64 0, .i .i64 0, .b false]]⟩ := by simp
  have hlX : (H ++ [some ⟨30, .wr, [[.i .i64 0, .i .i64 0, .i .i64 0, .i .i64 0, .i .i64 0, .i .i64 0, .i .i64 0, .b false]]⟩] : Heap).length = H.length + 1 := by simp
  simp
  refine stpL_runs (l8DrawIn hcX) ?_
  rintro _ H1 ⟨⟨x, rfl⟩, hto1⟩
  have bz1 := hto1.1.blk bzX (by simp; omega)
  have dz1 := blkAt_len bz1
  have hcc1 := hto1.base
  have hl1 := hto1.len
  rw [hlX] at hl1
  simp [In.enc]
  have hcM := hto1.2.app [some ⟨30, .wr, [[.i .i64 x.kind, .i .i64 x.port, .i .i64 x.vec.root, .i .i64 x.vec.cost, .i .i64 x.vec.bridge, .i .i64 x.vec.port, .i .i64 x.hops, .b x.up]]⟩]
  refine stpL_runs (l1Below hcM 12) ?_
  rintro _ H2 ⟨⟨k, rfl, -⟩, hto2⟩
  have b3 : blkAt H2 H1.length = some ⟨30, .wr, [[.i .i64 x.kind, .i .i64 x.port, .i .i64 x.vec.root, .i .i64 x.vec.cost, .i .i64 x.vec.bridge, .i .i64 x.vec.port, .i .i64 x.hops, .b x.up]]⟩ := hto2.1.blk (by simp) (by simp; omega)
  have bz2 := hto2.1.blk (blkAt_app bz1 _) (by simp; omega)
  have d3 := blkAt_len b3
  have dz2 := blkAt_len bz2
  have hcc2 := hcc1.next hto2.base
  have hne3 : ∀ (Y : Heap) (y : Option Blk), blkAt (List.set Y H1.length y) H.length = blkAt Y H.length := fun Y y => blkAt_set_ne (by omega)
  have hne4 : ∀ (Y : Heap) (y : Blk), H1.length < Y.length → blkAt (List.set Y H1.length (some y)) H1.length = some y := fun Y y h => blkAt_set h
  by_cases c0 : k = 0
  · simp [c0]
    refine stpL_runs (l1Below hto2.2 6) ?_
    rintro _ H3 ⟨⟨y, rfl, -⟩, hto3⟩
    have b33 := hto3.1.blk b3 (by simp; omega)
    have bz3 := hto3.1.blk bz2 (by simp; omega)
    have d33 := blkAt_len b33
    have dz3 := blkAt_len bz3
    have hcc3 := hcc2.next hto3
    simp [b33, d33, bz3, dz3, hne3, hne4, Vec.enc]
    refine fin _ _ ⟨IntKind.i64.wrap (y - 1), x.port, x.vec, x.hops, x.up⟩ ?_ (blkAt_set (Nat.lt_of_lt_of_eq dz3 (List.length_set).symm)) ((hcc3.set (by omega) (by omega) _).set (by omega) (by omega) _)
    simp
  by_cases c1 : k = 1
  · simp [c1]
    have hcL := hto2.2.app [some ⟨3, .wr, [encI (-1), encI 3, encI 4]⟩]
    simp only [encI] at hcL
    refine stpL_runs (l1PickInt (xs := [(-1), 3, 4]) hcL (Sl.of (by simp [encI])) (by simp) (by simp)) ?_
    rintro _ H3 ⟨⟨y, rfl, -⟩, hto3⟩
    have hto3 := hto3.base
    have b33 := hto3.1.blk b3 (by simp; omega)
    have bz3 := hto3.1.blk bz2 (by simp; omega)
    have d33 := blkAt_len b33
    have dz3 := blkAt_len bz3
    have hcc3 := hcc2.next hto3
    simp [b33, d33, bz3, dz3, hne3, hne4, Vec.enc]
    refine fin _ _ ⟨x.kind, y, x.vec, x.hops, x.up⟩ ?_ (blkAt_set (Nat.lt_of_lt_of_eq dz3 (List.length_set).symm)) ((hcc3.set (by omega) (by omega) _).set (by omega) (by omega) _)
    simp
  by_cases c2 : k = 2
  · simp [c2]
    refine stpL_runs (l6Draw hto2.2) ?_
    rintro _ H3 ⟨⟨y, rfl⟩, hto3⟩
    have b33 := hto3.1.blk b3 (by simp; omega)
    have bz3 := hto3.1.blk bz2 (by simp; omega)
    have d33 := blkAt_len b33
    have dz3 := blkAt_len bz3
    have hcc3 := hcc2.next hto3
    simp [b33, d33, bz3, dz3, hne3, hne4, Vec.enc]
    refine fin _ _ ⟨x.kind, x.port, y, x.hops, x.up⟩ ?_ (blkAt_set (Nat.lt_of_lt_of_eq dz3 (List.length_set).symm)) ((hcc3.set (by omega) (by omega) _).set (by omega) (by omega) _)
    simp
  by_cases c3 : k = 3
  · simp [c3]
    have hcL := hto2.2.app [some ⟨3, .wr, [encI (-1), encI 8, encI 9]⟩]
    simp only [encI] at hcL
    refine stpL_runs (l1PickInt (xs := [(-1), 8, 9]) hcL (Sl.of (by simp [encI])) (by simp) (by simp)) ?_
    rintro _ H3 ⟨⟨y, rfl, -⟩, hto3⟩
    have hto3 := hto3.base
    have b33 := hto3.1.blk b3 (by simp; omega)
    have bz3 := hto3.1.blk bz2 (by simp; omega)
    have d33 := blkAt_len b33
    have dz3 := blkAt_len bz3
    have hcc3 := hcc2.next hto3
    simp [b33, d33, bz3, dz3, hne3, hne4, Vec.enc]
    refine fin _ _ ⟨x.kind, x.port, x.vec, y, x.up⟩ ?_ (blkAt_set (Nat.lt_of_lt_of_eq dz3 (List.length_set).symm)) ((hcc3.set (by omega) (by omega) _).set (by omega) (by omega) _)
    simp
  simp [c0, c1, c2, c3, b3, d3, bz2, dz2]
  refine fin _ _ ⟨_, _, ⟨_, _, _, _⟩, _, _⟩ ?_ (blkAt_set dz2) (hcc2.set (by omega) (by omega) _)
  simp

theorem l1New {H : Heap} {a : Option (Nat × Nat)} {bs : List Int} (hs : Sl H 5 a (bs.map encU)) (hn : bs.length ≤ 1048576) : Runs env 83 [.w (.lf (.sl a bs.length))] H fun v H' => ∃ c, v = .ptr c 0 0 ∧ Cur H' c bs.length ∧ H.length ≤ c ∧ Keep [] H H' := by
  have hw : IntKind.i64.wrap (27397 + (bs.length : Int)) = 27397 + (bs.length : Int) := wrap64 (by omega) (by omega)
  refine Runs.walk ok83 Try.func83 rfl (by simp [Try.f83]) fun Q hQ => ?_
  simp only [Try.f83, strip, stripL, stripI, stripG, chkT, tagsB, tagsL, tagD, addT, tagA, lookN, tagOp, elmT, ty22, ty24, ty33, ty40, ty44, ty54, ty55, ty63, ty171, ty175, ty176, ty183, Nat.reduceEqDiff, if_false, reduceIte, Option.getD_some, Option.getD_none, dstAt, dstOk, Nat.reduceLT, decide_true, if_true]
  have fin : ∀ (tm : Ab.T) (h : Int), tm 2 = .ptr H.length 0 0 → Q .ret tm (H ++ [some ⟨154, .wr, [[.sl a bs.length, .i .i64 0, .i .i64 h]]⟩]) := by
    intro tm h t2
    refine hQ _ _ _ (by simp) ?_
    simp [Try.f83, t2, leave, refFree]
    refine ⟨⟨a, 0, h, bs, by simp, by omega, by omega, rfl, hn, fun id r he hb => ?_, hs.app _⟩, Keep.app _ _ _⟩
    subst he
    exact hs.len (by simpa using hb)
  simp [builtinV, pureB, lenV, hw]
  refine wpS_loop (fun j tm H' => ∃ (i : Nat) (h : Int), i + j = bs.length ∧ tm 0 = .w (.lf (.sl a bs.length)) ∧ tm 3 = .int h ∧ tm 4 = .int i ∧ H' = H) bs.length (by rw [env_K]; omega) ⟨0, 27397 + bs.length, by simp, by simp, by simp, by simp, rfl⟩ ?_
  rintro j tm H1 hj ⟨i, h, hij, t0, t3, t4, rfl⟩ Q2 hn2 he2 hr2
  simp [t0, t3, t4, builtinV, pureB, lenV]
  have out : ∀ tm : Ab.T, tm 0 = .w (.lf (.sl a bs.length)) → tm 3 = .int h → Q2 (.exit 0) tm H1 := by
    intro tm s0 s3
    refine he2 _ _ _ ?_
    simp [s0, s3]
    refine fin _ h ?_
    simp
  by_cases hc1 : (i : Int) < bs.length
  · have hk : i < bs.length := by omega
    by_cases hc2 : (i : Int) < 4000
    · obtain ⟨id3, r3, bl3, rfl, hb3, hbe3, hrow3⟩ := hs i _ (by rw [List.getElem?_map, List.getElem?_eq_getElem hk]; rfl)
      have hid3 := blkAt_len hb3
      have hw2 : IntKind.i64.wrap ((i : Int) + 1) = (i : Int) + 1 := wrap64 (by omega) (by omega)
      have hc2' : i < 4000 := by omega
      simp [hc1, hk, hc2, hc2', t0, t3, t4, hb3, hid3, hbe3, hrow3, indexAddrV, elemIs, encU, binV, binInt, cmpI, arI, IntKind.bits, convV, hw2]
      refine hn2 (j - 1) _ _ (by omega) ⟨i + 1, _, by omega, by simp [t0], by simp; rfl, by simp, rfl⟩
    · have hc2' : ¬ i < 4000 := by omega
      simp [hc1, hk, hc2, hc2', t0, t3, t4]
      exact out _ (by simp [t0]) (by simp [t3])
  · have hk : ¬ i < bs.length := by omega
    simp [hc1, hk, t0, t3, t4]
    exact out _ (by simp [t0]) (by simp [t3])

def BrSt (H H' : Heap) (c n K m : Nat) : Prop := ∃ (l : List Lf) (b : Bridge) (fp : List Nat), blkAt H' K = some ⟨26, .wr, [l]⟩ ∧ IsBridge H' l b fp ∧ (∀ k ∈ fp, H.length + 1 ≤ k ∧ k ≠ K) ∧ b.ports.length = m ∧ CurTo H H' c n ∧ blkAt H' H.length = some ⟨26, .wr, [[.i .i64 0, .sl none 0]]⟩
theorem BrSt.next {H H1 H2 : Heap} {c n K m : Nat} (h : BrSt H H1 c n K m) (h2 : CurTo H1 H2 c n) (hc : c < H.length) (hK : H.length < K) : BrSt H H2 c n K m := by
  obtain ⟨l, b, fp, h3, h4, h5, h6, h7, h8⟩ := h
  exact ⟨l, b, fp, h2.1.blk h3 (by simp; omega), h4.keep h2.1 (fun k hk hk2 => by have := h5 k hk; simp at hk2; omega), h5, h6, h7.next h2, h2.1.blk h8 (by simp; omega)⟩
theorem l8DrawRight {H : Heap} {c n : Nat} (hc : Cur H c n) : Runs env 142 [.ptr c 0 0] H fun v H' => (∃ (l : List Lf) (b : Bridge) (fp : List Nat), v = .agg l ∧ IsBridge H' l b fp ∧ 1 ≤ b.ports.length ∧ b.ports.length ≤ 4 ∧ ∀ i ∈ fp, H.length ≤ i) ∧ CurTo H H' c n := by
  have hcl := hc.lt
  refine Runs.walk ok142 Try.func142 rfl (by simp [Try.f142]) fun Q hQ => ?_
  simp only [Try.f142, strip, stripL, stripI, stripG, chkT, tagsB, tagsL, tagD, addT, tagA, lookN, tagOp, elmT, ty22, ty24, ty33, ty40, ty44, ty54, ty55, ty63, ty171, ty175, ty176, ty183, Nat.reduceEqDiff, if_false, reduceIte, Option.getD_some, Option.getD_none, dstAt, dstOk, Nat.reduceLT, decide_true, if_true]
  have hcX := hc.app [some ⟨26, .wr, [[.i .i64 0, .sl none 0]]⟩]
  have bzX : blkAt (H ++ [some ⟨26, .wr, [[.i .i64 0, .sl none 0]]⟩]) H.length = some ⟨26, .wr, [[.i .i64 0, .sl none 0]]⟩ := by simp
  have hlX : (H ++ [some ⟨26, .wr, [[.i .i64 0, .sl none 0]]⟩] : Heap).length = H.length + 1 := by simp
  simp
  refine stpL_runs (l1Below hcX 6) ?_
  rintro _ H1 ⟨⟨x, rfl, hx0, hx1, -⟩, hto1⟩
  simp
  refine stpL_runs (l1Below hto1.2 4) ?_
  rintro _ H2 ⟨⟨y, rfl, hy0, hy1, -⟩, hto2⟩
  have hto := hto1.next hto2
  have bz2 := hto.1.blk bzX (by simp; omega)
  have hl2 := hto.len
  rw [hlX] at hl2
  have hcc2 := hto.base
  have w1 : IntKind.i64.wrap (1 + x) = 1 + x := wrap64 (by omega) (by omega)
  have w2 : IntKind.i64.wrap (1 + y) = 1 + y := wrap64 (by omega) (by omega)
  simp [w1, w2]
  refine stpL_runs (specBridgeNew _ _ _) ?_
  rintro _ _ ⟨l, fp, rfl, ob, ⟨⟨G3, rfl⟩, hfp⟩⟩
  have hbn := bridgeNew_yes (show (bridgeNew (1 + x) (1 + y)).2 = true by unfold bridgeNew; rw [if_pos (by simp; omega)])
  have hL := ob.len
  have hT : l.take l.length = l := List.take_length
  rw [hL] at hT
  have hltb := ob.lt
  obtain ⟨m, hm⟩ : ∃ m : Nat, m = (1 + y).toNat := ⟨_, rfl⟩
  have hm4 : 1 ≤ m ∧ m ≤ 4 := by omega
  simp [hL, hT]
  obtain ⟨K, hK⟩ : ∃ K, K = H2.length + G3.length := ⟨_, rfl⟩
  have hKl : H.length < K := by omega
  have st0 : BrSt H (H2 ++ (G3 ++ [some ⟨26, .wr, [l]⟩])) c n K m := by
    have ob' := ob.app [some ⟨26, .wr, [l]⟩]
    rw [List.append_assoc] at ob'
    refine ⟨l, _, fp, by rw [hK]; simp, ob', fun k hk => ?_, by rw [hbn.2.2]; simp [hm], hcc2.app _, blkAt_app bz2 _⟩
    have a1 := hfp k hk
    have a2 := hltb k hk
    simp only [List.length_append] at a2
    omega
  rw [← hK]
  obtain ⟨H3, hH3⟩ : ∃ H3 : Heap, H3 = H2 ++ (G3 ++ [some ⟨26, .wr, [l]⟩]) := ⟨_, rfl⟩
  rw [← hH3] at st0 ⊢
  clear hH3 hK ob hfp hltb hL hT
  have ret : ∀ (HF : Heap) (tm : Ab.T), tm 2 = .ptr H.length 0 0 → (∃ (l : List Lf) (b : Bridge) (fp : List Nat), blkAt HF H.length = some ⟨26, .wr, [l]⟩ ∧ IsBridge HF l b fp ∧ (∀ k ∈ fp, H.length ≤ k) ∧ b.ports.length = m ∧ CurTo H HF c n) → Q .ret tm HF := by
    rintro HF tm t2 ⟨l, b, fp, h1, h2, h3, h4, h5⟩
    have hL := h2.len
    have hT : l.take l.length = l := List.take_length
    rw [hL] at hT
    refine hQ _ _ _ (by simp) ?_
    have hres : resT env.τ tm HF (Try.f142.results.toList) = some [W.agg l] := by simp [Try.f142, t2, h1, hL, hT]
    rw [hres, optK_some]
    refine ⟨?_, h5.leave hc _⟩
    rcases leave_opt H HF [W.agg l] with e | ⟨e, hr⟩ <;> rw [e]
    · exact ⟨l, b, fp, rfl, h2, by omega, by omega, h3⟩
    · exact ⟨l, b, [], rfl, h2.free (by simpa using hr) H, by omega, by omega, by simp⟩
  -- a reaction
  have act : ∀ (HA : Heap) (l : List Lf) (b : Bridge) (fp : List Nat) (x : In), blkAt HA K = some ⟨26, .wr, [l]⟩ → IsBridge HA l b fp → (∀ k ∈ fp, H.length + 1 ≤ k ∧ k ≠ K) → b.ports.length = m → CurTo H HA c n → blkAt HA H.length = some ⟨26, .wr, [[.i .i64 0, .sl none 0]]⟩ → l.length = 2 →
      Runs env 12 [.agg l, .agg x.enc] HA fun v H' => ∃ l' q G, v = .tup [.agg l', .lf q] ∧ l'.length = 2 ∧ l'.take 2 = l' ∧ H' = HA ++ G ∧ BrSt H (H'.set K (some ⟨26, .wr, [l']⟩)) c n K m := by
    intro HA l b fp x h1 h2 h3 h4 h5 h6 h7
    refine (specReact h2.rd (by unfold Bridge.sz; omega) x).mono ?_
    rintro _ _ ⟨l', f1, q, f2, rfl, o1, o2, ⟨⟨G, rfl⟩, hf⟩, hd⟩
    have hl' := o1.len
    refine ⟨l', q, G, rfl, hl', by rw [← hl']; exact List.take_length, rfl, l', _, f1, blkAt_set (by have := blkAt_len h1; simp; omega), o1.keep (Keep.set _ _) (fun k hk hk2 => ?_), fun k hk => ?_, by rw [reactB_len]; exact h4, (h5.app G).set (by omega) (by omega) _, by rw [blkAt_set_ne (by omega)]; exact blkAt_app h6 G⟩
    · have := hf k (by simp [hk]); have := blkAt_len h1; simp at hk2; omega
    · have := hf k (by simp [hk]); have := blkAt_len h1; have := h5.len; omega
  refine wpS_loop (fun j tm H' => ∃ i : Nat, i + j = m ∧ tm 0 = .ptr c 0 0 ∧ tm 2 = .ptr H.length 0 0 ∧ tm 3 = .ptr K 0 0 ∧ tm 5 = .int i ∧ BrSt H H' c n K m) m (by rw [env_K]; omega) ⟨0, by simp, by simp, by simp, by simp, by simp, st0⟩ ?_
  rintro j tm H4 hj ⟨i, hij, t0, t2, t3, t5, st⟩ Q2 hn2 he2 hr2
  obtain ⟨l4, b4, fp4, k4, o4, hf4, hm4', hto4, bz4⟩ := st
  have d4 := blkAt_len k4
  have hL4 := o4.len
  have hT4 : l4.take l4.length = l4 := List.take_length
  rw [hL4] at hT4
  have hD4 : l4.drop 2 = [] := by rw [← hL4]; exact List.drop_length
  have hq : ∃ a4, l4 = [.i .i64 b4.id, .sl a4 m] := by
    obtain ⟨a4, rfl, -⟩ := o4
    exact ⟨a4, by simp [Bridge.enc, hm4']⟩
  obtain ⟨a4, hq4⟩ := hq
  have hd1 : List.take 1 l4.tail = [.sl a4 m] := by rw [hq4]; rfl
  simp [t0, t2, t3, t5, k4, d4, hL4, hd1, builtinV, pureB, lenV]
  have hw : IntKind.i64.wrap ((i : Int) + 1) = (i : Int) + 1 := wrap64 (by omega) (by omega)
  refine selS_intro (fun hc1 => ?_) (fun hc1 => ?_)
  · simp at hc1
    simp [t0]
    refine stpL_runs (l1Once hto4.2 4) ?_
    rintro _ H5 ⟨⟨b, rfl⟩, hto5⟩
    have st5 : BrSt H H5 c n K m := BrSt.next ⟨l4, b4, fp4, k4, o4, hf4, hm4', hto4, bz4⟩ hto5 hcl hKl
    cases b
    rotate_left
    · simp [t0, t2, t3, t5, hw]
      exact hn2 (j - 1) _ _ (by omega) ⟨i + 1, by omega, by simp [t0], by simp [t2], by simp [t3], by simp, st5⟩
    obtain ⟨l5, b5, fp5, k5, o5, hf5, hm5, hto5', bz5⟩ := st5
    have d5 := blkAt_len k5
    have hL5 := o5.len
    have hT5 : l5.take l5.length = l5 := List.take_length
    rw [hL5] at hT5
    have hD5 : l5.drop 2 = [] := by rw [← hL5]; exact List.drop_length
    have ha := act H5 l5 b5 fp5 ⟨3, i, ⟨0, 0, 0, 0⟩, 0, true⟩ k5 o5 hf5 hm5 hto5' bz5 hL5
    simp only [In.enc] at ha
    simp [t0, t2, t3, t5, k5, d5, hL5, hT5]
    refine stpL_runs ha ?_
    rintro _ _ ⟨l6, q6, G6, rfl, hL6, hT6, rfl, st6⟩
    have k6 := blkAt_app k5 G6
    have d6 : K < H5.length + G6.length := by omega
    simp [t3, k6, d6, hL5, hD5, hL6, hT6, t5, hw]
    exact hn2 (j - 1) _ _ (by omega) ⟨i + 1, by omega, by simp [t0], by simp [t2], by simp [t3], by simp, st6⟩
  · simp at hc1
    simp
    refine he2 _ _ _ ?_
    have stA : BrSt H H4 c n K m := ⟨l4, b4, fp4, k4, o4, hf4, hm4', hto4, bz4⟩
    simp [t0, t2, t3]
    refine wpS_loop (fun j tm H' => ∃ i : Nat, i + j = 9 ∧ tm 0 = .ptr c 0 0 ∧ tm 2 = .ptr H.length 0 0 ∧ tm 3 = .ptr K 0 0 ∧ tm 6 = .int i ∧ BrSt H H' c n K m) 9 (by rw [env_K]; omega) ⟨0, by simp, by simp [t0], by simp [t2], by simp [t3], by simp, stA⟩ ?_
    clear hn2 he2 hr2
    rintro j tm H4 hj ⟨i, hij, t0, t2, t3, t6, st⟩ Q2 hn2 he2 hr2
    simp [t0, t6]
    refine stpL_runs (l1Below (by obtain ⟨_, _, _, _, _, _, _, hh, _⟩ := st; exact hh.2) 10) ?_
    rintro _ H5 ⟨⟨w, rfl, hw0, hw1, -⟩, hto5⟩
    have hw9 := hw1 (by omega)
    have st5 := st.next hto5 hcl hKl
    obtain ⟨l5, b5, fp5, k5, o5, hf5, hm5, hto5', bz5⟩ := st5
    have d5 := blkAt_len k5
    have hL5 := o5.len
    have hT5 : l5.take l5.length = l5 := List.take_length
    rw [hL5] at hT5
    simp [t0, t6]
    refine selS_intro (fun hc2 => ?_) (fun hc2 => ?_)
    · simp at hc2
      have hwi : IntKind.i64.wrap ((i : Int) + 1) = (i : Int) + 1 := wrap64 (by omega) (by omega)
      simp [t0, t3, k5, d5, hL5, hT5]
      refine stpL_cur (l8DrawIn hto5'.2) hto5'.2 (fun v H' h => h.2) ?_
      rintro _ H6 ⟨⟨x6, rfl⟩, hto6⟩
      have st6 : BrSt H H6 c n K m := BrSt.next ⟨l5, b5, fp5, k5, o5, hf5, hm5, hto5', bz5⟩ hto6 hcl hKl
      have k6 := hto6.1.blk k5 (by simp; omega)
      have o6 := o5.keep hto6.1 (fun k hk hk2 => by have := hf5 k hk; simp at hk2; omega)
      have bz6 := hto6.1.blk bz5 (by simp; omega)
      have d6 := blkAt_len k6
      have hD5 : l5.drop 2 = [] := by rw [← hL5]; exact List.drop_length
      simp
      refine stpL_runs_f (act H6 l5 b5 fp5 x6 k6 o6 hf5 hm5 (hto5'.next hto6) bz6 hL5) (by rintro _ _ ⟨_, _, G, _, _, _, rfl, _⟩; exact ⟨G, rfl⟩) ?_
      rintro _ _ ⟨l7, q7, G7, rfl, hL7, hT7, rfl, st7⟩
      have k7 := blkAt_app k6 G7
      have d7 : K < H6.length + G7.length := by omega
      simp [t3, k7, d7, hL5, hD5, hL7, hT7, t6, hwi]
      exact hn2 (j - 1) _ _ (by omega) ⟨i + 1, by omega, by simp [t0], by simp [t2], by simp [t3], by simp, st7⟩
    · simp at hc2
      simp
      refine he2 _ _ _ ?_
      have dz5 := blkAt_len bz5
      simp [t2, t3, k5, d5, hL5, hT5, bz5, dz5]
      refine ret _ _ (by simp [t2]) ⟨l5, b5, fp5, blkAt_set dz5, o5.keep (Keep.set _ _) (fun k hk hk2 => by have := hf5 k hk; simp at hk2; omega), fun k hk => by have := hf5 k hk; omega, hm5, hto5'.set (by omega) (by omega) _⟩

theorem l8Draw {H : Heap} {c n : Nat} (hc : Cur H c n) : Runs env 84 [.ptr c 0 0] H fun v H' => (∃ (l : List Lf) (b : Bridge) (fp : List Nat), v = .agg l ∧ IsBridge H' l b fp ∧ 1 ≤ b.ports.length ∧ b.ports.length ≤ 6 ∧ ∀ i ∈ fp, H.length ≤ i) ∧ CurTo H H' c n := by
  have hcl := hc.lt
  refine Runs.walk ok84 Try.func84 rfl (by simp [Try.f84]) fun Q hQ => ?_
  simp only [Try.f84, strip, stripL, stripI, stripG, chkT, tagsB, tagsL, tagD, addT, tagA, lookN, tagOp, elmT, ty22, ty24, ty33, ty40, ty44, ty54, ty55, ty63, ty171, ty175, ty176, ty183, Nat.reduceEqDiff, if_false, reduceIte, Option.getD_some, Option.getD_none, dstAt, dstOk, Nat.reduceLT, decide_true, if_true]
  have hcX := hc.app [some ⟨26, .wr, [[.i .i64 0, .sl none 0]]⟩]
  have bzX : blkAt (H ++ [some ⟨26, .wr, [[.i .i64 0, .sl none 0]]⟩]) H.length = some ⟨26, .wr, [[.i .i64 0, .sl none 0]]⟩ := by simp
  have hlX : (H ++ [some ⟨26, .wr, [[.i .i64 0, .sl none 0]]⟩] : Heap).length = H.length + 1 := by simp
  have fin : ∀ (HF : Heap) (tm : Ab.T) (l : List Lf) (b : Bridge) (fp : List Nat), tm 2 = .ptr H.length 0 0 → H.length < HF.length → IsBridge HF l b fp → (∀ k ∈ fp, H.length < k) → 1 ≤ b.ports.length → b.ports.length ≤ 6 → CurTo H HF c n → Q .ret tm (HF.set H.length (some ⟨26, .wr, [l]⟩)) := by
    intro HF tm l b fp t2 hlt h2 h3 h4 h4' h5
    have hL := h2.len
    have hT : l.take l.length = l := List.take_length
    rw [hL] at hT
    refine hQ _ _ _ (by simp) ?_
    have hb : blkAt (HF.set H.length (some ⟨26, .wr, [l]⟩)) H.length = some ⟨26, .wr, [l]⟩ := blkAt_set hlt
    have hres : resT env.τ tm (HF.set H.length (some ⟨26, .wr, [l]⟩)) (Try.f84.results.toList) = some [W.agg l] := by simp [Try.f84, t2, hb, hL, hT]
    rw [hres, optK_some]
    refine ⟨?_, (h5.set (Nat.le_refl _) hcl _).leave hc _⟩
    have h2' := h2.keep (Keep.set (id := H.length) HF (some ⟨26, .wr, [l]⟩)) (fun k hk hk2 => by have := h3 k hk; simp at hk2; omega)
    rcases leave_opt H (HF.set H.length (some ⟨26, .wr, [l]⟩)) [W.agg l] with e | ⟨e, hr⟩ <;> rw [e]
    · exact ⟨l, b, fp, rfl, h2', h4, h4', fun k hk => by have := h3 k hk; omega⟩
    · exact ⟨l, b, [], rfl, h2'.free (by simpa using hr) H, h4, h4', by simp⟩
  simp
  refine stpL_runs (l8DrawRight hcX) ?_
  rintro _ H1 ⟨⟨l, b, fp, rfl, ob, hp1, hp4, hfp⟩, hto1⟩
  have bz1 := hto1.1.blk bzX (by simp; omega)
  have hcc1 := hto1.base
  have hl1 := hto1.len
  rw [hlX] at hl1
  rw [hlX] at hfp
  have hlt := ob.lt
  have hL := ob.len
  have hT : l.take l.length = l := List.take_length
  rw [hL] at hT
  have hD : l.drop 2 = [] := by rw [← hL]; exact List.drop_length
  obtain ⟨a, rfl, ow⟩ := ob
  simp [Bridge.enc]
  have hcM := hto1.2.app [some ⟨26, .wr, [[.i .i64 b.id, .sl a b.ports.length]]⟩]
  refine stpL_runs (l1Below hcM 8) ?_
  rintro _ H2 ⟨⟨k, rfl, -⟩, hto2⟩
  have b3 : blkAt H2 H1.length = some ⟨26, .wr, [[.i .i64 b.id, .sl a b.ports.length]]⟩ := hto2.1.blk (by simp) (by simp; omega)
  have bz2 := hto2.1.blk (blkAt_app bz1 _) (by simp; omega)
  have ow2 : Own H2 43 a (b.ports.map Port.enc) fp := (ow.app _).keep hto2.1 (fun k hk hk2 => by have := hfp k hk; simp at hk2; omega)
  have d3 := blkAt_len b3
  have dz2 := blkAt_len bz2
  have hcc2 := hcc1.next hto2.base
  have hne3 : ∀ (Y : Heap) (y : Option Blk), blkAt (List.set Y H1.length y) H.length = blkAt Y H.length := fun Y y => blkAt_set_ne (by omega)
  have hne4 : ∀ (Y : Heap) (y : Blk), H1.length < Y.length → blkAt (List.set Y H1.length (some y)) H1.length = some y := fun Y y h => blkAt_set h
  have hfl : ∀ k ∈ fp, H.length < k ∧ k < H1.length := fun k hk => by have := hfp k hk; have := hlt k hk; omega
  by_cases c0 : k = 0
  · simp [c0]
    have hcL := hto2.2.app [some ⟨3, .wr, [encI 0, encI 9, encI 10]⟩]
    simp only [encI] at hcL
    refine stpL_runs (l1PickInt (xs := [0, 9, 10]) hcL (Sl.of (by simp [encI])) (by simp) (by simp)) ?_
    rintro _ H3 ⟨⟨y, rfl, -⟩, hto3⟩
    have hto3 := hto3.base
    have b33 := hto3.1.blk b3 (by simp; omega)
    have bz3 := hto3.1.blk bz2 (by simp; omega)
    have d33 := blkAt_len b33
    have dz3 := blkAt_len bz3
    have ow3 := ow2.keep hto3.1 (fun k hk hk2 => by have := hfl k hk; simp at hk2; omega)
    have hcc3 := hcc2.next hto3
    simp [b33, d33, bz3, dz3, hne3, hne4]
    refine fin _ _ _ ⟨y, b.ports⟩ fp ?_ (by simpa using dz3) ⟨a, rfl, ow3.keep (Keep.set _ _) (fun k hk hk2 => by have := hfl k hk; simp at hk2; omega)⟩ (fun k hk => (hfl k hk).1) hp1 (by simp only; omega) (hcc3.set (by omega) (by omega) _)
    simp
  by_cases c1 : k = 1
  · simp [c1, b3, d3]
    refine stpL_cur (l7Draw hto2.2) hto2.2 (fun v H' h => h.2) ?_
    rintro _ H3 ⟨⟨y, rfl⟩, hto3⟩
    have b33 := hto3.1.blk b3 (by simp; omega)
    have bz3 := hto3.1.blk bz2 (by simp; omega)
    have d33 := blkAt_len b33
    have dz3 := blkAt_len bz3
    have ow3 := ow2.keep hto3.1 (fun k hk hk2 => by have := hfl k hk; simp at hk2; omega)
    have hcc3 := hcc2.next hto3
    obtain ⟨id, bl, rfl, rfl, hb, hbe, hbm, hpre⟩ := ow3.blk (by intro h; have := congrArg List.length h; simp at this; rw [this] at hp1; simp at hp1)
    have hidl := blkAt_len hb
    have hidf := hfl id (by simp)
    obtain ⟨tl, htl⟩ := hpre
    have hrow : bl.rows[0]? = some b.ports[0].enc := by rw [← htl, List.getElem?_append_left (by simp; omega), List.getElem?_map, List.getElem?_eq_getElem (by omega)]; rfl
    have hrl : 0 < bl.rows.length := (List.getElem?_eq_some_iff.1 hrow).1
    have hpI : (0 : Int) < b.ports.length := by omega
    have hp0 : 0 < b.ports.length := by omega
    have hsI : ∀ (y : Option Blk), blkAt (List.set H3 id y) H1.length = blkAt H3 H1.length := fun y => blkAt_set_ne (by omega)
    have hsH : ∀ (y : Option Blk), blkAt (List.set H3 id y) H.length = blkAt H3 H.length := fun y => blkAt_set_ne (by omega)
    simp [indexAddrV, elemIs, hb, hidl, hbe, hbm, hpI, hp0, hrow]
    simp only [Port.enc] at hrow
    simp [hrow, hbm, hsI, hsH, b33, d33, bz3, dz3, Port.enc]
    have os := ow3.set (row := y.enc) hb (i := 0) (by simp; omega)
    rw [hbe, hbm] at os
    refine fin _ _ _ ⟨b.id, b.ports.set 0 y⟩ [id] ?_ (by simpa using dz3) ⟨some (id, 0), by simp [Bridge.enc], by rw [List.map_set]; exact os⟩ (fun k hk => by simp at hk; omega) (by simpa using hp1) (by simp; omega) (hcc3.set (by omega) (by omega) _)
    simp
  by_cases c2 : k = 2
  · simp [c2, b3, d3]
    refine stpL_append (e := 43) (rows := b.ports.map Port.enc) (ys := [Port.z, Port.z]) (ow2.app _) (Sl.of (by simp [Port.z])) rfl rfl rfl (by simp) (by simp; omega) (by simp) rfl fun a'' H'' fp'' ho'' hk'' hf'' => ?_
    have k1 := hk''.base
    have b33 := k1.blk b3 (fun h => by have := hfl _ h; omega)
    have bz3 := k1.blk bz2 (fun h => by have := hfl _ h; omega)
    have d33 := blkAt_len b33
    have dz3 := blkAt_len bz3
    have hcc3 := hcc2.own k1 (fun i hi => by have := hfl i hi; omega) hcl
    have hf9 : ∀ k ∈ fp'', H.length < k ∧ k ≠ H1.length := fun k hk => by
      rcases hf'' k hk with h | h
      · have := hfl k h; omega
      · simp at h; omega
    simp [b33, d33, bz3, dz3, hne3, hne4]
    refine fin _ _ _ ⟨b.id, b.ports ++ [Port.zv, Port.zv]⟩ fp'' ?_ (by simpa using dz3) ⟨a'', by simp [Bridge.enc], by rw [List.map_append]; exact ho''.keep (Keep.set _ _) (fun k hk hk2 => by have := hf9 k hk; simp at hk2; omega)⟩ (fun k hk => (hf9 k hk).1) (by simp) (by simp; omega) (hcc3.set (by omega) (by omega) _)
    simp
  · simp [c0, c1, c2, b3, d3, bz2, dz2]
    refine fin _ _ _ b fp ?_ dz2 ⟨a, rfl, ow2⟩ (fun k hk => (hfl k hk).1) hp1 (by omega) hcc2
    simp

theorem sameBridgeL {H : Heap} {l r : List Lf} {x y : Bridge} (h : RdBridge H l x) (h2 : RdBridge H r y) (hn : x.sz ≤ 1048576) : run env 13 [.agg l, .agg r] H = some (.bool (decide (x = y)), H) := by
  obtain ⟨a, rfl, ha⟩ := h
  obtain ⟨b, rfl, hb⟩ := h2
  have hn : x.ports.length ≤ 1048576 := hn
  refine run_walk ok13 Try.func13 rfl (by simp [Try.f13]) fun Q hQ => ?_
  simp only [Try.f13, strip, stripL, stripI, stripG, chkT, tagsB, tagsL, tagD, addT, tagA, lookN, tagOp, elmT, ty22, ty24, ty33, ty40, ty44, ty54, ty55, ty63, ty171, ty175, ty176, ty183, Nat.reduceEqDiff, if_false, reduceIte, Option.getD_some, Option.getD_none, dstAt, dstOk, Nat.reduceLT, decide_true, if_true]
  simp [Bridge.enc, builtinV, pureB, lenV]
  have bad : x ≠ y → ∀ tm H', (∃ G, H' = H ++ G) → tm 4 = .bool false → Q .ret tm H' := by
    rintro hx tm _ ⟨G, rfl⟩ h4
    refine hQ _ _ _ (by simp) ?_
    simp [Try.f13, h4, hx]
  refine gdL_f (fun hd => ?_) (fun hd => ?_)
  · simp [hd]
    refine bad (fun hx => by subst hx; simp at hd) _ _ ⟨_, rfl⟩ (by simp)
  simp [hd, builtinV, pureB, lenV]
  refine selS_intro (fun hl => ?_) (fun hl => ?_)
  · simp
    refine bad (fun hx => by subst hx; simp at hl) _ _ ⟨_, rfl⟩ (by simp)
  simp at hl hd
  simp
  refine wpS_loop (fun j tm H' => ∃ i, i + j = x.ports.length ∧ tm 2 = .ptr H.length 0 0 ∧ tm 3 = .ptr (H.length + 1) 0 0 ∧ tm 5 = .int i ∧ H' = H ++ [some ⟨26, .wr, [x.enc a]⟩, some ⟨26, .wr, [y.enc b]⟩] ∧ x.ports.take i = y.ports.take i) x.ports.length (by rw [env_K]; omega) ⟨0, by simp, by simp, by simp, by simp, by simp [Bridge.enc], by simp⟩ ?_
  rintro j tm H' hj ⟨i, hij, t2, t3, t5, rfl, heq⟩ Q' hn' he' hr'
  simp [t2, t3, t5, Bridge.enc, builtinV, pureB, lenV]
  refine selS_intro (fun hc => ?_) (fun hc => ?_)
  · simp at hc
    have hc2 : i < y.ports.length := by omega
    obtain ⟨id, r, bl, rfl, hbl, hbe, hrow⟩ := ha i _ (by simp [hc]; rfl)
    obtain ⟨id2, r2, bl2, rfl, hbl2, hbe2, hrow2⟩ := hb i _ (by simp [hc2]; rfl)
    have hid := blkAt_len hbl
    have hid2 := blkAt_len hbl2
    have g4 : IntKind.i64.wrap ((i : Int) + 1) = (i : Int) + 1 := wrap64 (by omega) (by omega)
    simp [t2, t3, t5, indexAddrV, elemIs, hid, hid2, hbl, hbe, hbl2, hbe2, hc, hc2, hrow, hrow2, Port.enc]
    refine selS_intro (fun hd2 => ?_) (fun hd2 => ?_)
    · simp
      refine hr' _ _ ?_
      simp
      refine bad (fun hx => by subst hx; simp at hd2) _ _ ⟨_, rfl⟩ (by simp)
    · have hxy : x.ports[i] = y.ports[i] := by
        refine Port.enc_inj ?_
        simpa [Port.enc] using hd2
      simp [t2, t3, t5, g4]
      exact hn' (j - 1) _ _ (by omega) ⟨i + 1, by omega, by simp [t2], by simp [t3], by simp, by simp [Bridge.enc], by rw [List.take_add_one, List.take_add_one, heq]; simp [hc, hc2, hxy]⟩
  · simp at hc
    simp [t2, t3, t5]
    refine he' _ _ _ ?_
    simp
    refine hQ _ _ _ (by simp) ?_
    have hp : x.ports = y.ports := by
      rw [List.take_of_length_le (by omega), List.take_of_length_le (by omega)] at heq
      exact heq
    have : x = y := by
      obtain ⟨x1, x2⟩ := x
      obtain ⟨y1, y2⟩ := y
      simp_all
    simp [Try.f13, this]

theorem drawReact {H : Heap} {a : Option (Nat × Nat)} {bs : List Int} (hs : Sl H 5 a (bs.map encU)) (hn : bs.length ≤ 1048576) : Runs env 10 [.w (.lf (.sl a bs.length))] H fun v H' => (∃ (l : List Lf) (m : Bridge) (x : In), v = .tup [.agg l, .agg x.enc] ∧ RdBridge H' l m ∧ 1 ≤ m.ports.length ∧ m.ports.length ≤ 6) ∧ Keep [] H H' := by
  refine Runs.walk ok10 Try.func10 rfl (by simp [Try.f10]) fun Q hQ => ?_
  simp only [Try.f10, strip, stripL, stripI, stripG, chkT, tagsB, tagsL, tagD, addT, tagA, lookN, tagOp, elmT, ty22, ty24, ty33, ty40, ty44, ty54, ty55, ty63, ty171, ty175, ty176, ty183, Nat.reduceEqDiff, if_false, reduceIte, Option.getD_some, Option.getD_none, dstAt, dstOk, Nat.reduceLT, decide_true, if_true]
  obtain ⟨X0, hX0⟩ : ∃ X0 : Heap, X0 = H ++ [some ⟨26, .wr, [[.i .i64 0, .sl none 0]]⟩, some ⟨30, .wr, [[.i .i64 0, .i .i64 0, .i .i64 0, .i .i64 0, .i .i64 0, .i .i64 0, .i .i64 0, .b false]]⟩] := ⟨_, rfl⟩
  have bz0 : blkAt X0 H.length = some ⟨26, .wr, [[.i .i64 0, .sl none 0]]⟩ := by rw [hX0]; simp
  have by0 : blkAt X0 (H.length + 1) = some ⟨30, .wr, [[.i .i64 0, .i .i64 0, .i .i64 0, .i .i64 0, .i .i64 0, .i .i64 0, .i .i64 0, .b false]]⟩ := by rw [hX0]; simp
  have k0 : Keep [] H X0 := by rw [hX0]; exact Keep.app _ _ _
  have hl0 : X0.length = H.length + 2 := by rw [hX0]; simp
  have hs0 : Sl X0 5 a (bs.map encU) := by rw [hX0]; exact hs.app _
  simp
  rw [← hX0]
  refine stpL_runs (l1New hs0 hn) ?_
  rintro _ X ⟨c, rfl, hc, hcl, hk⟩
  have bz := hk.blk bz0 (by simp)
  simp
  refine stpL_runs (l8Draw hc) ?_
  rintro _ Y ⟨⟨l, m, fp, rfl, om, hm1, hm6, hfp⟩, hto⟩
  have bz2 := hto.1.blk bz (fun h => by simp at h; omega)
  have hY := blkAt_len bz2
  have hX := blkAt_len bz
  have hL := om.rd.len
  have hT : l.take l.length = l := List.take_length
  rw [hL] at hT
  have hYl := hto.len
  have hkl := hk.1
  have hcl2 := hc.lt
  obtain ⟨a3, rfl, ow⟩ := om
  have hlt := ow.lt
  simp [hL, hT, Bridge.enc]
  obtain ⟨Y1, hY1⟩ : ∃ Y1 : Heap, Y1 = Y ++ [some ⟨26, .wr, [[.i .i64 m.id, .sl a3 m.ports.length]]⟩] := ⟨_, rfl⟩
  rw [← hY1]
  have b5 : blkAt Y1 Y.length = some ⟨26, .wr, [[.i .i64 m.id, .sl a3 m.ports.length]]⟩ := by rw [hY1]; simp
  have n5 := blkAt_len b5
  have hc1 : Cur Y1 c bs.length := by rw [hY1]; exact hto.2.app _
  have bz3 := blkAt_app bz2 [some ⟨26, .wr, [[.i .i64 m.id, .sl a3 m.ports.length]]⟩]
  rw [← hY1] at bz3
  have ow1 := ow.app [some ⟨26, .wr, [[.i .i64 m.id, .sl a3 m.ports.length]]⟩]
  rw [← hY1] at ow1
  have kY1 : Keep [] H Y1 := by rw [hY1]; exact ((k0.next hk (by simp)).next hto.1 (by simp; omega)).trans (Keep.app [] Y _) (by simp) (by simp)
  have no : ∀ i ∈ fp, i ∉ [c] := fun i hi h => by have := hfp i hi; simp at h; omega
  have by3 := blkAt_app (hto.1.blk (hk.blk by0 (by simp)) (fun h => by simp at h; omega)) [some ⟨26, .wr, [[.i .i64 m.id, .sl a3 m.ports.length]]⟩]
  rw [← hY1] at by3
  refine stpL_cur (l8DrawBent hc1) hc1 (fun v H' h => h.2) ?_
  rintro _ Z ⟨⟨x, rfl⟩, hto2⟩
  have byZ := hto2.1.blk by3 (fun h => by simp at h; omega)
  have nyZ := blkAt_len byZ
  have bzZ := hto2.1.blk bz3 (fun h => by simp at h; omega)
  have owZ := ow1.keep hto2.1 no
  have nzZ := blkAt_len bzZ
  have hlZ := hto2.len
  have kZ := kY1.next hto2.1 (by simp; omega)
  have hsw : ∀ y : Option Blk, blkAt (Z.set H.length y) (H.length + 1) = blkAt Z (H.length + 1) := fun y => blkAt_set_ne (by omega)
  simp [In.enc, bzZ, nzZ, hsw, byZ, nyZ, -set_lt]
  refine hQ _ _ _ (by simp) ?_
  obtain ⟨HF, hHF⟩ : ∃ HF : Heap, HF = (Z.set H.length (some ⟨26, .wr, [m.enc a3]⟩)).set (H.length + 1) (some ⟨30, .wr, [x.enc]⟩) := ⟨_, rfl⟩
  simp only [Bridge.enc, In.enc] at hHF
  rw [← hHF]
  have b2 : blkAt HF H.length = some ⟨26, .wr, [m.enc a3]⟩ := by rw [hHF, blkAt_set_ne (by omega)]; exact blkAt_set nzZ
  have b3 : blkAt HF (H.length + 1) = some ⟨30, .wr, [x.enc]⟩ := by rw [hHF]; exact blkAt_set (by simpa using nyZ)
  have kF : Keep [H.length, H.length + 1] Z HF := by
    rw [hHF]
    exact (Keep.set _ _).trans (Keep.set _ _) (fun i hi _ => by simp at hi; simp [hi]) (fun i hi _ => by simp at hi; simp [hi])
  have kA : Keep [] H HF := kZ.next kF (by simp)
  have oF := owZ.keep kF (fun i hi h => by have := hfp i hi; simp at h; omega)
  simp [Try.f10, b2, b3, Bridge.enc, In.enc]
  rcases leave_opt H HF [W.agg (m.enc a3), W.agg x.enc] with e | ⟨e, hr⟩ <;> simp only [Bridge.enc, In.enc] at e <;> rw [e]
  · refine ⟨?_, kA⟩
    exact ⟨_, ⟨rfl, x, rfl, rfl, rfl, rfl, rfl, rfl, rfl, rfl⟩, m, ⟨a3, rfl, oF.sl⟩, hm1, hm6⟩
  · refine ⟨?_, Keep.refl _ _⟩
    simp at hr
    exact ⟨_, ⟨rfl, x, rfl, rfl, rfl, rfl, rfl, rfl, rfl, rfl⟩, m, (IsBridge.free ⟨a3, rfl, oF⟩ (by simpa using hr.1) H).rd, hm1, hm6⟩

def gStep (gs : List Bool) (o : Out) : List Bool := if o.kind = 2 then gs.set o.port.toNat o.on else gs
theorem gStep_len (os : List Out) : ∀ gs : List Bool, (os.foldl gStep gs).length = gs.length := by
  induction os with
  | nil => intro gs; rfl
  | cons o os ih => intro gs; rw [List.foldl_cons, ih]; unfold gStep; split <;> simp
theorem gUpto (b c : Bridge) (hl : c.ports.length = b.ports.length) : ∀ k, k ≤ b.ports.length → (upto (gateAt b c) k).foldl gStep (gates b) = (gates c).take k ++ (gates b).drop k
  | 0, _ => by simp [upto]
  | k + 1, h => by
    have hb : k < b.ports.length := by omega
    have hc : k < c.ports.length := by omega
    rw [upto, List.foldl_append, gUpto b c hl k (by omega)]
    have hg : gateAt b c k = if c.ports[k].opn = b.ports[k].opn then [] else [⟨2, k, ⟨0, 0, 0, 0⟩, 0, c.ports[k].opn⟩] := by
      unfold gateAt; rw [List.getElem?_eq_getElem hb, List.getElem?_eq_getElem hc]
    rw [hg]
    have h1 : (gates c).take (k + 1) = (gates c).take k ++ [c.ports[k].opn] := by
      rw [List.take_add_one, gates, List.getElem?_map, List.getElem?_eq_getElem hc]; rfl
    have h2 : (gates b).drop k = b.ports[k].opn :: (gates b).drop (k + 1) := by
      rw [List.drop_eq_getElem_cons (by simpa [gates] using hb)]
      simp [gates]
    rw [h1, h2]
    split
    · rename_i he; simp [he]
    · simp [gStep, gates, Nat.min_eq_left (Nat.le_of_lt hc)]
theorem gClaims (c : Bridge) (gs : List Bool) : ∀ k, (upto (claimAt c) k).foldl gStep gs = gs
  | 0 => rfl
  | k + 1 => by
    rw [upto, List.foldl_append, gClaims c gs k]
    unfold claimAt
    split
    · split <;> simp [gStep]
    · rfl
theorem gAll {b : Bridge} (x : In) : (reactB b x).2.foldl gStep (gates b) = gates (reactB b x).1 := by
  unfold reactB
  split
  · rename_i hh
    have hl : (nextB b x).ports.length = b.ports.length := by
      have := reactB_len b x
      unfold reactB at this
      rw [if_pos hh] at this
      exact this
    simp only
    unfold outsB
    rw [List.foldl_append, gUpto b _ hl _ (Nat.le_refl _)]
    have h1 : (gates (nextB b x)).take b.ports.length ++ (gates b).drop b.ports.length = gates (nextB b x) := by
      rw [List.take_of_length_le (by simp [gates, hl]), List.drop_of_length_le (by simp [gates])]; simp
    rw [h1]
    split
    · exact gClaims _ _ _
    · rfl
  · rfl
theorem gPort {b : Bridge} (x : In) : ∀ o ∈ (reactB b x).2, o.kind = 2 → 0 ≤ o.port ∧ o.port < b.ports.length := by
  have key : ∀ (c : Bridge) k, ∀ o ∈ upto (gateAt b c) k, 0 ≤ o.port ∧ o.port < b.ports.length := by
    intro c k
    induction k with
    | zero => simp [upto]
    | succ k ih =>
      intro o ho
      rw [upto] at ho
      rcases List.mem_append.1 ho with h | h
      · exact ih o h
      · unfold gateAt at h
        split at h
        · rename_i p q hp hq
          have := (List.getElem?_eq_some_iff.1 hp).1
          split at h
          · simp at h
          · simp at h; subst h; simp; omega
        · simp at h
  have key2 : ∀ (c : Bridge) k, ∀ o ∈ upto (claimAt c) k, o.kind = 1 := by
    intro c k
    induction k with
    | zero => simp [upto]
    | succ k ih =>
      intro o ho
      rw [upto] at ho
      rcases List.mem_append.1 ho with h | h
      · exact ih o h
      · unfold claimAt at h
        split at h
        · split at h
          · simp at h; subst h; rfl
          · simp at h
        · simp at h
  intro o ho hk
  unfold reactB at ho
  split at ho
  · simp only [outsB] at ho
    rcases List.mem_append.1 ho with h | h
    · exact key _ _ o h
    · split at h
      · have := key2 _ _ o h; omega
      · simp at h
  · simp at ho
def rootsTo (ps : List Port) (i : Nat) : Nat := ((ps.take i).filter fun p => decide (p.role = 1)).length
theorem rootsTo_step (ps : List Port) {i : Nat} (h : i < ps.length) : rootsTo ps (i + 1) = rootsTo ps i + (if ps[i].role = 1 then 1 else 0) := by
  unfold rootsTo
  rw [List.take_add_one, List.getElem?_eq_getElem h, List.filter_append, List.length_append]
  simp only [Option.toList]
  by_cases hc : ps[i].role = 1 <;> simp [hc]
theorem rootsTo_le (ps : List Port) (R : Int) (hR : ∀ (i : Nat) (h : i < ps.length), ps[i].role = 1 → (i : Int) = R) : ∀ i, i ≤ ps.length → rootsTo ps i ≤ if R < i then 1 else 0
  | 0, _ => by simp [rootsTo]
  | i + 1, h => by
    have h1 := rootsTo_le ps R hR i (by omega)
    rw [rootsTo_step ps (by omega)]
    by_cases hc : ps[i].role = 1
    · have := hR i (by omega) hc
      rw [if_pos hc]
      rw [if_neg (by omega)] at h1
      rw [if_pos (by omega)]
      omega
    · rw [if_neg hc]
      split at h1
      · rw [if_pos (by omega)]; omega
      · split <;> omega
theorem rootsAll {b : Bridge} (x : In) (hb : b.ok = true) : rootsTo (reactB b x).1.ports (reactB b x).1.ports.length ≤ 1 ∨ (reactB b x).1 = b := by
  unfold reactB
  split
  · rename_i hh
    simp only [Bool.and_eq_true, decide_eq_true_eq] at hh
    simp only
    by_cases hq : quiet b x
    · right; unfold nextB; rw [if_pos hq]
    · left
      have hk : x.port.toNat < b.ports.length := by
        have := hh.2
        have h0 : 0 < b.ports.length := by
          have := hb; simp [Bridge.ok] at this; omega
        omega
      have he := inB_ok (x := x) hb hk
      unfold nextB
      rw [if_neg hq]
      obtain ⟨e, hee⟩ : ∃ e, e = inB b x := ⟨_, rfl⟩
      rw [← hee] at he ⊢
      have := rootsTo_le (decideB e).ports (rootAt e) (fun i h hr => by
        simp only [decideB, List.getElem_mapIdx] at hr
        have hi : i < e.ports.length := by simpa [decideB] using h
        have hpo : e.ports[i].ok = true := by
          have := he
          simp only [Bridge.ok, Bool.and_eq_true, List.all_eq_true] at this
          exact this.1.1 _ (List.getElem_mem hi)
        unfold decP at hr
        split at hr
        · rename_i hu
          have hro : 1 ≤ roleB e i e.ports[i] ∧ roleB e i e.ports[i] ≤ 3 := by unfold roleB; split <;> (try split) <;> omega
          unfold turnP at hr
          rw [if_neg (by simp [hpo, hu, hro])] at hr
          simp only at hr
          unfold roleB at hr
          split at hr
          · assumption
          · split at hr <;> omega
        · rename_i hu
          have : e.ports[i].role = 0 := by
            simp [Port.ok] at hpo
            simp_all
          omega) (decideB e).ports.length (Nat.le_refl _)
      split at this <;> omega
  · right; rfl

theorem bridgesLaw {H : Heap} {a : Option (Nat × Nat)} {bs : List Int} (hs : Sl H 5 a (bs.map encU)) : Runs env 3 [.w (.lf (.sl a bs.length))] H fun v _ => v = .bool true := by
  have eb := fun (H : Heap) => bigL (H := H) (a := a) (n := bs.length)
  refine Runs.walk ok3 Try.func3 rfl (by simp [Try.f3]) fun Q hQ => ?_
  simp only [Try.f3, strip, stripL, stripI, stripG, chkT, tagsB, tagsL, tagD, addT, tagA, lookN, tagOp, elmT, ty22, ty24, ty33, ty40, ty44, ty54, ty55, ty63, ty171, ty175, ty176, ty183, Nat.reduceEqDiff, if_false, reduceIte, Option.getD_some, Option.getD_none, dstAt, dstOk, Nat.reduceLT, decide_true, if_true]
  simp [eb]
  refine selS_intro (fun hb => ?_) (fun hb => ?_)
  · simp
    refine hQ _ _ _ (by simp) ?_
    simp [Try.f3]
  simp at hb
  have hn : bs.length ≤ 1048576 := by omega
  simp
  refine stpL_runs (drawReact hs hn) ?_
  rintro _ X ⟨⟨l, b, x, rfl, ob, hb1, hb6⟩, kX⟩
  have hL := ob.len
  have hT : l.take l.length = l := List.take_length
  rw [hL] at hT
  simp [hL, hT, In.enc]
  obtain ⟨X1, hX1⟩ : ∃ X1 : Heap, X1 = X ++ [some ⟨26, .wr, [l]⟩, some ⟨30, .wr, [x.enc]⟩] := ⟨_, rfl⟩
  have b3 : blkAt X1 X.length = some ⟨26, .wr, [l]⟩ := by rw [hX1]; simp
  have b4 : blkAt X1 (X.length + 1) = some ⟨30, .wr, [x.enc]⟩ := by rw [hX1]; simp
  have k1 : Keep [] X X1 := by rw [hX1]; exact Keep.app _ _ _
  simp only [In.enc] at hX1 b4
  rw [← hX1]
  clear hX1
  have ob1 := ob.base k1
  have hbz : b.sz ≤ 1048576 := by unfold Bridge.sz; omega
  have rI := fun {Z : Heap} (k : Keep [] X1 Z) => implReact (ob1.base k) hbz x
  have rS := fun {Z : Heap} (k : Keep [] X1 Z) => specReact (ob1.base k) hbz x
  have hGall := @gAll b x
  have hGport := @gPort b x
  have hRoot := @rootsAll b x
  have hRok := @reactB_ok b x
  have hRl := reactB_len b x
  have hRo := reactB_outs b x
  have hRno : b.ok = false → reactB b x = (b, []) := fun h => reactB_no (by simp [h])
  obtain ⟨A, hA⟩ : ∃ A, A = (reactB b x).1 := ⟨_, rfl⟩
  obtain ⟨os, hos⟩ : ∃ os, os = (reactB b x).2 := ⟨_, rfl⟩
  have hRno1 : b.ok = false → A = b := fun h => by rw [hA, hRno h]
  have hRno2 : b.ok = false → os = [] := fun h => by rw [hos, hRno h]
  clear hRno
  simp only [← hA, ← hos, In.enc] at rI rS hGall hGport hRoot hRok hRl hRo
  refine stpL_runs (rI (Keep.refl _ _)) ?_
  rintro _ _ ⟨l1, f1, q1, g1, rfl, o1, p1, ⟨⟨G1, rfl⟩, -⟩, -⟩
  have hL1 := o1.rd.len
  have hT1 : l1.take l1.length = l1 := List.take_length
  rw [hL1] at hT1
  simp [hL1, hT1]
  obtain ⟨X2, hX2⟩ : ∃ X2 : Heap, X2 = X1 ++ (G1 ++ [some ⟨26, .wr, [l1]⟩]) := ⟨_, rfl⟩
  have b5 : blkAt X2 (X1.length + G1.length) = some ⟨26, .wr, [l1]⟩ := by rw [hX2]; simp
  have k2 : Keep [] X1 X2 := by rw [hX2]; exact Keep.app _ _ _
  have o1 := (o1.app [some ⟨26, .wr, [l1]⟩]).rd
  have p1 := (p1.rd).app [some ⟨26, .wr, [l1]⟩]
  rw [List.append_assoc, ← hX2] at o1 p1
  rw [← hX2]
  obtain ⟨K5, hK5⟩ : ∃ K, K = X1.length + G1.length := ⟨_, rfl⟩
  rw [← hK5] at b5 ⊢
  clear hX2
  have b32 := k2.blk b3 (by simp)
  have b42 := k2.blk b4 (by simp)
  have n32 := blkAt_len b32
  have n42 := blkAt_len b42
  simp [b32, b42, n32, n42, hL, hT]
  refine stpL_runs (rS k2) ?_
  rintro _ _ ⟨l2, f2, q2, g2, rfl, o2, p2, ⟨⟨G2, rfl⟩, -⟩, -⟩
  have hL2 := o2.rd.len
  have hT2 : l2.take l2.length = l2 := List.take_length
  rw [hL2] at hT2
  simp [hL2, hT2]
  obtain ⟨Y, hY⟩ : ∃ Y : Heap, Y = X2 ++ (G2 ++ [some ⟨26, .wr, [l2]⟩]) := ⟨_, rfl⟩
  have b7 : blkAt Y (X2.length + G2.length) = some ⟨26, .wr, [l2]⟩ := by rw [hY]; simp
  have k3 : Keep [] X2 Y := by rw [hY]; exact Keep.app _ _ _
  have o2 := (o2.app [some ⟨26, .wr, [l2]⟩]).rd
  have p2 := (p2.rd).app [some ⟨26, .wr, [l2]⟩]
  rw [List.append_assoc, ← hY] at o2 p2
  rw [← hY]
  obtain ⟨K7, hK7⟩ : ∃ K, K = X2.length + G2.length := ⟨_, rfl⟩
  rw [← hK7] at b7 ⊢
  clear hY
  have c3 := k3.blk b32 (by simp)
  have c5 := k3.blk b5 (by simp)
  have d3 := blkAt_len c3
  have d5 := blkAt_len c5
  have d7 := blkAt_len b7
  have oB := (ob1.base k2).base k3
  have oA := o1.base k3
  have pA := p1.base k3
  have hAz : A.sz ≤ 1048576 := by unfold Bridge.sz; omega
  have e1 := sameBridgeL oA o2 hAz
  have e2 := sameBridgeL oA oB hAz
  have e3 := implBridgeOk_is oB (by omega)
  have e4 := implBridgeOk_is oA (by omega)
  obtain ⟨a1, rfl, hp1⟩ := pA
  obtain ⟨a2, rfl, hp2⟩ := p2
  simp [c5, d5, b7, d7, hL1, hT1, hL2, hT2, e1, builtinV, pureB, lenV]
  obtain ⟨K3, hK3⟩ : ∃ K, K = X.length := ⟨_, rfl⟩
  rw [← hK3] at c3 d3 ⊢
  refine wpS_loop (fun j tm H' => ∃ i : Nat, i + j = os.length ∧ tm 3 = .ptr K3 0 0 ∧ tm 5 = .ptr K5 0 0 ∧ tm 6 = .w (.lf (.sl a1 os.length)) ∧ tm 8 = .w (.lf (.sl a2 os.length)) ∧ tm 9 = .int i ∧ H' = Y) os.length (by rw [env_K]; omega) ⟨0, by simp, by simp, by simp, by simp, by simp, by simp, rfl⟩ ?_
  rintro j tm H1 hj ⟨i, hij, t3, t5, t6, t8, t9, rfl⟩ Q2 hn2 he2 hr2
  simp [t6, t8, t9, builtinV, pureB, lenV]
  refine selS_intro (fun hc => ?_) (fun hc => ?_)
  · simp at hc
    obtain ⟨id, r, bl, rfl, hbl, hbe, hrow⟩ := hp1 i _ (by simp [hc]; rfl)
    obtain ⟨id2, r2, bl2, rfl, hbl2, hbe2, hrow2⟩ := hp2 i _ (by simp [hc]; rfl)
    have nid := blkAt_len hbl
    have nid2 := blkAt_len hbl2
    have g4 : IntKind.i64.wrap ((i : Int) + 1) = (i : Int) + 1 := wrap64 (by omega) (by omega)
    simp [t3, t5, t6, t8, t9, indexAddrV, elemIs, hbl, nid, hbe, hbl2, nid2, hbe2, hc, hrow, hrow2, Out.enc, g4]
    exact hn2 (j - 1) _ _ (by omega) ⟨i + 1, by omega, by simp [t3], by simp [t5], by simp [t6], by simp [t8], by simp, rfl⟩
  simp at hc
  simp [t3]
  refine he2 _ _ _ ?_
  clear hn2 he2 hr2 t9 t8
  simp [t3, c3, d3, hL, hT, e3]
  cases hok : b.ok
  · have hAb := hRno1 hok
    have ho0 := hRno2 hok
    simp [t5, t3, t6, c5, d5, hL1, hT1, c3, d3, hL, hT, e2, hAb, ho0, builtinV, pureB, lenV]
    refine hQ _ _ _ (by simp) ?_
    simp [Try.f3]
  have hAok := hRok hok
  have hGp := hGport
  simp [t5, c5, d5, hL1, hT1, e4, hAok, t3, c3, d3, hL, hT]
  refine stpL_runs (implGates_is oB hbz) ?_
  rintro _ _ ⟨_, f9, rfl, ⟨a9, rfl, o9⟩, ⟨⟨G3, rfl⟩, hf9⟩⟩
  have hgl : (gates b).length = b.ports.length := by simp [gates]
  have hgA : gates A = os.foldl gStep (gates b) := hGall.symm
  have hAl : A.ports.length = b.ports.length := hRl
  rw [hgl]
  simp [t6]
  refine wpS_loop (fun j tm H' => ∃ i : Nat, i + j = os.length ∧ tm 3 = .ptr K3 0 0 ∧ tm 5 = .ptr K5 0 0 ∧ tm 6 = .w (.lf (.sl a1 os.length)) ∧ tm 10 = .int 0 ∧ tm 11 = .w (.lf (.sl a9 b.ports.length)) ∧ tm 12 = .int i ∧ Own H' 4 a9 (((os.take i).foldl gStep (gates b)).map encB) f9 ∧ Keep [] H1 H') os.length (by rw [env_K]; omega) ⟨0, by simp, by simp [t3], by simp [t5], by simp [t6], by simp, by simp, by simp, by simpa using o9, Keep.app _ _ _⟩ ?_
  rintro j2 tm2 H2 hj2 ⟨i2, hij2, u3, u5, u6, u10, u11, u12, ho, hk⟩ Q3 hn3 he3 hr3
  simp [u6, u12, builtinV, pureB, lenV]
  refine selS_intro (fun hc2 => ?_) (fun hc2 => ?_)
  · simp at hc2
    obtain ⟨id, r, bl, rfl, hbl, hbe, hrow⟩ := (hp1.keep hk (by simp)) i2 _ (by simp [hc2]; rfl)
    have nid := blkAt_len hbl
    have g4 : IntKind.i64.wrap ((i2 : Int) + 1) = (i2 : Int) + 1 := wrap64 (by omega) (by omega)
    have hgp := hGport os[i2] (List.getElem_mem hc2)
    have hst : (os.take (i2 + 1)).foldl gStep (gates b) = gStep ((os.take i2).foldl gStep (gates b)) os[i2] := by
      rw [List.take_add_one, List.getElem?_eq_getElem hc2, List.foldl_append]; rfl
    have hgsl : ((os.take i2).foldl gStep (gates b)).length = b.ports.length := by rw [gStep_len, hgl]
    obtain ⟨gs, hgs⟩ : ∃ gs, gs = (os.take i2).foldl gStep (gates b) := ⟨_, rfl⟩
    obtain ⟨o, hoo⟩ : ∃ o, o = os[i2] := ⟨_, rfl⟩
    rw [← hgs] at hst hgsl ho
    rw [← hoo] at hst hgp hrow
    simp [u6, u12, indexAddrV, elemIs, hbl, nid, hbe, hc2, hrow, Out.enc]
    by_cases hkd : o.kind = 2
    · obtain ⟨hq0, hq1⟩ := hgp hkd
      obtain ⟨k, hkp⟩ : ∃ k : Nat, o.port = k := ⟨o.port.toNat, by omega⟩
      have hkl : k < gs.length := by omega
      have hkl2 : k < b.ports.length := by omega
      have hkI : (k : Int) < (b.ports.length : Int) := by omega
      obtain ⟨pid, pb, rfl, rfl, hpb, hpe, hpm, hpre⟩ := ho.blk (by intro h; have := congrArg List.length h; simp only [List.length_map, List.length_nil] at this; omega)
      have hpl := blkAt_len hpb
      obtain ⟨t, ht⟩ := hpre
      have hrw0 : pb.rows[k]? = some (encB gs[k]) := by
        rw [← ht, List.getElem?_append_left (by simp; omega), List.getElem?_map, List.getElem?_eq_getElem hkl]; rfl
      obtain ⟨hrl, hrw⟩ := List.getElem?_eq_some_iff.1 hrw0
      have hgst : gStep gs o = gs.set k o.on := by
        unfold gStep
        rw [if_pos hkd, hkp]; simp
      have hpid : H1.length ≤ pid := hf9 _ (by simp)
      simp [hkd, hkp, u3, u5, u6, u10, u11, u12, indexAddrV, elemIs, hbl, nid, hbe, hc2, hrow, Out.enc, hpl, hpb, hpe, hpm, hkI, hkl2, hrl, hrw, encB, g4]
      refine hn3 (j2 - 1) _ _ (by omega) ⟨i2 + 1, by omega, by simp [u3], by simp [u5], by simp [u6], by simp [u10], by simp [u11], by simp, ?_, ?_⟩
      · have := ho.set (row := encB o.on) hpb (i := k) (by simp; omega)
        rw [hpm, hpe] at this
        rw [hst, hgst, List.map_set]
        simpa [encB] using this
      · exact hk.next (Keep.set _ _) (by simpa using hpid)
    · have hgst : gStep gs o = gs := by unfold gStep; rw [if_neg hkd]
      simp [hkd, u3, u5, u6, u10, u11, u12, g4]
      refine hn3 (j2 - 1) _ _ (by omega) ⟨i2 + 1, by omega, by simp [u3], by simp [u5], by simp [u6], by simp [u10], by simp [u11], by simp, ?_, hk⟩
      rw [hst, hgst]
      exact ho
  simp at hc2
  simp [u3]
  refine he3 _ _ _ ?_
  clear hn3 he3 hr3
  rw [List.take_of_length_le hc2, ← hgA] at ho
  have c5k := hk.blk c5 (by simp)
  have d5k := blkAt_len c5k
  have oAk := oA.base hk
  simp [u5, c5k, d5k, hL1, hT1]
  refine stpL_runs (implGates_is oAk hAz) ?_
  rintro _ _ ⟨_, f13, rfl, ⟨a13, rfl, o13⟩, ⟨⟨G4, rfl⟩, -⟩⟩
  obtain ⟨V, hV⟩ : ∃ V : Heap, V = H2 ++ G4 := ⟨_, rfl⟩
  have kV : Keep [] H1 V := by rw [hV]; exact hk.next (Keep.app [] H2 G4) (by simp)
  have ho' := (ho.app G4).sl
  have ho13 := o13.sl
  rw [← hV] at ho' ho13 ⊢
  clear hV
  have c5V := kV.blk c5 (by simp)
  have d5V := blkAt_len c5V
  have c3V := kV.blk c3 (by simp)
  have d3V := blkAt_len c3V
  have oAV := oA.base kV
  have oBV := oB.base kV
  have e5 := sameBridgeL oAV oBV hAz
  obtain ⟨aA, hl1, hAp⟩ := oAV
  have c5l := c5V
  rw [hl1] at c5l
  simp only [Bridge.enc] at c5l
  have hgAl : (gates A).length = A.ports.length := by simp [gates]
  simp [hgAl]
  refine wpS_loop (fun j tm H' => ∃ i : Nat, i + j = A.ports.length ∧ tm 3 = .ptr K3 0 0 ∧ tm 5 = .ptr K5 0 0 ∧ tm 10 = .int (rootsTo A.ports i) ∧ tm 11 = .w (.lf (.sl a9 b.ports.length)) ∧ tm 13 = .w (.lf (.sl a13 A.ports.length)) ∧ tm 14 = .int i ∧ H' = V) A.ports.length (by rw [env_K]; omega) ⟨0, by simp, by simp [u3], by simp [u5], by simp [u10, rootsTo], by simp [u11], by simp, by simp, rfl⟩ ?_
  rintro j3 tm3 H3 hj3 ⟨i3, hij3, v3, v5, v10, v11, v13, v14, rfl⟩ Q4 hn4 he4 hr4
  simp [v5, v14, c5l, d5V, builtinV, pureB, lenV]
  refine selS_intro (fun hc3 => ?_) (fun hc3 => ?_)
  · simp at hc3
    have hc4 : i3 < b.ports.length := by omega
    obtain ⟨id, r, bl, rfl, hbl, hbe, hrow⟩ := hAp i3 _ (by simp [hc3]; rfl)
    obtain ⟨id2, r2, bl2, rfl, hbl2, hbe2, hrow2⟩ := ho' i3 _ (by rw [List.getElem?_map, List.getElem?_eq_getElem (by omega)]; rfl)
    obtain ⟨id3, r3, bl3, rfl, hbl3, hbe3, hrow3⟩ := ho13 i3 _ (by rw [List.getElem?_map, List.getElem?_eq_getElem (by omega)]; rfl)
    have m1 := blkAt_len hbl
    have m2 := blkAt_len hbl2
    have m3 := blkAt_len hbl3
    have g4 : IntKind.i64.wrap ((i3 : Int) + 1) = (i3 : Int) + 1 := wrap64 (by omega) (by omega)
    have hrs := rootsTo_step A.ports hc3
    have hrb : rootsTo A.ports i3 ≤ i3 := by unfold rootsTo; exact Nat.le_trans (List.length_filter_le _ _) (by simp; omega)
    have g5 : IntKind.i64.wrap ((rootsTo A.ports i3 : Int) + 1) = (rootsTo A.ports i3 : Int) + 1 := wrap64 (by omega) (by omega)
    simp [v5, v14, c5l, d5V, indexAddrV, elemIs, hbl, m1, hbe, hc3, hrow, Port.enc]
    by_cases hr1 : A.ports[i3].role = 1
    · rw [if_pos hr1] at hrs
      simp [hr1, v3, v5, v10, v11, v13, v14, indexAddrV, elemIs, hbl2, m2, hbe2, hc4, hrow2, hbl3, m3, hbe3, hc3, hrow3, encB, g4, g5]
      exact hn4 (j3 - 1) _ _ (by omega) ⟨i3 + 1, by omega, by simp [v3], by simp [v5], by simp [hrs], by simp [v11], by simp [v13], by simp, rfl⟩
    · rw [if_neg hr1] at hrs
      simp [hr1, v3, v5, v10, v11, v13, v14, indexAddrV, elemIs, hbl2, m2, hbe2, hc4, hrow2, hbl3, m3, hbe3, hc3, hrow3, encB, g4]
      exact hn4 (j3 - 1) _ _ (by omega) ⟨i3 + 1, by omega, by simp [v3], by simp [v5], by simp [v10, hrs], by simp [v11], by simp [v13], by simp, rfl⟩
  simp at hc3
  simp
  refine he4 _ _ _ ?_
  have hi3 : i3 = A.ports.length := by omega
  rw [hi3] at v10
  rcases hRoot hok with hr | hr
  · have hrI : (rootsTo A.ports A.ports.length : Int) ≤ 1 := by omega
    simp [v10, hrI]
    refine hQ _ _ _ (by simp) ?_
    simp [Try.f3]
  · by_cases hrI : (rootsTo A.ports A.ports.length : Int) ≤ 1
    · simp [v10, hrI]
      refine hQ _ _ _ (by simp) ?_
      simp [Try.f3]
    · have hrI' := hrI
      rw [hr] at hrI'
      simp [v10, hrI, hrI', v5, v3, c5V, d5V, hL1, hT1, c3V, d3V, hL, hT, e5, hr]
      refine hQ _ _ _ (by simp) ?_
      simp [Try.f3]
end W
end Go.Proofs.Ytfhaanknijlamaa
