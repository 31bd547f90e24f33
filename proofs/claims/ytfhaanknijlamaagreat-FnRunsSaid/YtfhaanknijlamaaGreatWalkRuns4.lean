/- The functions that this law reaches: what each computes. Conditions: those that each theorem names. -/
import Derived.Test.YtfhaanknijlamaaGreatWalkRuns3
set_option maxRecDepth 100000
set_option maxHeartbeats 4000000
set_option linter.unusedSimpArgs false
set_option linter.unusedVariables false
set_option linter.unnecessarySimpa false
namespace Go.Proofs.YtfhaanknijlamaaGreat
open Go Go.Ab Go.ChangeShapes Go.WideShapes Go.ChangeAt Go.RowKit
namespace W
theorem sameInsL {H : Heap} {q r : Lf} {xs ys : List In} (h : RdInS H q xs) (h2 : RdInS H r ys) (hn : xs.length ≤ 1048576) : run env 73 [.w (.lf q), .w (.lf r)] H = some (.bool (decide (xs = ys)), H) := by
  obtain ⟨a, rfl, ha⟩ := h
  obtain ⟨b, rfl, hb⟩ := h2
  refine run_walk ok73 Tryz.func73 rfl (by simp [Tryz.f73]) fun Q hQ => ?_
  simp only [Tryz.f73, strip, stripL, stripI, stripG, chkT, tagsB, tagsL, tagD, addT, tagA, lookN, tagOp, elmT, ty22, ty26, ty27, ty28, ty29, ty30, ty41, ty53, ty56, Nat.reduceEqDiff, if_false, reduceIte, Option.getD_some, Option.getD_none, dstAt, dstOk, Nat.reduceLT, decide_true, if_true]
  simp [builtinV, pureB, lenV]
  refine selS_intro (fun hl => ?_) (fun hl => ?_)
  · simp
    refine hQ _ _ _ (by simp) ?_
    simp at hl
    have : ¬ xs = ys := fun h => hl (by rw [h])
    simp [Tryz.f73, this]
  simp at hl
  simp [builtinV, pureB, lenV]
  refine wpS_loop (fun j tm H' => ∃ i, i + j = xs.length ∧ tm 0 = .w (.lf (.sl a xs.length)) ∧ tm 1 = .w (.lf (.sl b ys.length)) ∧ tm 5 = .int i ∧ H' = H ∧ xs.take i = ys.take i) xs.length (by rw [env_K]; omega) ⟨0, by simp, by simp, by simp, by simp, rfl, by simp⟩ ?_
  rintro j tm H' hj ⟨i, hij, h0, h1, h5, rfl, heq⟩ Q' hn' he' hr'
  simp [h0, h1, h5, builtinV, pureB, lenV]
  refine selS_intro (fun hc => ?_) (fun hc => ?_)
  · simp at hc
    have hc2 : i < ys.length := by omega
    obtain ⟨id, r, bl, rfl, hbl, hbe, hrow⟩ := ha i _ (by simp [hc]; rfl)
    obtain ⟨id2, r2, bl2, rfl, hbl2, hbe2, hrow2⟩ := hb i _ (by simp [hc2]; rfl)
    have g4 : IntKind.i64.wrap ((i : Int) + 1) = (i : Int) + 1 := wrap64 (by omega) (by omega)
    simp [h0, h1, h5, indexAddrV, elemIs, hbl, hbe, hbl2, hbe2, hc, hc2, hrow, hrow2, In.enc]
    refine selS_intro (fun hd => ?_) (fun hd => ?_)
    · simp
      refine hr' _ _ ?_
      simp
      refine hQ _ _ _ (by simp) ?_
      have : ¬ xs = ys := fun h => by subst h; simp at hd
      simp [Tryz.f73, this]
    · have hxy : xs[i] = ys[i] := by
        refine In.enc_inj ?_
        simpa [In.enc] using hd
      simp [h0, h1, h5, g4]
      exact hn' (j - 1) _ _ (by omega) ⟨i + 1, by omega, by simp [h0], by simp [h1], by simp, rfl, by rw [List.take_add_one, List.take_add_one, heq]; simp [hc, hc2, hxy]⟩
  · simp at hc
    simp [h0, h1, h5]
    refine he' _ _ _ ?_
    simp
    refine hQ _ _ _ (by simp) ?_
    have : xs = ys := by
      rw [List.take_of_length_le (by omega), List.take_of_length_le (by omega)] at heq
      exact heq
    simp [Tryz.f73, this]

theorem sameIntsL {H : Heap} {q r : Lf} {xs ys : List Int} (h : RdIntS H q xs) (h2 : RdIntS H r ys) (hn : xs.length ≤ 1048576) : run env 44 [.w (.lf q), .w (.lf r)] H = some (.bool (decide (xs = ys)), H) := by
  obtain ⟨a, rfl, ha⟩ := h
  obtain ⟨b, rfl, hb⟩ := h2
  refine run_walk ok44 Tryz.func44 rfl (by simp [Tryz.f44]) fun Q hQ => ?_
  simp only [Tryz.f44, strip, stripL, stripI, stripG, chkT, tagsB, tagsL, tagD, addT, tagA, lookN, tagOp, elmT, ty22, ty26, ty27, ty28, ty29, ty30, ty41, ty53, ty56, Nat.reduceEqDiff, if_false, reduceIte, Option.getD_some, Option.getD_none, dstAt, dstOk, Nat.reduceLT, decide_true, if_true]
  simp [builtinV, pureB, lenV]
  refine selS_intro (fun hl => ?_) (fun hl => ?_)
  · simp
    refine hQ _ _ _ (by simp) ?_
    simp at hl
    have : ¬ xs = ys := fun h => hl (by rw [h])
    simp [Tryz.f44, this]
  simp at hl
  simp [builtinV, pureB, lenV]
  refine wpS_loop (fun j tm H' => ∃ i, i + j = xs.length ∧ tm 0 = .w (.lf (.sl a xs.length)) ∧ tm 1 = .w (.lf (.sl b ys.length)) ∧ tm 5 = .int i ∧ H' = H ∧ xs.take i = ys.take i) xs.length (by rw [env_K]; omega) ⟨0, by simp, by simp, by simp, by simp, rfl, by simp⟩ ?_
  rintro j tm H' hj ⟨i, hij, h0, h1, h5, rfl, heq⟩ Q' hn' he' hr'
  simp [h0, h1, h5, builtinV, pureB, lenV]
  refine selS_intro (fun hc => ?_) (fun hc => ?_)
  · simp at hc
    have hc2 : i < ys.length := by omega
    obtain ⟨id, r, bl, rfl, hbl, hbe, hrow⟩ := ha i _ (by simp [hc]; rfl)
    obtain ⟨id2, r2, bl2, rfl, hbl2, hbe2, hrow2⟩ := hb i _ (by simp [hc2]; rfl)
    have g4 : IntKind.i64.wrap ((i : Int) + 1) = (i : Int) + 1 := wrap64 (by omega) (by omega)
    simp [h0, h1, h5, indexAddrV, elemIs, hbl, hbe, hbl2, hbe2, hc, hc2, hrow, hrow2, encI]
    refine selS_intro (fun hd => ?_) (fun hd => ?_)
    · simp
      refine hr' _ _ ?_
      simp
      refine hQ _ _ _ (by simp) ?_
      have : ¬ xs = ys := fun h => by subst h; simp at hd
      simp [Tryz.f44, this]
    · have hxy : xs[i] = ys[i] := by
        refine encI_inj ?_
        simpa [encI] using hd
      simp [h0, h1, h5, g4]
      exact hn' (j - 1) _ _ (by omega) ⟨i + 1, by omega, by simp [h0], by simp [h1], by simp, rfl, by rw [List.take_add_one, List.take_add_one, heq]; simp [hc, hc2, hxy]⟩
  · simp at hc
    simp [h0, h1, h5]
    refine he' _ _ _ ?_
    simp
    refine hQ _ _ _ (by simp) ?_
    have : xs = ys := by
      rw [List.take_of_length_le (by omega), List.take_of_length_le (by omega)] at heq
      exact heq
    simp [Tryz.f44, this]

theorem sameMinderL {H : Heap} {l r : List Lf} {x y : Minder} (h : RdMinder H l x) (h2 : RdMinder H r y) (hn : x.sz ≤ 1048576) : run env 74 [.agg l, .agg r] H = some (.bool (decide (x = y)), H) := by
  obtain ⟨a, rfl, h⟩ := h
  obtain ⟨b, rfl, h2⟩ := h2
  have e := fun G => sameInsL (q := .sl a x.log.length) (r := .sl b y.log.length) (xs := x.log) (ys := y.log) (H := H ++ G) ⟨a, rfl, h.app G⟩ ⟨b, rfl, h2.app G⟩ hn
  refine run_walk ok74 Tryz.func74 rfl (by simp [Tryz.f74]) fun Q hQ => ?_
  simp only [Tryz.f74, strip, stripL, stripI, stripG, chkT, tagsB, tagsL, tagD, addT, tagA, lookN, tagOp, elmT, ty22, ty26, ty27, ty28, ty29, ty30, ty41, ty53, ty56, Nat.reduceEqDiff, if_false, reduceIte, Option.getD_some, Option.getD_none, dstAt, dstOk, Nat.reduceLT, decide_true, if_true]
  simp [Minder.enc]
  repeat' (first | (refine gdL_t (fun h => ?_) (fun h => ?_) <;> simp [h, e]) | (refine gdL_f (fun h => ?_) (fun h => ?_) <;> simp [h, e]) | (refine selS_intro (fun h => ?_) (fun h => ?_) <;> simp [h, e]))
  all_goals (refine hQ _ _ _ (by simp) ?_)
  all_goals (clear hQ; obtain ⟨x1, x2, x3, x4, x5, x6, x7⟩ := x; obtain ⟨y1, y2, y3, y4, y5, y6, y7⟩ := y; simp_all [Tryz.f74])

theorem sameBoxL {H : Heap} {l r : List Lf} {x y : Box} (h : RdBox H l x) (h2 : RdBox H r y) (hn : x.sz ≤ 1048576) : run env 29 [.agg l, .agg r] H = some (.bool (decide (x = y)), H) := by
  obtain ⟨q0, q1, q2, q3, q4, rfl, ⟨a0, rws, rfl, hs, hlen, hat⟩, ⟨a1, rfl, ha1⟩, hg, hl, ⟨a4, rfl, ha4⟩⟩ := h
  obtain ⟨r0, r1, r2, r3, r4, rfl, ⟨c0, rws2, rfl, hs2, hlen2, hat2⟩, ⟨c1, rfl, hc1⟩, hg2, hl2, ⟨c4, rfl, hc4⟩⟩ := h2
  have hz := hn
  have hz2 := MinderS.sz_len x.two
  unfold Box.sz at hz
  have e1 := fun G => sameFlagsL (hg.app G) (hg2.app G) (by omega)
  have e2 := fun G => sameInsL (hl.app G) (hl2.app G) (by omega)
  refine run_walk ok29 Tryz.func29 rfl (by simp [Tryz.f29]) fun Q hQ => ?_
  simp only [Tryz.f29, strip, stripL, stripI, stripG, chkT, tagsB, tagsL, tagD, addT, tagA, lookN, tagOp, elmT, ty22, ty26, ty27, ty28, ty29, ty30, ty41, ty53, ty56, Nat.reduceEqDiff, if_false, reduceIte, Option.getD_some, Option.getD_none, dstAt, dstOk, Nat.reduceLT, decide_true, if_true]
  have bad : x ≠ y → ∀ tm H', (∃ G, H' = H ++ G) → tm 4 = .bool false → Q .ret tm H' := by
    rintro hx tm _ ⟨G, rfl⟩ h4
    refine hQ _ _ _ (by simp) ?_
    simp [Tryz.f29, h4, hx]
  simp [Box.enc, builtinV, pureB, lenV]
  refine gdL_f (fun hd0 => ?_) (fun hd0 => ?_)
  · simp [hd0]
    exact bad (fun hx => by subst hx; simp at hd0) _ _ ⟨_, rfl⟩ (by simp)
  simp [hd0, Box.enc, builtinV, pureB, lenV, e1, e2]
  refine gdL_f (fun hd1 => ?_) (fun hd1 => ?_)
  · simp [hd1]
    exact bad (fun hx => by subst hx; simp at hd1) _ _ ⟨_, rfl⟩ (by simp)
  simp [hd1, Box.enc, builtinV, pureB, lenV, e1, e2]
  refine gdL_f (fun hd2 => ?_) (fun hd2 => ?_)
  · simp [hd2]
    exact bad (fun hx => by subst hx; simp at hd2) _ _ ⟨_, rfl⟩ (by simp)
  simp [hd2, Box.enc, builtinV, pureB, lenV, e1, e2]
  refine gdL_f (fun hd3 => ?_) (fun hd3 => ?_)
  · simp [hd3]
    exact bad (fun hx => by subst hx; simp at hd3) _ _ ⟨_, rfl⟩ (by simp)
  simp [hd3, Box.enc, builtinV, pureB, lenV, e1, e2]
  refine gdL_f (fun hd4 => ?_) (fun hd4 => ?_)
  · simp [hd4]
    exact bad (fun hx => by subst hx; simp at hd4) _ _ ⟨_, rfl⟩ (by simp)
  simp [hd4, Box.enc, builtinV, pureB, lenV, e1, e2]
  refine gdL_f (fun hd5 => ?_) (fun hd5 => ?_)
  · simp [hd5]
    exact bad (fun hx => by subst hx; simp at hd5) _ _ ⟨_, rfl⟩ (by simp)
  simp [hd5, Box.enc, builtinV, pureB, lenV, e1, e2]
  refine gdL_f (fun hd6 => ?_) (fun hd6 => ?_)
  · simp [hd6]
    exact bad (fun hx => by subst hx; simp at hd6) _ _ ⟨_, rfl⟩ (by simp)
  simp [hd6, Box.enc, builtinV, pureB, lenV, e1, e2]
  refine selS_intro (fun hd7 => ?_) (fun hd7 => ?_)
  · simp
    exact bad (fun hx => by subst hx; simp at hd7) _ _ ⟨_, rfl⟩ (by simp)
  simp at hd0 hd1 hd2 hd3 hd4 hd5 hd6 hd7
  simp
  refine wpS_loop (fun j tm H' => ∃ i, i + j = x.two.length ∧ tm 2 = .ptr H.length 0 0 ∧ tm 3 = .ptr (H.length + 1) 0 0 ∧ tm 5 = .int i ∧ H' = H ++ [some ⟨32, .wr, [x.enc (.sl a0 x.two.length) (.sl a1 x.net.length) q2 q3 (.sl a4 x.said.length)]⟩, some ⟨32, .wr, [y.enc (.sl c0 y.two.length) (.sl c1 y.net.length) r2 r3 (.sl c4 y.said.length)]⟩] ∧ x.two.take i = y.two.take i) x.two.length (by rw [env_K]; omega) ⟨0, by simp, by simp, by simp, by simp, by simp [Box.enc], by simp⟩ ?_
  rintro j tm1 H' hj ⟨i, hij, t2, t3, t5, rfl, heq⟩ Q' hn' he' hr'
  simp [t2, t3, t5, Box.enc, builtinV, pureB, lenV]
  refine selS_intro (fun hc => ?_) (fun hc => ?_)
  · simp at hc
    have hc2 : i < y.two.length := by omega
    have hri : i < rws.length := by omega
    have hri2 : i < rws2.length := by omega
    obtain ⟨id, r, bl, rfl, hbl, hbe, hrow⟩ := hs i _ (List.getElem?_eq_getElem hri)
    obtain ⟨id2, r2, bl2, rfl, hbl2, hbe2, hrow2⟩ := hs2 i _ (List.getElem?_eq_getElem hri2)
    have he := hat i _ _ (List.getElem?_eq_getElem hri) (List.getElem?_eq_getElem hc)
    have he2 := hat2 i _ _ (List.getElem?_eq_getElem hri2) (List.getElem?_eq_getElem hc2)
    have hL := he.len
    have hT : rws[i].take rws[i].length = rws[i] := List.take_length
    rw [hL] at hT
    have hL2 := he2.len
    have hT2 : rws2[i].take rws2[i].length = rws2[i] := List.take_length
    rw [hL2] at hT2
    have hsz := MinderS.sz_at (List.getElem_mem hc)
    have ee := fun G => sameMinderL (he.app G) (he2.app G) (by omega)
    have hbl' := fun G => blkAt_app hbl G
    have hbl2' := fun G => blkAt_app hbl2 G
    have g4 : IntKind.i64.wrap ((i : Int) + 1) = (i : Int) + 1 := wrap64 (by omega) (by omega)
    simp [t2, t3, t5, Box.enc, indexAddrV, elemIs, hbl', hbe, hbl2', hbe2, hc, hc2, hrow, hrow2, hL, hT, hL2, hT2, ee]
    refine selS_intro (fun hd => ?_) (fun hd => ?_)
    · simp
      refine hr' _ _ ?_
      simp
      exact bad (fun h => by subst h; simp at hd) _ _ ⟨_, rfl⟩ (by simp)
    · have hxy : x.two[i] = y.two[i] := by simpa using hd
      simp [t2, t3, t5, g4]
      exact hn' (j - 1) _ _ (by omega) ⟨i + 1, by omega, by simp [t2], by simp [t3], by simp, by simp [Box.enc], by rw [List.take_add_one, List.take_add_one, heq]; simp [hc, hc2, hxy]⟩
  simp at hc
  simp [t2, t3, t5]
  refine he' _ _ _ ?_
  simp
  have etwo : x.two = y.two := by
    rw [List.take_of_length_le (by omega), List.take_of_length_le (by omega)] at heq
    exact heq
  have s2 := t2
  have s3 := t3
  clear hn' he' hr' t5 heq
  refine wpS_loop (fun j tm H' => ∃ i, i + j = x.net.length ∧ tm 2 = .ptr H.length 0 0 ∧ tm 3 = .ptr (H.length + 1) 0 0 ∧ tm 6 = .int i ∧ H' = H ++ [some ⟨32, .wr, [x.enc (.sl a0 x.two.length) (.sl a1 x.net.length) q2 q3 (.sl a4 x.said.length)]⟩, some ⟨32, .wr, [y.enc (.sl c0 y.two.length) (.sl c1 y.net.length) r2 r3 (.sl c4 y.said.length)]⟩] ∧ x.net.take i = y.net.take i) x.net.length (by rw [env_K]; omega) ⟨0, by simp, by simp [s2, s3], by simp [s2, s3], by simp, by simp [Box.enc], by simp⟩ ?_
  rintro j tm2 H' hj ⟨i, hij, t2, t3, t5, rfl, heq⟩ Q' hn' he' hr'
  simp [t2, t3, t5, Box.enc, builtinV, pureB, lenV]
  refine selS_intro (fun hc => ?_) (fun hc => ?_)
  · simp at hc
    have hc2 : i < y.net.length := by omega
    obtain ⟨id, r, bl, rfl, hbl, hbe, hrow⟩ := ha1 i _ (by simp [hc]; rfl)
    obtain ⟨id2, r2, bl2, rfl, hbl2, hbe2, hrow2⟩ := hc1 i _ (by simp [hc2]; rfl)
    have hbl' := fun G => blkAt_app hbl G
    have hbl2' := fun G => blkAt_app hbl2 G
    have g4 : IntKind.i64.wrap ((i : Int) + 1) = (i : Int) + 1 := wrap64 (by omega) (by omega)
    simp [t2, t3, t5, Box.enc, indexAddrV, elemIs, hbl', hbe, hbl2', hbe2, hc, hc2, hrow, hrow2, Wire.enc]
    refine selS_intro (fun hd => ?_) (fun hd => ?_)
    · simp
      refine hr' _ _ ?_
      simp
      exact bad (fun h => by subst h; simp at hd) _ _ ⟨_, rfl⟩ (by simp)
    · have hxy : x.net[i] = y.net[i] := by
        refine Wire.enc_inj ?_
        simpa [Wire.enc] using hd
      simp [t2, t3, t5, g4]
      exact hn' (j - 1) _ _ (by omega) ⟨i + 1, by omega, by simp [t2], by simp [t3], by simp, by simp [Box.enc], by rw [List.take_add_one, List.take_add_one, heq]; simp [hc, hc2, hxy]⟩
  simp at hc
  simp [t2, t3, t5]
  refine he' _ _ _ ?_
  simp
  have enet : x.net = y.net := by
    rw [List.take_of_length_le (by omega), List.take_of_length_le (by omega)] at heq
    exact heq
  have s2 := t2
  have s3 := t3
  clear hn' he' hr' t5 heq
  refine wpS_loop (fun j tm H' => ∃ i, i + j = x.said.length ∧ tm 2 = .ptr H.length 0 0 ∧ tm 3 = .ptr (H.length + 1) 0 0 ∧ tm 7 = .int i ∧ H' = H ++ [some ⟨32, .wr, [x.enc (.sl a0 x.two.length) (.sl a1 x.net.length) q2 q3 (.sl a4 x.said.length)]⟩, some ⟨32, .wr, [y.enc (.sl c0 y.two.length) (.sl c1 y.net.length) r2 r3 (.sl c4 y.said.length)]⟩] ∧ x.said.take i = y.said.take i) x.said.length (by rw [env_K]; omega) ⟨0, by simp, by simp [s2, s3], by simp [s2, s3], by simp, by simp [Box.enc], by simp⟩ ?_
  rintro j tm3 H' hj ⟨i, hij, t2, t3, t5, rfl, heq⟩ Q' hn' he' hr'
  simp [t2, t3, t5, Box.enc, builtinV, pureB, lenV]
  refine selS_intro (fun hc => ?_) (fun hc => ?_)
  · simp at hc
    have hc2 : i < y.said.length := by omega
    obtain ⟨id, r, bl, rfl, hbl, hbe, hrow⟩ := ha4 i _ (by simp [hc]; rfl)
    obtain ⟨id2, r2, bl2, rfl, hbl2, hbe2, hrow2⟩ := hc4 i _ (by simp [hc2]; rfl)
    have hbl' := fun G => blkAt_app hbl G
    have hbl2' := fun G => blkAt_app hbl2 G
    have g4 : IntKind.i64.wrap ((i : Int) + 1) = (i : Int) + 1 := wrap64 (by omega) (by omega)
    simp [t2, t3, t5, Box.enc, indexAddrV, elemIs, hbl', hbe, hbl2', hbe2, hc, hc2, hrow, hrow2, Out.enc]
    refine selS_intro (fun hd => ?_) (fun hd => ?_)
    · simp
      refine hr' _ _ ?_
      simp
      exact bad (fun h => by subst h; simp at hd) _ _ ⟨_, rfl⟩ (by simp)
    · have hxy : x.said[i] = y.said[i] := by
        refine Out.enc_inj ?_
        simpa [Out.enc] using hd
      simp [t2, t3, t5, g4]
      exact hn' (j - 1) _ _ (by omega) ⟨i + 1, by omega, by simp [t2], by simp [t3], by simp, by simp [Box.enc], by rw [List.take_add_one, List.take_add_one, heq]; simp [hc, hc2, hxy]⟩
  simp at hc
  simp [t2, t3, t5]
  refine he' _ _ _ ?_
  simp
  have esaid : x.said = y.said := by
    rw [List.take_of_length_le (by omega), List.take_of_length_le (by omega)] at heq
    exact heq
  have s2 := t2
  have s3 := t3
  clear hn' he' hr' t5 heq
  refine hQ _ _ _ (by simp) ?_
  have hxy : x = y := by
    obtain ⟨x1, x2, x3, x4, x5, x6, x7, x8⟩ := x
    obtain ⟨y1, y2, y3, y4, y5, y6, y7, y8⟩ := y
    obtain ⟨u1, u2, u3⟩ := x3
    obtain ⟨v1, v2, v3⟩ := y3
    simp_all
  simp [Tryz.f29, hxy]

theorem bigL {H : Heap} {a : Option (Nat × Nat)} {n : Nat} : run env 8 [.w (.lf (.sl a n))] H = some (.bool (decide ((1048576 : Int) < n)), H) := by
  refine run_walk ok8 Tryz.func8 rfl (by simp [Tryz.f8]) fun Q hQ => ?_
  simp only [Tryz.f8, strip, stripL, stripI, stripG, chkT, tagsB, tagsL, tagD, addT, tagA, lookN, tagOp, elmT, ty22, ty26, ty27, ty28, ty29, ty30, ty41, ty53, ty56, Nat.reduceEqDiff, if_false, reduceIte, Option.getD_some, Option.getD_none, dstAt, dstOk, Nat.reduceLT, decide_true, if_true]
  simp [builtinV, pureB, lenV]
  refine hQ _ _ _ (by simp) ?_
  simp [Tryz.f8]

theorem u8R {x : Int} (h : (Lit.int .u8 x).wf = true) : 0 ≤ x ∧ x ≤ 255 := by
  simp only [Lit.wf, Bool.and_eq_true, decide_eq_true_eq] at h
  exact h
theorem fold_split (l : List Deed) : ∀ (a : Box) (cs : List Int), l.foldl stepAll (a, cs) = ((l.foldl stepAll (a, [])).1, cs ++ (l.foldl stepAll (a, [])).2) := by
  induction l with
  | nil => intro a cs; simp
  | cons d l ih =>
    intro a cs
    simp only [List.foldl_cons]
    rw [ih, ih (stepAll (a, []) d).1 (stepAll (a, []) d).2]
    simp [stepAll]
theorem doAll_split {x : Box} {ds : List Deed} (hok : x.ok = true) (hl : ds.length ≤ 300) (k : Nat) : (doAll (doAll x (ds.take k)).1 (ds.drop k)).1 = (doAll x ds).1 ∧ (doAll x (ds.take k)).2.length + (doAll (doAll x (ds.take k)).1 (ds.drop k)).2.length = (doAll x ds).2.length := by
  have h1 : doAll x (ds.take k) = (ds.take k).foldl stepAll (x, []) := by
    rw [doAll, if_neg (by rw [hok]; simp; omega)]
  have h0 : doAll x ds = ds.foldl stepAll (x, []) := by
    rw [doAll, if_neg (by rw [hok]; simp; omega)]
  have hok1 : (doAll x (ds.take k)).1.ok = true := by
    rw [doAll_yes (by simp; omega) hok]
    exact foldP_ok _ hok _ (by omega)
  have h2 : doAll (doAll x (ds.take k)).1 (ds.drop k) = (ds.drop k).foldl stepAll ((doAll x (ds.take k)).1, []) := by
    rw [doAll, if_neg (by rw [hok1]; simp; omega)]
  have h3 : ds.foldl stepAll (x, []) = (ds.drop k).foldl stepAll ((ds.take k).foldl stepAll (x, [])) := by
    rw [← List.foldl_append, List.take_append_drop]
  rw [h2, h0, h3, ← h1]
  have := fold_split (ds.drop k) (doAll x (ds.take k)).1 (doAll x (ds.take k)).2
  rw [show ((doAll x (ds.take k)).1, (doAll x (ds.take k)).2) = doAll x (ds.take k) from rfl] at this
  rw [this]
  simp
theorem doAll_none {x : Box} {ds : List Deed} (hl : ds.length ≤ 300) (h : (doAll x ds).2.length = 0) : (doAll x ds).1 = x := by
  by_cases hok : x.ok = true
  · rw [doAll_yes hl hok] at h ⊢
    rw [foldP_len _ _ _ (by omega)] at h
    rw [h]; rfl
  · rw [doAll, if_pos (by simp [hok])]
theorem doAll_some {x : Box} {ds : List Deed} (hl : ds.length ≤ 300) (h : (doAll x ds).2.length ≠ 0) : x.ok = true ∧ ds ≠ [] := by
  by_cases hok : x.ok = true
  · refine ⟨hok, ?_⟩
    rintro rfl
    rw [doAll_yes hl hok, foldP_len _ _ _ (by simp)] at h
    simp at h
  · rw [doAll, if_pos (by simp [hok])] at h
    simp at h
theorem atL {H : Heap} {a : Option (Nat × Nat)} {bs : List Int} (hs : Sl H 5 a (bs.map encU)) (hr : ∀ x ∈ bs, 0 ≤ x ∧ x ≤ 255) (hn : bs.length ≤ 1048576) : ∃ v : Int, 0 ≤ v ∧ v ≤ 255 ∧ run env 45 [.w (.lf (.sl a bs.length)), .int 1] H = some (.int v, H) := by
  by_cases h1 : 1 < bs.length
  · obtain ⟨id, r, bl, rfl, hbl, hbe, hrow⟩ := hs 1 _ (by rw [List.getElem?_map, List.getElem?_eq_getElem h1]; rfl)
    have hx := hr _ (List.getElem_mem h1)
    have hw : IntKind.i64.wrap bs[1] = bs[1] := wrap64 (by omega) (by omega)
    have h1I : (1 : Int) < bs.length := by omega
    have nid := blkAt_len hbl
    refine ⟨bs[1], hx.1, hx.2, ?_⟩
    refine run_walk ok45 Tryz.func45 rfl (by simp [Tryz.f45]) fun Q hQ => ?_
    simp only [Tryz.f45, strip, stripL, stripI, stripG, chkT, tagsB, tagsL, tagD, addT, tagA, lookN, tagOp, elmT, ty22, ty26, ty27, ty28, ty29, ty30, ty41, ty53, ty56, Nat.reduceEqDiff, if_false, reduceIte, Option.getD_some, Option.getD_none, dstAt, dstOk, Nat.reduceLT, decide_true, if_true]
    simp [builtinV, pureB, lenV, h1I, h1, indexAddrV, elemIs, hbl, nid, hbe, hrow, encU, convV, hw]
    refine hQ _ _ _ (by simp) ?_
    simp [Tryz.f45]
  · have h1I : ¬ (1 : Int) < bs.length := by omega
    have w0 : IntKind.i64.wrap 7 = 7 := wrap64 (by omega) (by omega)
    have w1 : IntKind.i64.wrap (7 + (bs.length : Int)) = 7 + bs.length := wrap64 (by omega) (by omega)
    refine ⟨(7 + (bs.length : Int)).tmod 256, Int.tmod_nonneg _ (by omega), by have := Int.tmod_lt_of_pos (7 + (bs.length : Int)) (show (0 : Int) < 256 by omega); omega, ?_⟩
    refine run_walk ok45 Tryz.func45 rfl (by simp [Tryz.f45]) fun Q hQ => ?_
    simp only [Tryz.f45, strip, stripL, stripI, stripG, chkT, tagsB, tagsL, tagD, addT, tagA, lookN, tagOp, elmT, ty22, ty26, ty27, ty28, ty29, ty30, ty41, ty53, ty56, Nat.reduceEqDiff, if_false, reduceIte, Option.getD_some, Option.getD_none, dstAt, dstOk, Nat.reduceLT, decide_true, if_true]
    simp [builtinV, pureB, lenV, h1I, h1, w0, w1]
    refine hQ _ _ _ (by simp) ?_
    simp [Tryz.f45, w0, w1]
theorem runsLaw {H : Heap} {a : Option (Nat × Nat)} {bs : List Int} (hs : Sl H 5 a (bs.map encU)) (hr : ∀ x ∈ bs, 0 ≤ x ∧ x ≤ 255) : Runs env 7 [.w (.lf (.sl a bs.length))] H fun v _ => v = .bool true := by
  have eb := fun (H : Heap) => bigL (H := H) (a := a) (n := bs.length)
  refine Runs.walk ok7 Tryz.func7 rfl (by simp [Tryz.f7]) fun Q hQ => ?_
  simp only [Tryz.f7, strip, stripL, stripI, stripG, chkT, tagsB, tagsL, tagD, addT, tagA, lookN, tagOp, elmT, ty22, ty26, ty27, ty28, ty29, ty30, ty41, ty53, ty56, Nat.reduceEqDiff, if_false, reduceIte, Option.getD_some, Option.getD_none, dstAt, dstOk, Nat.reduceLT, decide_true, if_true]
  simp [eb]
  refine selS_intro (fun hb => ?_) (fun hb => ?_)
  · simp
    refine hQ _ _ _ (by simp) ?_
    simp [Tryz.f7]
  simp at hb
  have hn : bs.length ≤ 1048576 := by omega
  simp
  refine stpL_runs (drawDoAll hs hn) ?_
  rintro _ X ⟨⟨l, x, q, ds, rfl, ox, oq, hxs, hdl⟩, kX⟩
  have hL := ox.len
  have hT : l.take l.length = l := List.take_length
  rw [hL] at hT
  simp [hL, hT]
  obtain ⟨X1, hX1⟩ : ∃ X1 : Heap, X1 = X ++ [some ⟨32, .wr, [l]⟩] := ⟨_, rfl⟩
  have b3 : blkAt X1 X.length = some ⟨32, .wr, [l]⟩ := by rw [hX1]; simp
  have n3 := blkAt_len b3
  have k1 : Keep [] X X1 := by rw [hX1]; exact Keep.app _ _ _
  have o1 := ox.base k1
  have oq1 := oq.base k1
  rw [← hX1]
  clear hX1
  refine stpL_runs (implDoAll_is o1 (by omega) oq1 (by omega)) ?_
  have hAs : ((doAll x ds).1).sz ≤ 1048576 := doAll_sz0 (by omega) (by omega)
  have hAl : ((doAll x ds).2).length ≤ 1048576 := doAll_sz1 (x := x) (by omega) (by omega)
  have hnone := @doAll_none x ds (by omega)
  have hsome := @doAll_some x ds (by omega)
  have hsplit := fun (hok : x.ok = true) k => @doAll_split x ds hok (by omega) k
  obtain ⟨A, hA⟩ : ∃ A, A = (doAll x ds).1 := ⟨_, rfl⟩
  obtain ⟨cs, hcs⟩ : ∃ cs, cs = (doAll x ds).2 := ⟨_, rfl⟩
  rw [← hcs] at hAl hnone hsome
  rw [← hA] at hAs hnone
  rw [← hA, ← hcs] at hsplit
  rw [← hA, ← hcs]
  rintro _ _ ⟨l1, f1, q1, g1, rfl, oa, oc, -, ⟨⟨G1, rfl⟩, -⟩⟩
  have hL1 := oa.len
  have hT1 : l1.take l1.length = l1 := List.take_length
  rw [hL1] at hT1
  simp [hL1, hT1]
  obtain ⟨X2, hX2⟩ : ∃ X2 : Heap, X2 = X1 ++ (G1 ++ [some ⟨32, .wr, [l1]⟩]) := ⟨_, rfl⟩
  have b5 : blkAt X2 (X1.length + G1.length) = some ⟨32, .wr, [l1]⟩ := by rw [hX2]; simp
  have k2 : Keep [] X1 X2 := by rw [hX2]; exact Keep.app _ _ _
  have oa2 := (oa.app [some ⟨32, .wr, [l1]⟩]).rd
  have oc2 := (oc.rd).app [some ⟨32, .wr, [l1]⟩]
  rw [List.append_assoc, ← hX2] at oa2 oc2
  have b32 := k2.blk b3 (by simp)
  have n32 := blkAt_len b32
  have o2 := o1.base k2
  have oq2 := oq1.base k2
  obtain ⟨K5, hK5⟩ : ∃ K5, K5 = X1.length + G1.length := ⟨_, rfl⟩
  rw [← hK5] at b5
  rw [← hX2, ← hK5]
  clear hX2
  simp [b32, n32, hL, hT]
  refine stpL_runs (specDoAll_is o2 (by omega) oq2 (by omega)) ?_
  rw [← hA, ← hcs]
  rintro _ _ ⟨l2, f2, q2, g2, rfl, ob, od, -, ⟨⟨G2, rfl⟩, -⟩⟩
  have hL2 := ob.len
  have hT2 : l2.take l2.length = l2 := List.take_length
  rw [hL2] at hT2
  simp [hL2, hT2]
  obtain ⟨X3, hX3⟩ : ∃ X3 : Heap, X3 = X2 ++ (G2 ++ [some ⟨32, .wr, [l2]⟩]) := ⟨_, rfl⟩
  have b7 : blkAt X3 (X2.length + G2.length) = some ⟨32, .wr, [l2]⟩ := by rw [hX3]; simp
  have k3 : Keep [] X2 X3 := by rw [hX3]; exact Keep.app _ _ _
  have ob3 := (ob.app [some ⟨32, .wr, [l2]⟩]).rd
  have od3 := (od.rd).app [some ⟨32, .wr, [l2]⟩]
  rw [List.append_assoc, ← hX3] at ob3 od3
  obtain ⟨K7, hK7⟩ : ∃ K7, K7 = X2.length + G2.length := ⟨_, rfl⟩
  rw [← hK7] at b7
  rw [← hX3, ← hK7]
  clear hX3
  have c3 := k3.blk b32 (by simp)
  have c5 := k3.blk b5 (by simp)
  have d3 := blkAt_len c3
  have d5 := blkAt_len c5
  have d7 := blkAt_len b7
  have oA := oa2.base k3
  have oC := oc2.base k3
  have oX := o2.base k3
  have oQ := oq2.base k3
  have e1 := sameBoxL oA ob3 hAs
  have e2 := sameBoxL oA oX hAs
  have e3 := sameIntsL oC od3 hAl
  have hs3 := hs.keep (((kX.next k1 (by simp)).next k2 (by simp)).next k3 (by simp)) (by simp)
  obtain ⟨ac, rfl, hcs3⟩ := oC
  simp [c5, d5, b7, d7, hL1, hT1, hL2, hT2, e1, e3, builtinV, pureB, lenV]
  by_cases hc0 : cs.length = 0
  · have he := hnone hc0
    have hc1 : cs = [] := by simpa using hc0
    simp [hc0, hc1, c5, d5, c3, d3, hL1, hT1, hL, hT, e2, he]
    refine hQ _ _ _ (by simp) ?_
    simp [Tryz.f7]
  obtain ⟨hok, hdn⟩ := hsome hc0
  obtain ⟨v, hv0, hv1, e4⟩ := atL hs3 hr hn
  obtain ⟨aq, rfl, hsq⟩ := oQ
  have hc1 : ¬ cs = [] := by simpa using hc0
  obtain ⟨id, r, bl, rfl, hbl, hbe, -⟩ := hsq 0 _ (by rw [List.getElem?_map, List.getElem?_eq_getElem (List.length_pos_iff.2 hdn)]; rfl)
  have nid := blkAt_len hbl
  have w1 : IntKind.i64.wrap ((ds.length : Int) + 1) = (ds.length : Int) + 1 := wrap64 (by omega) (by omega)
  have hne : (ds.length : Int) + 1 ≠ 0 := by omega
  obtain ⟨k, hk⟩ : ∃ k : Nat, v.tmod ((ds.length : Int) + 1) = (k : Int) := ⟨(v.tmod ((ds.length : Int) + 1)).toNat, by have := Int.tmod_nonneg ((ds.length : Int) + 1) hv0; omega⟩
  have hkl : k ≤ ds.length := by have := Int.tmod_lt_of_pos v (show (0 : Int) < (ds.length : Int) + 1 by omega); omega
  have hkI : (k : Int) ≤ ds.length := by omega
  obtain ⟨hp1, hp2⟩ := hsplit hok k
  have R1 : RdDeedS X3 (.sl (some (id, r)) k) (ds.take k) := ⟨some (id, r), by simp; omega, by rw [List.map_take]; exact sl_take hsq k⟩
  have R2 : RdDeedS X3 (.sl (some (id, r + k)) (ds.length - k)) (ds.drop k) := ⟨some (id, r + k), by simp, by rw [List.map_drop]; exact sl_drop hsq k⟩
  have hBs : ((doAll x (ds.take k)).1).sz ≤ 1048576 := doAll_sz0 (by omega) (by simp; omega)
  have hCs : ((doAll (doAll x (ds.take k)).1 (ds.drop k)).1).sz ≤ 1048576 := doAll_sz0 hBs (by simp; omega)
  simp [hc1, e4, hk, hne, w1, c3, d3, hL, hT, builtinV, pureB, lenV, sliceV, elemIs, bnd, hbl, nid, hbe, hkl, hkI]
  refine stpL_runs_f (implDoAll_is oX (by omega) R1 (by simp; omega)) (by rintro _ _ ⟨_, _, _, _, _, _, _, _, hf⟩; exact hf.1) ?_
  obtain ⟨M, hM⟩ : ∃ M, M = doAll x (ds.take k) := ⟨_, rfl⟩
  rw [← hM] at hp1 hp2 hBs hCs ⊢
  rintro _ _ ⟨l3, f3, q3, g3, rfl, oe, oi, -, ⟨⟨G3, rfl⟩, -⟩⟩
  have hL3 := oe.len
  have hT3 : l3.take l3.length = l3 := List.take_length
  rw [hL3] at hT3
  obtain ⟨a3, rfl, oi⟩ := oi
  have hbla := fun G => blkAt_app hbl G
  simp [hL3, hT3, hk, w1, sliceV, elemIs, bnd, hbla, nid, hbe, hkl, hkI]
  obtain ⟨X4, hX4⟩ : ∃ X4 : Heap, X4 = X3 ++ (G3 ++ [some ⟨32, .wr, [l3]⟩]) := ⟨_, rfl⟩
  have k4 : Keep [] X3 X4 := by rw [hX4]; exact Keep.app _ _ _
  have oe4 := (oe.app [some ⟨32, .wr, [l3]⟩]).rd
  rw [List.append_assoc, ← hX4] at oe4
  rw [← hX4]
  have R24 := R2.base k4
  refine stpL_runs_f (implDoAll_is oe4 hBs R24 (by simp; omega)) (by rintro _ _ ⟨_, _, _, _, _, _, _, _, hf⟩; exact hf.1) ?_
  obtain ⟨N, hN⟩ : ∃ N, N = doAll M.1 (ds.drop k) := ⟨_, rfl⟩
  rw [← hN] at hp1 hp2 hCs ⊢
  rintro _ _ ⟨l4, f4, q4, g4, rfl, of, oj, -, ⟨⟨G4, rfl⟩, -⟩⟩
  have hL4 := of.len
  have hT4 : l4.take l4.length = l4 := List.take_length
  rw [hL4] at hT4
  obtain ⟨a4, rfl, oj⟩ := oj
  simp [hL4, hT4]
  obtain ⟨X5, hX5⟩ : ∃ X5 : Heap, X5 = X4 ++ (G4 ++ [some ⟨32, .wr, [l4]⟩]) := ⟨_, rfl⟩
  have b12 : blkAt X5 (X4.length + G4.length) = some ⟨32, .wr, [l4]⟩ := by rw [hX5]; simp
  have k5 : Keep [] X4 X5 := by rw [hX5]; exact Keep.app _ _ _
  have of5 := (of.app [some ⟨32, .wr, [l4]⟩]).rd
  rw [List.append_assoc, ← hX5] at of5
  rw [← hX5]
  have c55 := (k4.next k5 (by simp)).blk c5 (by simp)
  have oA5 := oA.base (k4.next k5 (by simp))
  have d12 := blkAt_len b12
  have d55 := blkAt_len c55
  have e5 := sameBoxL of5 oA5 hCs
  have w3 : IntKind.i64.wrap ((M.2.length : Int) + N.2.length) = (cs.length : Int) := by rw [wrap64 (by omega) (by omega)]; omega
  simp [b12, d12, c55, d55, hL1, hT1, hL4, hT4, e5, hp1, w3, builtinV, pureB, lenV]
  refine hQ _ _ _ (by simp) ?_
  simp [Tryz.f7]
end W
end Go.Proofs.YtfhaanknijlamaaGreat
