/- The functions that this law reaches: what each computes. Conditions: those that each theorem names. -/
import Derived.Test.YtjbjpdifgfnaeaaWalkIsTree
set_option maxRecDepth 100000
set_option maxHeartbeats 4000000
set_option linter.unusedSimpArgs false
set_option linter.unusedVariables false
set_option linter.unnecessarySimpa false
namespace Go.Proofs.Ytjbjpdifgfnaeaa
open Go Go.Ab Go.ChangeShapes Go.WideShapes Go.ChangeAt Go.RowKit
namespace W
theorem wantPass {H : Heap} {id : Nat} {l : List Lf} {n : Net} (hb : blkAt H id = some ⟨31, .wr, [l]⟩) (h : RdNet H l n) (hp : n.P) (G : Heap) (k : Nat) (hk : k < n.links.length) :
    callV (run env) (H ++ G) (.w (.lf (.fn 55 [(id, 0, 0)] []))) [.int k] = some (.bool (wantS n false (-1) k), H ++ G) := by
  have e2 := passesM (H := H ++ G) (id := id) (l := l) (n := n) (blkAt_app hb G) (h.app _) hp k hk
  have : wantS n false (-1) k = passesAt n k := by
    have h1 : ¬ ((k : Int) = -1) := by omega
    have h2 : (k : Int) < (n.links.length : Int) := by omega
    simp [wantS, passes, (Net.ok_iff n).2 hp, h1, h2]
  rw [this]
  simpa [callV] using e2

theorem implSpans_is {H : Heap} {l : List Lf} {n : Net} (h : RdNet H l n) (hn : n.sz ≤ 1048576) : run env 14 [.agg l] H = some (.bool (spans n), H) := by
  have hR := h
  obtain ⟨_, q1, rfl, ⟨a0, rws, rfl, hs, hlen, hat⟩, ⟨c, rfl, hc1⟩⟩ := h
  have hl0 := BridgeS.sz_len n.bridges
  have hl : n.bridges.length ≤ 1048576 := by unfold Net.sz at hn; omega
  have e1 := fun G => implNetOk_is (hR.app G) hn
  simp only [Net.enc] at e1
  refine run_walk ok14 Try.func14 rfl (by simp [Try.f14]) fun Q hQ => ?_
  simp only [Try.f14, strip, stripL, stripI, stripG, chkT, tagsB, tagsL, tagD, addT, tagA, lookN, tagOp, elmT, ty22, ty23, ty28, ty29, ty37, ty38, ty39, ty40, ty41, ty50, ty51, ty52, ty53, ty72, ty81, ty141, ty189, Nat.reduceEqDiff, if_false, reduceIte, Option.getD_some, Option.getD_none, dstAt, dstOk, Nat.reduceLT, decide_true, if_true]
  have fin : ∀ tm H' b, (∃ G, H' = H ++ G) → tm 2 = .bool b → spans n = b → Q .ret tm H' := by
    rintro tm _ b ⟨G, rfl⟩ h6 hx
    refine hQ _ _ _ (by simp) ?_
    simp [Try.f14, h6, hx]
  simp [Net.enc, e1]
  refine selS_intro (fun hd => ?_) (fun hd => ?_)
  · simp at hd
    simp
    refine fin _ _ false ⟨_, rfl⟩ (by simp) (by simp [spans, hd])
  simp at hd
  have hp := (Net.ok_iff n).1 hd
  simp [builtinV, pureB, lenV]
  refine wpS_loop (fun j tm H' => ∃ i G, i + j = n.bridges.length ∧ tm 1 = .ptr H.length 0 0 ∧ tm 12 = .int n.bridges.length ∧ tm 13 = .int i ∧ H' = H ++ some ⟨31, .wr, [[.sl a0 n.bridges.length, .sl c n.links.length]]⟩ :: G ∧ ∀ k < i, spanAt n k = true) n.bridges.length (by rw [env_K]; omega) ⟨0, [], by simp, by simp, by simp, by simp, rfl, by simp⟩ ?_
  rintro j tm H' hj ⟨i, G, hij, t1, t12, t13, rfl, hz⟩ Q2 hn2 he2 hr2
  simp [t1, t12, t13]
  refine selS_intro (fun hc => ?_) (fun hc => ?_)
  · simp at hc
    have g4 : IntKind.i64.wrap ((i : Int) + 1) = (i : Int) + 1 := wrap64 (by omega) (by omega)
    have hb1 : ∀ G, blkAt (H ++ some ⟨31, .wr, [[.sl a0 n.bridges.length, .sl c n.links.length]]⟩ :: G) H.length = some ⟨31, .wr, [[.sl a0 n.bridges.length, .sl c n.links.length]]⟩ := by simp
    have hr1 : ∀ G, RdNet (H ++ G) [.sl a0 n.bridges.length, .sl c n.links.length] n := fun G => hR.app G
    simp [t1, t12, t13, funcT, ptrs]
    refine stpL_runs (reachM (hb1 _) (hr1 _) hn hp hc (W := wantS n false (-1)) (wantPass (hb1 _) (hr1 _) hp)) ?_
    rintro _ _ ⟨_, fp, rfl, ⟨b1, rfl, ho1⟩, ⟨⟨G1, rfl⟩, -⟩⟩
    simp [t1, t12, t13]
    refine stpL_runs (reachM (hb1 _) (hr1 _) hn hp hc (W := wantS n true (-1)) (fun G k _ => wantAny _ G k)) ?_
    rintro _ _ ⟨_, fp2, rfl, ⟨b2, rfl, ho2⟩, ⟨⟨G2, rfl⟩, -⟩⟩
    have hs1 := (ho1.app G2).sl
    have hs2 := ho2.sl
    obtain ⟨ms1, hm1⟩ : ∃ ms, ms = connL n (wantS n false (-1)) i := ⟨_, rfl⟩
    obtain ⟨ms2, hm2⟩ : ∃ ms, ms = connL n (wantS n true (-1)) i := ⟨_, rfl⟩
    have l1 : ms1.length = n.bridges.length := by rw [hm1]; exact connL_len _ _ _
    have l2 : ms2.length = n.bridges.length := by rw [hm2]; exact connL_len _ _ _
    have hsp : spanAt n i = decide (ms1 = ms2) := by unfold spanAt; rw [← hm1, ← hm2]
    rw [← hm1] at hs1 ⊢
    rw [← hm2] at hs2 ⊢
    rw [l1, l2]
    simp at hs1 hs2
    clear ho1 ho2 hm1 hm2
    obtain ⟨H1, hH1⟩ : ∃ H1, H1 = G ++ (G1 ++ G2) := ⟨_, rfl⟩
    simp [t1, t12, t13, builtinV, pureB, lenV]
    rw [← hH1] at hs1 hs2 ⊢
    refine wpS_loop (fun j2 tm H' => ∃ i2, i2 + j2 = n.bridges.length ∧ tm 1 = .ptr H.length 0 0 ∧ tm 12 = .int n.bridges.length ∧ tm 13 = .int i ∧ tm 4 = .w (.lf (.sl b1 n.bridges.length)) ∧ tm 5 = .w (.lf (.sl b2 n.bridges.length)) ∧ tm 22 = .int n.bridges.length ∧ tm 23 = .int i2 ∧ H' = H ++ some ⟨31, .wr, [[.sl a0 n.bridges.length, .sl c n.links.length]]⟩ :: H1 ∧ ∀ k < i2, ms1[k]? = ms2[k]?) n.bridges.length (by rw [env_K]; omega) ⟨0, by simp, by simp [t1], by simp [t12], by simp [t13], by simp, by simp, by simp, by simp, rfl, by simp⟩ ?_
    rintro j2 tm H' hj2 ⟨i2, hij2, t1, t12, t13, t4, t5, t22, t23, rfl, hz2⟩ Q3 hn3 he3 hr3
    simp [t22, t23]
    refine selS_intro (fun hc2 => ?_) (fun hc2 => ?_)
    · simp at hc2
      have g5 : IntKind.i64.wrap ((i2 : Int) + 1) = (i2 : Int) + 1 := wrap64 (by omega) (by omega)
      obtain ⟨id1, r1, bl1, rfl, hbl1, hbe1, hrow1⟩ := hs1 i2 [.b (ms1[i2]'(by omega))] (by rw [List.getElem?_map, List.getElem?_eq_getElem (by omega)]; rfl)
      obtain ⟨id2, r2, bl2, rfl, hbl2, hbe2, hrow2⟩ := hs2 i2 [.b (ms2[i2]'(by omega))] (by rw [List.getElem?_map, List.getElem?_eq_getElem (by omega)]; rfl)
      have hi1 := blkAt_len hbl1
      have hi2 := blkAt_len hbl2
      simp at hi1 hi2
      simp [t1, t12, t13, t4, t5, t22, t23, indexAddrV, elemIs, hc2, hbl1, hbe1, hrow1, hbl2, hbe2, hrow2, hi1, hi2]
      refine selS_intro (fun hd2 => ?_) (fun hd2 => ?_)
      · simp at hd2
        simp
        refine hr3 _ _ ?_
        simp
        refine hr2 _ _ ?_
        simp
        refine fin _ _ false ⟨_, rfl⟩ (by simp) ?_
        have hne : spanAt n i = false := by
          rw [hsp]
          simp
          intro hh
          subst hh
          exact hd2 rfl
        simp only [spans, hd, Bool.true_and]
        rw [List.all_eq_false]
        exact ⟨i, by simpa using hc, by rw [hne]; simp⟩
      · simp at hd2
        simp [t1, t12, t13, t4, t5, t22, t23, g5]
        refine hn3 (j2 - 1) _ _ (by omega) ⟨i2 + 1, by omega, by simp [t1], by simp [t12], by simp [t13], by simp [t4], by simp [t5], by simp [t22], by simp, rfl, fun k hk => ?_⟩
        rcases Nat.lt_or_ge k i2 with h | h
        · exact hz2 k h
        · obtain rfl : k = i2 := by omega
          rw [List.getElem?_eq_getElem (by omega), List.getElem?_eq_getElem (by omega), hd2]
    · simp at hc2
      obtain rfl : i2 = n.bridges.length := by omega
      simp [t1, t12, t13, t4, t5, t22, t23]
      refine he3 _ _ _ ?_
      simp [t1, t12, t13, g4]
      refine hn2 (j - 1) _ _ (by omega) ⟨i + 1, H1, by omega, by simp [t1], by simp [t12], by simp, by simp, fun k hk => ?_⟩
      rcases Nat.lt_or_ge k i with h | h
      · exact hz k h
      · obtain rfl : k = i := by omega
        rw [hsp]
        simp
        refine List.ext_getElem? fun m => ?_
        rcases Nat.lt_or_ge m n.bridges.length with hm | hm
        · exact hz2 m hm
        · rw [List.getElem?_eq_none (by omega), List.getElem?_eq_none (by omega)]
  · simp at hc
    obtain rfl : i = n.bridges.length := by omega
    simp [t1, t12, t13]
    refine he2 _ _ _ ?_
    simp
    refine fin _ _ true ⟨_, rfl⟩ (by simp) ?_
    simp only [spans, hd, Bool.true_and, List.all_eq_true, List.mem_range]
    exact hz

theorem idxL_mem (ms : List Bool) (x : Int) : ∀ i, x ∈ idxL ms i ↔ ∃ j : Nat, j < i ∧ x = j ∧ ms[j]? = some true
  | 0 => by simp [idxL]
  | i + 1 => by
    rw [idxL, List.mem_append, idxL_mem ms x i]
    constructor
    · rintro (⟨j, h1, h2, h3⟩ | h)
      · exact ⟨j, by omega, h2, h3⟩
      · split at h
        · rename_i hm
          simp at h
          exact ⟨i, by omega, h, hm⟩
        · simp at h
    · rintro ⟨j, h1, h2, h3⟩
      rcases Nat.lt_or_ge j i with h | h
      · exact .inl ⟨j, h, h2, h3⟩
      · obtain rfl : j = i := by omega
        rw [if_pos h3]
        exact .inr (by simp [h2])
theorem connL_at {n : Net} {W : Nat → Bool} {s j : Nat} (hj : j < n.bridges.length) : (connL n W s)[j]? = some (connB n W s j) := by simp [connL, hj]
theorem reachL_mem {n : Net} {W : Nat → Bool} {s j : Nat} (hj : j < n.bridges.length) : (j : Int) ∈ reachL n s W ↔ connB n W s j = true := by
  unfold reachL
  rw [idxL_mem]
  constructor
  · rintro ⟨k, h1, h2, h3⟩
    obtain rfl : j = k := by omega
    rw [connL_at hj] at h3
    injection h3
  · intro h
    exact ⟨j, hj, rfl, by rw [connL_at hj, h]⟩
noncomputable def ringAt (n : Net) (k : Nat) : Bool := match n.links[k]? with
  | some l => passesAt n k && connB n (wantS n false k) l.a.toNat l.b.toNat
  | none => false
noncomputable def ringless (n : Net) : Bool := n.ok && (List.range n.links.length).all fun k => !ringAt n k
theorem passes_at {n : Net} (hp : n.P) {k : Nat} (hk : k < n.links.length) : passes n k = passesAt n k := by
  have h2 : (k : Int) < (n.links.length : Int) := by omega
  simp [passes, (Net.ok_iff n).2 hp, h2]

theorem l4Has {H : Heap} {a : Option (Nat × Nat)} {xs : List Int} (h : Sl H 3 a (xs.map encI)) (hn : xs.length ≤ 1048576) (x : Int) :
    run env 60 [.w (.lf (.sl a xs.length)), .int x] H = some (.bool (decide (x ∈ xs)), H) := by
  refine run_walk ok60 Try.func60 rfl (by simp [Try.f60]) fun Q hQ => ?_
  simp only [Try.f60, strip, stripL, stripI, stripG, chkT, tagsB, tagsL, tagD, addT, tagA, lookN, tagOp, elmT, ty22, ty23, ty28, ty29, ty37, ty38, ty39, ty40, ty41, ty50, ty51, ty52, ty53, ty72, ty81, ty141, ty189, Nat.reduceEqDiff, if_false, reduceIte, Option.getD_some, Option.getD_none, dstAt, dstOk, Nat.reduceLT, decide_true, if_true]
  simp
  refine wpS_loop (fun j tm H' => ∃ i, i + j = xs.length ∧ tm 0 = .w (.lf (.sl a xs.length)) ∧ tm 1 = .int x ∧ tm 5 = .int i ∧ H' = H ∧ x ∉ xs.take i) xs.length (by rw [env_K]; omega) ⟨0, by simp, by simp, by simp, by simp, rfl, by simp⟩ ?_
  rintro j tm H' hj ⟨i, hij, t0, t1, t5, rfl, hz⟩ Q2 hn2 he2 hr2
  simp [t0, t1, t5, builtinV, pureB, lenV]
  refine selS_intro (fun hc => ?_) (fun hc => ?_)
  · simp at hc
    obtain ⟨id, r, bl, rfl, hbl, hbe, hrow⟩ := h i _ (by simp [hc]; rfl)
    have g4 : IntKind.i64.wrap ((i : Int) + 1) = (i : Int) + 1 := wrap64 (by omega) (by omega)
    simp [t0, t1, t5, indexAddrV, elemIs, hbl, hbe, hc, hrow, encI]
    refine selS_intro (fun hd => ?_) (fun hd => ?_)
    · simp at hd
      simp
      refine hr2 _ _ ?_
      simp
      refine hQ _ _ _ (by simp) ?_
      simp [Try.f60]
      exact hd ▸ List.getElem_mem hc
    · simp at hd
      simp [t0, t1, t5, g4]
      refine hn2 (j - 1) _ _ (by omega) ⟨i + 1, by omega, by simp [t0], by simp [t1], by simp, rfl, ?_⟩
      rw [List.take_add_one, List.getElem?_eq_getElem hc, List.mem_append]
      rintro (hx | hx)
      · exact hz hx
      · simp at hx; exact hd hx.symm
  · simp at hc
    rw [List.take_of_length_le (by omega)] at hz
    simp [t0, t5]
    refine he2 _ _ _ ?_
    simp
    refine hQ _ _ _ (by simp) ?_
    simp [Try.f60, hz]

theorem specRingless_is {H : Heap} {l : List Lf} {n : Net} (h : RdNet H l n) (hn : n.sz ≤ 1048576) : run env 16 [.agg l] H = some (.bool (ringless n), H) := by
  have hR := h
  obtain ⟨_, q1, rfl, ⟨a0, rws, rfl, hs, hlen, hat⟩, ⟨c, rfl, hc1⟩⟩ := h
  have hl0 := BridgeS.sz_len n.bridges
  have hl : n.bridges.length ≤ 1048576 := by unfold Net.sz at hn; omega
  have hl2 : n.links.length ≤ 1048576 := by unfold Net.sz at hn; omega
  have e1 := fun G => specNetOk_is (hR.app G) hn
  simp only [Net.enc] at e1
  refine run_walk ok16 Try.func16 rfl (by simp [Try.f16]) fun Q hQ => ?_
  simp only [Try.f16, strip, stripL, stripI, stripG, chkT, tagsB, tagsL, tagD, addT, tagA, lookN, tagOp, elmT, ty22, ty23, ty28, ty29, ty37, ty38, ty39, ty40, ty41, ty50, ty51, ty52, ty53, ty72, ty81, ty141, ty189, Nat.reduceEqDiff, if_false, reduceIte, Option.getD_some, Option.getD_none, dstAt, dstOk, Nat.reduceLT, decide_true, if_true]
  have fin : ∀ tm H' b, (∃ G, H' = H ++ G) → tm 2 = .bool b → ringless n = b → Q .ret tm H' := by
    rintro tm _ b ⟨G, rfl⟩ h6 hx
    refine hQ _ _ _ (by simp) ?_
    simp [Try.f16, h6, hx]
  simp [Net.enc, e1]
  refine selS_intro (fun hd => ?_) (fun hd => ?_)
  · simp at hd
    simp
    refine fin _ _ false ⟨_, rfl⟩ (by simp) (by simp [ringless, hd])
  simp at hd
  have hp := (Net.ok_iff n).1 hd
  simp
  refine wpS_loop (fun j tm H' => ∃ i G, i + j = n.links.length ∧ tm 1 = .ptr H.length 0 0 ∧ tm 3 = .int i ∧ H' = H ++ some ⟨31, .wr, [[.sl a0 n.bridges.length, .sl c n.links.length]]⟩ :: G ∧ ∀ k < i, ringAt n k = false) n.links.length (by rw [env_K]; omega) ⟨0, [], by simp, by simp, by simp, rfl, by simp⟩ ?_
  rintro j tm H' hj ⟨i, G, hij, t1, t3, rfl, hz⟩ Q2 hn2 he2 hr2
  simp [t1, t3, builtinV, pureB, lenV]
  refine selS_intro (fun hc => ?_) (fun hc => ?_)
  · simp at hc
    have g4 : IntKind.i64.wrap ((i : Int) + 1) = (i : Int) + 1 := wrap64 (by omega) (by omega)
    obtain ⟨id2, r, bl, rfl, hbl, hbe, hrow⟩ := hc1 i _ (by simp [hc]; rfl)
    have hid := blkAt_len hbl
    have hlk : n.links[i]? = some n.links[i] := List.getElem?_eq_getElem hc
    obtain ⟨L, hL⟩ : ∃ L, L = n.links[i] := ⟨_, rfl⟩
    rw [← hL] at hlk
    obtain ⟨la0, la1, lb0, lb1⟩ := link_in hp hlk
    have e2 := fun G => specPasses_is (hR.app G) hn (i : Int) ⟨by omega, by omega⟩
    simp only [Net.enc, passes_at hp hc] at e2
    have next : ∀ tm' G', tm' 1 = .ptr H.length 0 0 → tm' 3 = .int ((i : Int) + 1) → ringAt n i = false → Q2 .normal tm' (H ++ some ⟨31, .wr, [[.sl a0 n.bridges.length, .sl (some (id2, r)) n.links.length]]⟩ :: G') := by
      intro tm' G' a1 a3 hx
      refine hn2 (j - 1) _ _ (by omega) ⟨i + 1, G', by omega, a1, by simpa using a3, rfl, fun k hk => ?_⟩
      rcases Nat.lt_or_ge k i with h | h
      · exact hz k h
      · obtain rfl : k = i := by omega
        exact hx
    cases hpz : passesAt n i
    · rw [hpz] at e2
      simp [t1, t3, e2, g4]
      refine next _ _ (by simp [t1]) (by simp) (by simp [ringAt, hlk, hpz])
    · rw [hpz] at e2
      simp [t1, t3, e2, indexAddrV, elemIs, hid, hbl, hbe, hc, hrow, ← hL, Link.enc]
      have hla : ((L.a.toNat : Nat) : Int) = L.a := by omega
      have hrr := l11ReachM (hR.app (some ⟨31, .wr, [[.sl a0 n.bridges.length, .sl (some (id2, r)) n.links.length]]⟩ :: G)) hn hp la1 false (i : Int)
      rw [hla] at hrr
      refine stpL_runs_f hrr (by rintro _ _ ⟨_, _, _, _, hf⟩; exact hf.1) ?_
      rintro _ _ ⟨_, fp, rfl, ⟨b1, rfl, ho⟩, ⟨⟨G1, rfl⟩, -⟩⟩
      have hrl := reachL_len n L.a.toNat (wantS n false (i : Int))
      have e3 := l4Has ho.sl (by omega) L.b
      simp only [List.append_assoc, List.cons_append] at e3
      simp [t1, t3, indexAddrV, elemIs, hid, hbl, hbe, hc, hrow, ← hL, Link.enc, e3]
      have hring : ringAt n i = decide (L.b ∈ reachL n L.a.toNat (wantS n false (i : Int))) := by
        have hlb : ((L.b.toNat : Nat) : Int) = L.b := by omega
        have := reachL_mem (n := n) (W := wantS n false (i : Int)) (s := L.a.toNat) lb1
        rw [hlb] at this
        rw [ringAt, hlk]
        simp only [hpz, Bool.true_and]
        rw [Bool.eq_iff_iff, decide_eq_true_iff, this]
      refine selS_intro (fun hd2 => ?_) (fun hd2 => ?_)
      · simp
        refine hr2 _ _ ?_
        simp
        refine fin _ _ false ⟨_, rfl⟩ (by simp) ?_
        simp only [ringless, hd, Bool.true_and]
        rw [List.all_eq_false]
        exact ⟨i, by simpa using hc, by rw [hring, hd2]; simp⟩
      · simp [t1, t3, g4]
        refine next _ _ (by simp [t1]) (by simp) (by rw [hring, hd2])
  · simp at hc
    obtain rfl : i = n.links.length := by omega
    simp [t1, t3]
    refine he2 _ _ _ ?_
    simp
    refine fin _ _ true ⟨_, rfl⟩ (by simp) ?_
    simp only [ringless, hd, Bool.true_and, List.all_eq_true, List.mem_range]
    exact fun k hk => by rw [hz k hk]; rfl

theorem ringless1 {H : Heap} {id id3 : Nat} {l : List Lf} {n : Net} {i : Int} (hb : blkAt H id = some ⟨31, .wr, [l]⟩) (hb3 : blkAt H id3 = some ⟨3, .wr, [[.i .i64 i]]⟩) (h : RdNet H l n) (hp : n.P) (k : Nat) (hk : k < n.links.length) :
    run env 61 [.int k, .ptr id3 0 0, .ptr id 0 0] H = some (.bool (wantS n false i k), H) := by
  have e2 := passesM hb h hp k hk
  have hw : wantS n false i k = (!decide ((k : Int) = i) && passesAt n k) := by simp [wantS, passes_at hp hk]
  rw [hw]
  refine run_walk ok61 Try.func61 rfl (by simp [Try.f61]) fun Q hQ => ?_
  simp only [Try.f61, strip, stripL, stripI, stripG, chkT, tagsB, tagsL, tagD, addT, tagA, lookN, tagOp, elmT, ty22, ty23, ty28, ty29, ty37, ty38, ty39, ty40, ty41, ty50, ty51, ty52, ty53, ty72, ty81, ty141, ty189, Nat.reduceEqDiff, if_false, reduceIte, Option.getD_some, Option.getD_none, dstAt, dstOk, Nat.reduceLT, decide_true, if_true]
  simp [hb3]
  by_cases hki : (k : Int) = i
  · simp [hki]
    refine hQ _ _ _ (by simp) ?_
    simp [Try.f61, hki]
  · simp [hki, e2]
    refine hQ _ _ _ (by simp) ?_
    simp [Try.f61, hki]

theorem implRingless_is {H : Heap} {l : List Lf} {n : Net} (h : RdNet H l n) (hn : n.sz ≤ 1048576) : run env 17 [.agg l] H = some (.bool (ringless n), H) := by
  have hR := h
  obtain ⟨_, q1, rfl, ⟨a0, rws, rfl, hs, hlen, hat⟩, ⟨c, rfl, hc1⟩⟩ := h
  have hl0 := BridgeS.sz_len n.bridges
  have hl : n.bridges.length ≤ 1048576 := by unfold Net.sz at hn; omega
  have hl2 : n.links.length ≤ 1048576 := by unfold Net.sz at hn; omega
  have e1 := fun G => implNetOk_is (hR.app G) hn
  simp only [Net.enc] at e1
  refine run_walk ok17 Try.func17 rfl (by simp [Try.f17]) fun Q hQ => ?_
  simp only [Try.f17, strip, stripL, stripI, stripG, chkT, tagsB, tagsL, tagD, addT, tagA, lookN, tagOp, elmT, ty22, ty23, ty28, ty29, ty37, ty38, ty39, ty40, ty41, ty50, ty51, ty52, ty53, ty72, ty81, ty141, ty189, Nat.reduceEqDiff, if_false, reduceIte, Option.getD_some, Option.getD_none, dstAt, dstOk, Nat.reduceLT, decide_true, if_true]
  have fin : ∀ tm H' b, (∃ G, H' = H ++ G) → tm 2 = .bool b → ringless n = b → Q .ret tm H' := by
    rintro tm _ b ⟨G, rfl⟩ h6 hx
    refine hQ _ _ _ (by simp) ?_
    simp [Try.f17, h6, hx]
  simp [Net.enc, e1]
  refine selS_intro (fun hd => ?_) (fun hd => ?_)
  · simp at hd
    simp
    refine fin _ _ false ⟨_, rfl⟩ (by simp) (by simp [ringless, hd])
  simp at hd
  have hp := (Net.ok_iff n).1 hd
  simp [builtinV, pureB, lenV]
  refine wpS_loop (fun j tm H' => ∃ i G, i + j = n.links.length ∧ tm 1 = .ptr H.length 0 0 ∧ tm 10 = .w (.lf (.sl c n.links.length)) ∧ tm 11 = .int n.links.length ∧ tm 12 = .int i ∧ H' = H ++ some ⟨31, .wr, [[.sl a0 n.bridges.length, .sl c n.links.length]]⟩ :: G ∧ ∀ k < i, ringAt n k = false) n.links.length (by rw [env_K]; omega) ⟨0, [], by simp, by simp, by simp, by simp, by simp, rfl, by simp⟩ ?_
  rintro j tm H' hj ⟨i, G, hij, t1, t10, t11, t12, rfl, hz⟩ Q2 hn2 he2 hr2
  simp [t1, t10, t11, t12]
  refine selS_intro (fun hc => ?_) (fun hc => ?_)
  · simp at hc
    have g4 : IntKind.i64.wrap ((i : Int) + 1) = (i : Int) + 1 := wrap64 (by omega) (by omega)
    obtain ⟨id2, r, bl, rfl, hbl, hbe, hrow⟩ := hc1 i _ (by simp [hc]; rfl)
    have hid := blkAt_len hbl
    have hlk : n.links[i]? = some n.links[i] := List.getElem?_eq_getElem hc
    obtain ⟨L, hL⟩ : ∃ L, L = n.links[i] := ⟨_, rfl⟩
    rw [← hL] at hlk
    obtain ⟨la0, la1, lb0, lb1⟩ := link_in hp hlk
    have hb1 : ∀ G, blkAt (H ++ some ⟨31, .wr, [[.sl a0 n.bridges.length, .sl (some (id2, r)) n.links.length]]⟩ :: G) H.length = some ⟨31, .wr, [[.sl a0 n.bridges.length, .sl (some (id2, r)) n.links.length]]⟩ := by simp
    have hr1 : ∀ G, RdNet (H ++ G) [.sl a0 n.bridges.length, .sl (some (id2, r)) n.links.length] n := fun G => hR.app G
    have e2 := fun G => passesM (hb1 G) (hr1 _) hp i hc
    have next : ∀ tm' G', tm' 1 = .ptr H.length 0 0 → tm' 10 = .w (.lf (.sl (some (id2, r)) n.links.length)) → tm' 11 = .int n.links.length → tm' 12 = .int ((i : Int) + 1) → ringAt n i = false → Q2 .normal tm' (H ++ some ⟨31, .wr, [[.sl a0 n.bridges.length, .sl (some (id2, r)) n.links.length]]⟩ :: G') := by
      intro tm' G' a1 a10 a11 a12 hx
      refine hn2 (j - 1) _ _ (by omega) ⟨i + 1, G', by omega, a1, a10, a11, by simpa using a12, rfl, fun k hk => ?_⟩
      rcases Nat.lt_or_ge k i with h | h
      · exact hz k h
      · obtain rfl : k = i := by omega
        exact hx
    cases hpz : passesAt n i
    · rw [hpz] at e2
      simp [t1, t10, t11, t12, e2, indexAddrV, elemIs, hid, hbl, hbe, hc, hrow, ← hL, Link.enc, g4, funcT, ptrs]
      refine next _ _ (by simp [t1]) (by simp [t10]) (by simp [t11]) (by simp) (by simp [ringAt, hlk, hpz])
    · rw [hpz] at e2
      simp [t1, t10, t11, t12, e2, indexAddrV, elemIs, hid, hbl, hbe, hc, hrow, ← hL, Link.enc, g4, funcT, ptrs]
      have hla : ((L.a.toNat : Nat) : Int) = L.a := by omega
      obtain ⟨H1, hH1⟩ : ∃ H1, H1 = H ++ some ⟨31, .wr, [[.sl a0 n.bridges.length, .sl (some (id2, r)) n.links.length]]⟩ :: (G ++ [some ⟨3, .wr, [[.i .i64 i]]⟩, some ⟨92, .wr, [[.i .i64 L.a, .i .i64 L.p, .i .i64 L.b, .i .i64 L.q]]⟩]) := ⟨_, rfl⟩
      have hbN : blkAt H1 H.length = some ⟨31, .wr, [[.sl a0 n.bridges.length, .sl (some (id2, r)) n.links.length]]⟩ := by rw [hH1]; exact hb1 _
      have hbI : blkAt H1 (H.length + (G.length + 1)) = some ⟨3, .wr, [[.i .i64 i]]⟩ := by rw [hH1]; simp
      have hrN : RdNet H1 [.sl a0 n.bridges.length, .sl (some (id2, r)) n.links.length] n := by rw [hH1]; exact hr1 _
      have hrr := reachM hbN hrN hn hp la1 (W := wantS n false (i : Int)) (fv := 61) (f1 := []) (f2 := [(H.length + (G.length + 1), 0, 0), (H.length, 0, 0)]) (fun G' k hk => by
        have := ringless1 (blkAt_app hbN G') (blkAt_app hbI G') (hrN.app G') hp k hk
        simpa [callV] using this)
      rw [hla] at hrr
      rw [hH1] at hrr
      refine stpL_runs_f hrr (by rintro _ _ ⟨_, _, _, _, hf⟩; exact hf.1) ?_
      rintro _ _ ⟨_, fp, rfl, ⟨b1, rfl, ho⟩, ⟨⟨G1, rfl⟩, -⟩⟩
      have hcl := connL_len n (wantS n false (i : Int)) L.a.toNat
      obtain ⟨id5, r5, bl5, rfl, hbl5, hbe5, hrow5⟩ := ho.sl L.b.toNat [.b (connB n (wantS n false (i : Int)) L.a.toNat L.b.toNat)] (by rw [List.getElem?_map, connL_at lb1]; rfl)
      simp only [List.append_assoc, List.cons_append] at hbl5
      have hlb2 : L.b < (n.bridges.length : Int) := by omega
      simp only [hcl]
      simp [t1, t10, t11, t12, indexAddrV, elemIs, lb0, hlb2]
      simp at hbl5
      simp [hbl5, hbe5, hrow5]
      have hring : ringAt n i = connB n (wantS n false (i : Int)) L.a.toNat L.b.toNat := by
        rw [ringAt, hlk]
        simp only [hpz, Bool.true_and]
      refine selS_intro (fun hd2 => ?_) (fun hd2 => ?_)
      · simp
        refine hr2 _ _ ?_
        simp
        refine fin _ _ false ⟨_, rfl⟩ (by simp) ?_
        simp only [ringless, hd, Bool.true_and]
        rw [List.all_eq_false]
        exact ⟨i, by simpa using hc, by rw [hring, hd2]; simp⟩
      · simp [t1, t10, t11, t12, g4]
        refine next _ _ (by simp [t1]) (by simp [t10]) (by simp [t11]) (by simp) (by rw [hring, hd2])
  · simp at hc
    obtain rfl : i = n.links.length := by omega
    simp [t1, t10, t11, t12]
    refine he2 _ _ _ ?_
    simp
    refine fin _ _ true ⟨_, rfl⟩ (by simp) ?_
    simp only [ringless, hd, Bool.true_and, List.all_eq_true, List.mem_range]
    exact fun k hk => by rw [hz k hk]; rfl

def idAt (n : Net) (j : Nat) : Int := match n.bridges[j]? with
  | some b => b.id
  | none => 0
noncomputable def rootOk (n : Net) (r : Int) : Bool := (reachL n r.toNat (wantS n true (-1))).all fun x => !decide (idAt n x.toNat < idAt n r.toNat)
noncomputable def isTree (n : Net) : Bool := ringless n && spans n && (roots n).all (rootOk n)
theorem rootsUpto_in (n : Net) : ∀ i x, x ∈ rootsUpto n i → ∃ j : Nat, j < n.bridges.length ∧ x = j
  | 0, x, h => by simp [rootsUpto] at h
  | i + 1, x, h => by
    rw [rootsUpto, List.mem_append] at h
    rcases h with h | h
    · exact rootsUpto_in n i x h
    · split at h
      · rename_i b hb
        split at h
        · simp at h
        · simp at h
          exact ⟨i, (List.getElem?_eq_some_iff.1 hb).1, h⟩
      · simp at h
theorem reachL_in {n : Net} {s : Nat} {W : Nat → Bool} {x : Int} (h : x ∈ reachL n s W) : ∃ j : Nat, j < n.bridges.length ∧ x = j := by
  obtain ⟨j, h1, h2, -⟩ := (idxL_mem _ _ _).1 h
  exact ⟨j, h1, h2⟩
theorem bridgeAt {H : Heap} {rws : List (List Lf)} {xs : List Bridge} {a : Option (Nat × Nat)} (hlen : rws.length = xs.length) (hs : Sl H 74 a rws) (hat : ∀ (i : Nat) (row : List Lf) (x : Bridge), rws[i]? = some row → xs[i]? = some x → RdBridge H row x) {i : Nat} (hi : i < xs.length) :
    ∃ (id r : Nat) (bl : Blk) (q : Option (Nat × Nat)), a = some (id, r) ∧ id < H.length ∧ blkAt H id = some bl ∧ bl.elem = 74 ∧ bl.rows[r + i]? = some (xs[i].enc q) ∧ Sl H 148 q (xs[i].ports.map Port.enc) := by
  have hri : i < rws.length := by omega
  obtain ⟨id, r, bl, rfl, hbl, hbe, hrow⟩ := hs i _ (List.getElem?_eq_getElem hri)
  obtain ⟨q, hrw, hq⟩ := hat i _ _ (List.getElem?_eq_getElem hri) (List.getElem?_eq_getElem hi)
  exact ⟨id, r, bl, q, rfl, blkAt_len hbl, hbl, hbe, by rw [hrow, hrw], hq⟩

theorem specIsTree_is {H : Heap} {l : List Lf} {n : Net} (h : RdNet H l n) (hn : n.sz ≤ 1048576) : run env 18 [.agg l] H = some (.bool (isTree n), H) := by
  have hR := h
  obtain ⟨_, q1, rfl, ⟨a0, rws, rfl, hs, hlen, hat⟩, ⟨c, rfl, hc1⟩⟩ := h
  have hl0 := BridgeS.sz_len n.bridges
  have hl : n.bridges.length ≤ 1048576 := by unfold Net.sz at hn; omega
  have e1 := fun G => specRingless_is (hR.app G) hn
  have e2 := fun G => specSpans_is (hR.app G) hn
  simp only [Net.enc] at e1 e2
  refine run_walk ok18 Try.func18 rfl (by simp [Try.f18]) fun Q hQ => ?_
  simp only [Try.f18, strip, stripL, stripI, stripG, chkT, tagsB, tagsL, tagD, addT, tagA, lookN, tagOp, elmT, ty22, ty23, ty28, ty29, ty37, ty38, ty39, ty40, ty41, ty50, ty51, ty52, ty53, ty72, ty81, ty141, ty189, Nat.reduceEqDiff, if_false, reduceIte, Option.getD_some, Option.getD_none, dstAt, dstOk, Nat.reduceLT, decide_true, if_true]
  have fin : ∀ tm H' b, (∃ G, H' = H ++ G) → tm 2 = .bool b → isTree n = b → Q .ret tm H' := by
    rintro tm _ b ⟨G, rfl⟩ h6 hx
    refine hQ _ _ _ (by simp) ?_
    simp [Try.f18, h6, hx]
  simp [Net.enc, e1]
  cases hrg : ringless n
  · rw [hrg] at e1
    simp
    refine fin _ _ false ⟨_, rfl⟩ (by simp) (by simp [isTree, hrg])
  simp [e2]
  cases hsp : spans n
  · simp
    refine fin _ _ false ⟨_, rfl⟩ (by simp) (by simp [isTree, hsp])
  have hd : n.ok = true := by
    unfold ringless at hrg
    rw [Bool.and_eq_true] at hrg
    exact hrg.1
  have hp := (Net.ok_iff n).1 hd
  simp
  refine stpL_runs (specRoots_is (hR.app _) hn) ?_
  rintro _ _ ⟨_, fp, rfl, ⟨b1, rfl, ho⟩, ⟨⟨G0, rfl⟩, -⟩⟩
  have hso := ho.sl
  simp only [List.append_assoc, List.cons_append, List.nil_append] at hso
  obtain ⟨rs, hrs⟩ : ∃ rs, rs = roots n := ⟨_, rfl⟩
  rw [← hrs] at hso ⊢
  have hin : ∀ x ∈ rs, ∃ j : Nat, j < n.bridges.length ∧ x = j := fun x hx => rootsUpto_in n _ x (by rw [hrs] at hx; exact hx)
  have hrl : rs.length ≤ 1048576 := by rw [hrs]; exact roots_sz0 hn
  have hfin : (∀ x ∈ rs, rootOk n x = true) → isTree n = true := fun hx => by
    unfold isTree
    rw [hrg, hsp, ← hrs, List.all_eq_true.2 hx]; rfl
  have hfin2 : ∀ x ∈ rs, rootOk n x = false → isTree n = false := fun x hx hx2 => by
    unfold isTree
    have : rs.all (rootOk n) = false := List.all_eq_false.2 ⟨x, hx, by rw [hx2]; simp⟩
    rw [← hrs, this, Bool.and_false]
  clear ho hrs
  simp
  refine wpS_loop (fun j tm H' => ∃ i G, i + j = rs.length ∧ tm 1 = .ptr H.length 0 0 ∧ tm 3 = .w (.lf (.sl b1 rs.length)) ∧ tm 4 = .int i ∧ H' = H ++ some ⟨31, .wr, [[.sl a0 n.bridges.length, .sl c n.links.length]]⟩ :: (G0 ++ G) ∧ ∀ x ∈ rs.take i, rootOk n x = true) rs.length (by rw [env_K]; omega) ⟨0, [], by simp, by simp, by simp, by simp, by simp, by simp⟩ ?_
  rintro j tm H' hj ⟨i, G, hij, t1, t3, t4, rfl, hz⟩ Q2 hn2 he2 hr2
  simp [t1, t3, t4, builtinV, pureB, lenV]
  refine selS_intro (fun hc => ?_) (fun hc => ?_)
  · simp at hc
    have g4 : IntKind.i64.wrap ((i : Int) + 1) = (i : Int) + 1 := wrap64 (by omega) (by omega)
    obtain ⟨id2, r, bl, rfl, hbl0, hbe, hrow⟩ := hso i _ (by simp [hc]; rfl)
    have hbl := fun G' => blkAt_app hbl0 G'
    simp only [List.append_assoc, List.cons_append, List.nil_append] at hbl
    obtain ⟨R, hRj, hRR⟩ := hin _ (List.getElem_mem hc)
    have hRb : n.bridges[R]? = some n.bridges[R] := List.getElem?_eq_getElem hRj
    obtain ⟨idb, rb, blb, qb, rfl, hidb, hblb, hbeb, hrowb, -⟩ := bridgeAt hlen hs hat hRj
    simp [t1, t3, t4, indexAddrV, elemIs, hbl, hbe, hc, hrow, encI, hRR]
    refine stpL_runs_f (l11ReachM (hR.app _) hn hp hRj true (-1)) (by rintro _ _ ⟨_, _, _, _, hf⟩; exact hf.1) ?_
    rintro _ _ ⟨_, fp2, rfl, ⟨b2, rfl, ho2⟩, ⟨⟨G1, rfl⟩, -⟩⟩
    have hso2 := ho2.sl
    simp only [List.append_assoc, List.cons_append, List.nil_append] at hso2
    obtain ⟨ls, hls⟩ : ∃ ls, ls = reachL n R (wantS n true (-1)) := ⟨_, rfl⟩
    rw [← hls] at hso2 ⊢
    have hin2 : ∀ x ∈ ls, ∃ j : Nat, j < n.bridges.length ∧ x = j := fun x hx => reachL_in (by rw [hls] at hx; exact hx)
    have hll : ls.length ≤ n.bridges.length := by rw [hls]; exact reachL_len _ _ _
    have hrk : rootOk n rs[i] = ls.all fun x => !decide (idAt n x.toNat < idAt n R) := by
      rw [hRR]
      unfold rootOk
      simp [hls]
    clear ho2 hls
    simp
    refine wpS_loop (fun j2 tm H' => ∃ k, k + j2 = ls.length ∧ tm 1 = .ptr H.length 0 0 ∧ tm 3 = .w (.lf (.sl (some (id2, r)) rs.length)) ∧ tm 4 = .int i ∧ tm 5 = .w (.lf (.sl b2 ls.length)) ∧ tm 6 = .int k ∧ H' = H ++ some ⟨31, .wr, [[.sl (some (idb, rb)) n.bridges.length, .sl c n.links.length]]⟩ :: (G0 ++ (G ++ G1)) ∧ ∀ x ∈ ls.take k, ¬ idAt n x.toNat < idAt n R) ls.length (by rw [env_K]; omega) ⟨0, by simp, by simp [t1], by simp [t3], by simp [t4], by simp, by simp, by simp, by simp⟩ ?_
    rintro j2 tm H' hj2 ⟨k, hkj, t1, t3, t4, t5, t6, rfl, hz2⟩ Q3 hn3 he3 hr3
    simp [t1, t3, t4, t5, t6, builtinV, pureB, lenV]
    refine selS_intro (fun hc2 => ?_) (fun hc2 => ?_)
    · simp at hc2
      have g5 : IntKind.i64.wrap ((k : Int) + 1) = (k : Int) + 1 := wrap64 (by omega) (by omega)
      obtain ⟨id3, r3, bl3, rfl, hbl3, hbe3, hrow3⟩ := hso2 k _ (by simp [hc2]; rfl)
      obtain ⟨J, hJj, hJJ⟩ := hin2 _ (List.getElem_mem hc2)
      obtain ⟨idb', rb', blb', qb', hxx, -, hblb', -, hrowb', -⟩ := bridgeAt hlen hs hat hJj
      cases hxx
      rw [hblb] at hblb'
      injection hblb' with hblb'
      subst hblb'
      have hid1 : idAt n J = n.bridges[J].id := by simp [idAt, hJj]
      have hid2 : idAt n R = n.bridges[R].id := by simp [idAt, hRj]
      simp [t1, t3, t4, t5, t6, indexAddrV, elemIs, hbl, hbe, hc, hrow, encI, hRR, hbl3, hbe3, hc2, hrow3, hJJ, hidb, hblb, hbeb, hRj, hJj, hrowb, hrowb', Bridge.enc]
      refine selS_intro (fun hd2 => ?_) (fun hd2 => ?_)
      · simp at hd2
        simp
        refine hr3 _ _ ?_
        simp
        refine hr2 _ _ ?_
        simp
        refine fin _ _ false ⟨_, rfl⟩ (by simp) (hfin2 _ (List.getElem_mem hc) ?_)
        rw [hrk, List.all_eq_false]
        exact ⟨_, List.getElem_mem hc2, by rw [hJJ]; simp [hid1, hid2, hd2]⟩
      · simp at hd2
        simp [t1, t3, t4, t5, t6, g5]
        refine hn3 (j2 - 1) _ _ (by omega) ⟨k + 1, by omega, by simp [t1], by simp [t3], by simp [t4], by simp [t5], by simp, rfl, fun x hx => ?_⟩
        rw [List.take_add_one, List.getElem?_eq_getElem hc2, List.mem_append] at hx
        rcases hx with hx | hx
        · exact hz2 x hx
        · simp at hx
          rw [hx, hJJ]
          simp [hid1, hid2]
          omega
    · simp at hc2
      rw [List.take_of_length_le (by omega)] at hz2
      simp [t1, t3, t4, t5, t6]
      refine he3 _ _ _ ?_
      simp [t1, t3, t4, g4]
      refine hn2 (j - 1) _ _ (by omega) ⟨i + 1, G ++ G1, by omega, by simp [t1], by simp [t3], by simp, rfl, fun x hx => ?_⟩
      rw [List.take_add_one, List.getElem?_eq_getElem hc, List.mem_append] at hx
      rcases hx with hx | hx
      · exact hz x hx
      · simp at hx
        rw [hx, hrk, List.all_eq_true]
        intro y hy
        simpa using hz2 y hy
  · simp at hc
    rw [List.take_of_length_le (by omega)] at hz
    simp [t1, t3, t4]
    refine he2 _ _ _ ?_
    simp
    exact fin _ _ true ⟨_, rfl⟩ (by simp) (hfin hz)

theorem implIsTree_is {H : Heap} {l : List Lf} {n : Net} (h : RdNet H l n) (hn : n.sz ≤ 1048576) : run env 19 [.agg l] H = some (.bool (isTree n), H) := by
  have hR := h
  obtain ⟨_, q1, rfl, ⟨a0, rws, rfl, hs, hlen, hat⟩, ⟨c, rfl, hc1⟩⟩ := h
  have hl0 := BridgeS.sz_len n.bridges
  have hl : n.bridges.length ≤ 1048576 := by unfold Net.sz at hn; omega
  have e1 := fun G => implRingless_is (hR.app G) hn
  have e2 := fun G => implSpans_is (hR.app G) hn
  simp only [Net.enc] at e1 e2
  refine run_walk ok19 Try.func19 rfl (by simp [Try.f19]) fun Q hQ => ?_
  simp only [Try.f19, strip, stripL, stripI, stripG, chkT, tagsB, tagsL, tagD, addT, tagA, lookN, tagOp, elmT, ty22, ty23, ty28, ty29, ty37, ty38, ty39, ty40, ty41, ty50, ty51, ty52, ty53, ty72, ty81, ty141, ty189, Nat.reduceEqDiff, if_false, reduceIte, Option.getD_some, Option.getD_none, dstAt, dstOk, Nat.reduceLT, decide_true, if_true]
  have fin : ∀ tm H' b, (∃ G, H' = H ++ G) → tm 2 = .bool b → isTree n = b → Q .ret tm H' := by
    rintro tm _ b ⟨G, rfl⟩ h6 hx
    refine hQ _ _ _ (by simp) ?_
    simp [Try.f19, h6, hx]
  simp [Net.enc, e1]
  cases hrg : ringless n
  · rw [hrg] at e1
    simp
    refine fin _ _ false ⟨_, rfl⟩ (by simp) (by simp [isTree, hrg])
  simp [e2]
  cases hsp : spans n
  · simp
    refine fin _ _ false ⟨_, rfl⟩ (by simp) (by simp [isTree, hsp])
  have hd : n.ok = true := by
    unfold ringless at hrg
    rw [Bool.and_eq_true] at hrg
    exact hrg.1
  have hp := (Net.ok_iff n).1 hd
  simp
  refine stpL_runs (implRoots_is (hR.app _) hn) ?_
  rintro _ _ ⟨_, fp, rfl, ⟨b1, rfl, ho⟩, ⟨⟨G0, rfl⟩, -⟩⟩
  have hso := ho.sl
  simp only [List.append_assoc, List.cons_append, List.nil_append] at hso
  obtain ⟨rs, hrs⟩ : ∃ rs, rs = roots n := ⟨_, rfl⟩
  rw [← hrs] at hso ⊢
  have hin : ∀ x ∈ rs, ∃ j : Nat, j < n.bridges.length ∧ x = j := fun x hx => rootsUpto_in n _ x (by rw [hrs] at hx; exact hx)
  have hrl : rs.length ≤ 1048576 := by rw [hrs]; exact roots_sz0 hn
  have hfin : (∀ x ∈ rs, rootOk n x = true) → isTree n = true := fun hx => by
    unfold isTree
    rw [hrg, hsp, ← hrs, List.all_eq_true.2 hx]; rfl
  have hfin2 : ∀ x ∈ rs, rootOk n x = false → isTree n = false := fun x hx hx2 => by
    unfold isTree
    have : rs.all (rootOk n) = false := List.all_eq_false.2 ⟨x, hx, by rw [hx2]; simp⟩
    rw [← hrs, this, Bool.and_false]
  clear ho hrs
  simp [builtinV, pureB, lenV]
  refine wpS_loop (fun j tm H' => ∃ i G, i + j = rs.length ∧ tm 1 = .ptr H.length 0 0 ∧ tm 16 = .w (.lf (.sl b1 rs.length)) ∧ tm 17 = .int rs.length ∧ tm 18 = .int i ∧ H' = H ++ some ⟨31, .wr, [[.sl a0 n.bridges.length, .sl c n.links.length]]⟩ :: (G0 ++ G) ∧ ∀ x ∈ rs.take i, rootOk n x = true) rs.length (by rw [env_K]; omega) ⟨0, [], by simp, by simp, by simp, by simp, by simp, by simp, by simp⟩ ?_
  rintro j tm H' hj ⟨i, G, hij, t1, t16, t17, t18, rfl, hz⟩ Q2 hn2 he2 hr2
  simp [t1, t16, t17, t18]
  refine selS_intro (fun hc => ?_) (fun hc => ?_)
  · simp at hc
    have g4 : IntKind.i64.wrap ((i : Int) + 1) = (i : Int) + 1 := wrap64 (by omega) (by omega)
    obtain ⟨id2, r, bl, rfl, hbl0, hbe, hrow⟩ := hso i _ (by simp [hc]; rfl)
    have hbl := fun G' => blkAt_app hbl0 G'
    simp only [List.append_assoc, List.cons_append, List.nil_append] at hbl
    obtain ⟨R, hRj, hRR⟩ := hin _ (List.getElem_mem hc)
    obtain ⟨idb, rb, blb, qb, rfl, hidb, hblb, hbeb, hrowb, -⟩ := bridgeAt hlen hs hat hRj
    simp [t1, t16, t17, t18, indexAddrV, elemIs, hbl, hbe, hc, hrow, encI, hRR]
    have hb1 : ∀ G, blkAt (H ++ some ⟨31, .wr, [[.sl (some (idb, rb)) n.bridges.length, .sl c n.links.length]]⟩ :: G) H.length = some ⟨31, .wr, [[.sl (some (idb, rb)) n.bridges.length, .sl c n.links.length]]⟩ := by simp
    have hr1 : ∀ G, RdNet (H ++ G) [.sl (some (idb, rb)) n.bridges.length, .sl c n.links.length] n := fun G => hR.app G
    refine stpL_runs (reachM (hb1 _) (hr1 _) hn hp hRj (W := wantS n true (-1)) (fun G k _ => wantAny _ G k)) ?_
    rintro _ _ ⟨_, fp2, rfl, ⟨b2, rfl, ho2⟩, ⟨⟨G1, rfl⟩, -⟩⟩
    have hso2 := ho2.sl
    simp only [List.append_assoc, List.cons_append, List.nil_append] at hso2
    have hcl := connL_len n (wantS n true (-1)) R
    have hat2 := fun j hj => connL_at (n := n) (W := wantS n true (-1)) (s := R) (j := j) hj
    have hrk : rootOk n rs[i] = true ↔ ∀ j < n.bridges.length, connB n (wantS n true (-1)) R j = true → ¬ idAt n j < idAt n R := by
      rw [hRR]
      unfold rootOk
      rw [List.all_eq_true]
      constructor
      · intro hx j hj hcj
        have := hx (j : Int) ((reachL_mem (by simpa using hj)).2 (by simpa using hcj))
        simpa using this
      · intro hx y hy
        obtain ⟨j, hj, rfl⟩ := reachL_in hy
        have := hx j hj ((reachL_mem hj).1 (by simpa using hy))
        simpa using this
    simp only [hcl]
    simp [builtinV, pureB, lenV]
    refine wpS_loop (fun j2 tm H' => ∃ k, k + j2 = n.bridges.length ∧ tm 1 = .ptr H.length 0 0 ∧ tm 16 = .w (.lf (.sl (some (id2, r)) rs.length)) ∧ tm 17 = .int rs.length ∧ tm 18 = .int i ∧ tm 4 = .int R ∧ tm 23 = .w (.lf (.sl b2 n.bridges.length)) ∧ tm 24 = .int n.bridges.length ∧ tm 25 = .int k ∧ H' = H ++ some ⟨31, .wr, [[.sl (some (idb, rb)) n.bridges.length, .sl c n.links.length]]⟩ :: (G0 ++ (G ++ G1)) ∧ ∀ x < k, connB n (wantS n true (-1)) R x = true → ¬ idAt n x < idAt n R) n.bridges.length (by rw [env_K]; omega) ⟨0, by simp, by simp [t1], by simp [t16], by simp [t17], by simp [t18], by simp, by simp, by simp, by simp, by simp, by simp⟩ ?_
    rintro j2 tm H' hj2 ⟨k, hkj, t1, t16, t17, t18, t4, t23, t24, t25, rfl, hz2⟩ Q3 hn3 he3 hr3
    simp [t23, t24, t25]
    refine selS_intro (fun hc2 => ?_) (fun hc2 => ?_)
    · simp at hc2
      have g5 : IntKind.i64.wrap ((k : Int) + 1) = (k : Int) + 1 := wrap64 (by omega) (by omega)
      obtain ⟨id3, r3, bl3, rfl, hbl3, hbe3, hrow3⟩ := hso2 k [.b (connB n (wantS n true (-1)) R k)] (by rw [List.getElem?_map, hat2 k hc2]; rfl)
      obtain ⟨idb', rb', blb', qb', hxx, -, hblb', -, hrowb', -⟩ := bridgeAt hlen hs hat hc2
      cases hxx
      rw [hblb] at hblb'
      injection hblb' with hblb'
      subst hblb'
      have hid1 : idAt n k = n.bridges[k].id := by simp [idAt, hc2]
      have hid2 : idAt n R = n.bridges[R].id := by simp [idAt, hRj]
      have next : ∀ tm', tm' 1 = .ptr H.length 0 0 → tm' 16 = .w (.lf (.sl (some (id2, r)) rs.length)) → tm' 17 = .int rs.length → tm' 18 = .int i → tm' 4 = .int R → tm' 23 = .w (.lf (.sl (some (id3, r3)) n.bridges.length)) → tm' 24 = .int n.bridges.length → tm' 25 = .int ((k : Int) + 1) →
          (connB n (wantS n true (-1)) R k = true → ¬ idAt n k < idAt n R) → Q3 .normal tm' (H ++ some ⟨31, .wr, [[.sl (some (idb, rb)) n.bridges.length, .sl c n.links.length]]⟩ :: (G0 ++ (G ++ G1))) := by
        intro tm' a1 a16 a17 a18 a4 a23 a24 a25 hx
        refine hn3 (j2 - 1) _ _ (by omega) ⟨k + 1, by omega, a1, a16, a17, a18, a4, a23, a24, by simpa using a25, rfl, fun x hxk => ?_⟩
        rcases Nat.lt_or_ge x k with h | h
        · exact hz2 x h
        · obtain rfl : x = k := by omega
          exact hx
      cases hcb : connB n (wantS n true (-1)) R k
      · rw [hcb] at hrow3
        simp [t1, t16, t17, t18, t4, t23, t24, t25, indexAddrV, elemIs, hbl3, hbe3, hc2, hrow3, g5]
        exact next _ (by simp [t1]) (by simp [t16]) (by simp [t17]) (by simp [t18]) (by simp [t4]) (by simp [t23]) (by simp [t24]) (by simp) (fun hx => by rw [hcb] at hx; cases hx)
      · rw [hcb] at hrow3
        simp [t1, t16, t17, t18, t4, t23, t24, t25, indexAddrV, elemIs, hbl3, hbe3, hc2, hrow3, hidb, hblb, hbeb, hRj, hrowb, hrowb', Bridge.enc]
        refine selS_intro (fun hd2 => ?_) (fun hd2 => ?_)
        · simp at hd2
          simp
          refine hr3 _ _ ?_
          simp
          refine hr2 _ _ ?_
          simp
          refine fin _ _ false ⟨_, rfl⟩ (by simp) (hfin2 _ (List.getElem_mem hc) ?_)
          cases hrk2 : rootOk n rs[i]
          · rfl
          · exact absurd (hrk.1 hrk2 k hc2 hcb) (by simp [hid1, hid2, hd2])
        · simp at hd2
          simp [t1, t16, t17, t18, t4, t23, t24, t25, g5]
          exact next _ (by simp [t1]) (by simp [t16]) (by simp [t17]) (by simp [t18]) (by simp [t4]) (by simp [t23]) (by simp [t24]) (by simp) (fun _ => by simp [hid1, hid2]; omega)
    · simp at hc2
      obtain rfl : k = n.bridges.length := by omega
      simp [t1, t16, t17, t18, t23, t24, t25]
      refine he3 _ _ _ ?_
      simp [t1, t16, t17, t18, g4]
      refine hn2 (j - 1) _ _ (by omega) ⟨i + 1, G ++ G1, by omega, by simp [t1], by simp [t16], by simp [t17], by simp, rfl, fun x hx => ?_⟩
      rw [List.take_add_one, List.getElem?_eq_getElem hc, List.mem_append] at hx
      rcases hx with hx | hx
      · exact hz x hx
      · simp at hx
        rw [hx]
        exact hrk.2 hz2
  · simp at hc
    rw [List.take_of_length_le (by omega)] at hz
    simp [t1, t16, t17, t18]
    refine he2 _ _ _ ?_
    simp
    exact fin _ _ true ⟨_, rfl⟩ (by simp) (hfin hz)
end W
end Go.Proofs.Ytjbjpdifgfnaeaa
