/- The functions that this law reaches: what each computes. Conditions: those that each theorem names. -/
import Derived.Test.YtafakoecgaijoaaGreatWalkDoAll3
set_option maxRecDepth 100000
set_option maxHeartbeats 4000000
set_option linter.unusedSimpArgs false
set_option linter.unusedVariables false
set_option linter.unnecessarySimpa false
namespace Go.Proofs.YtafakoecgaijoaaGreat
open Go Go.Ab Go.ChangeShapes Go.WideShapes Go.ChangeAt Go.RowKit
namespace W
theorem implDoAll_is {H : Heap} {l : List Lf} {x : Box} (h : RdBox H l x) (hn : x.sz ≤ 1048576) {qd : Lf} {list : List Deed} (hd : RdDeedS H qd list) (hln : list.length ≤ 1048576) :
    Runs env 16 [.agg l, .w (.lf qd)] H fun v H' => ∃ l' fp q fp2, v = .tup [.agg l', .lf q] ∧ IsBox H' l' (doAll x list).1 fp ∧ IsIntS H' q (doAll x list).2 fp2 ∧ (∀ i ∈ fp, i ∉ fp2) ∧ Fresh H H' (fp ++ fp2) := by
  have hR := h
  obtain ⟨R, hDR⟩ : ∃ R, R = doAll x list := ⟨_, rfl⟩
  rw [← hDR]
  obtain ⟨ad, rfl, hsd⟩ := hd
  obtain ⟨q0, q1, q2, q3, q4, rfl⟩ : ∃ q0 q1 q2 q3 q4, l = x.enc q0 q1 q2 q3 q4 := by
    obtain ⟨q0, q1, q2, q3, q4, rfl, -⟩ := h
    exact ⟨q0, q1, q2, q3, q4, rfl⟩
  refine Runs.walk ok16 Tryz.func16 rfl (by simp [Tryz.f16]) fun Q hQ => ?_
  simp only [Tryz.f16, strip, stripL, stripI, stripG, chkT, tagsB, tagsL, tagD, addT, tagA, lookN, tagOp, elmT, ty24, ty25, ty26, ty27, ty28, ty39, ty40, ty41, ty42, ty57, ty59, ty62, ty98, Nat.reduceEqDiff, if_false, reduceIte, Option.getD_some, Option.getD_none, dstAt, dstOk, Nat.reduceLT, decide_true, if_true]
  have fin : ∀ (HF : Heap) (tm : Ab.T) (l' : List Lf) (z : Box) (cs : List Int) (q : Lf) (f' f2 : List Nat), tm 4 = .ptr (H.length + 1) 0 0 → blkAt HF (H.length + 1) = some ⟨44, .wr, [l']⟩ → IsBox HF l' z f' → tm 5 = .w (.lf q) → IsIntS HF q cs f2 → R = (z, cs) → Keep [] H HF → (∀ i ∈ f', H.length ≤ i) → (∀ i ∈ f2, H.length ≤ i) → (∀ i ∈ f', i ∉ f2) → Q .ret tm HF := by
    intro HF tm l' z cs q f' f2 t4 hb4 ho4 t5 hq hz hK hf hf2 hdj
    have hL' := ho4.len
    have hT' : l'.take l'.length = l' := List.take_length
    rw [hL'] at hT'
    refine hQ _ _ _ (by simp) ?_
    have hres : resT env.τ tm HF (Tryz.f16.results.toList) = some [W.agg l', W.lf q] := by simp [Tryz.f16, t4, t5, hb4, hL', hT']
    rw [hres, optK_some, hz]
    rcases leave_both H HF [W.agg l', W.lf q] with e | ⟨e, hfr, G, rfl⟩ <;> rw [e]
    · refine ⟨_, f', _, f2, rfl, ho4, hq, hdj, ⟨hK.ext, fun i hi => ?_⟩⟩
      rcases List.mem_append.1 hi with hi | hi
      · exact hf i hi
      · exact hf2 i hi
    · simp at hfr
      exact ⟨_, [], _, [], rfl, ho4.free (by simpa using hfr.1) H, hq.free hfr.2 H, by simp, Fresh.refl H⟩
  simp [Box.enc]
  obtain ⟨X, hX⟩ : ∃ X : Heap, X = H ++ [some ⟨44, .wr, [[.i .i64 x.id, .i .i64 x.ports, .i .i64 x.reg.epoch, .i .i64 x.reg.owner, .i .i64 x.reg.pair, q0, q1, q2, q3, q4]]⟩, some ⟨44, .wr, [[.i .i64 0, .i .i64 0, .i .i64 0, .i .i64 0, .i .i64 0, .sl none 0, .sl none 0, .sl none 0, .sl none 0, .sl none 0]]⟩] := ⟨_, rfl⟩
  have b0 : blkAt X H.length = some ⟨44, .wr, [[.i .i64 x.id, .i .i64 x.ports, .i .i64 x.reg.epoch, .i .i64 x.reg.owner, .i .i64 x.reg.pair, q0, q1, q2, q3, q4]]⟩ := by rw [hX]; simp
  have d0 := blkAt_len b0
  have bz : blkAt X (H.length + 1) = some ⟨44, .wr, [[.i .i64 0, .i .i64 0, .i .i64 0, .i .i64 0, .i .i64 0, .sl none 0, .sl none 0, .sl none 0, .sl none 0, .sl none 0]]⟩ := by rw [hX]; simp
  have dz := blkAt_len bz
  have hlX : H.length + 2 ≤ X.length := by rw [hX]; simp
  
  rw [← hX]
  have kX : Keep [] H X := by rw [hX]; exact Keep.app _ _ _
  have hRX : RdBox X (x.enc q0 q1 q2 q3 q4) x := hR.base kX
  clear hX
  have hcp := copyBox hRX hn
  simp only [Box.enc] at hcp
  
  refine stpL_runs hcp ?_
  rintro _ _ ⟨l1, f1, rfl, o1, ⟨⟨G1, rfl⟩, hf1⟩⟩
  have hL1 := o1.len
  have hT1 : l1.take l1.length = l1 := List.take_length
  rw [hL1] at hT1
  have hlt1 := o1.lt
  have o1' := o1.app [some ⟨44, .wr, [l1]⟩]
  simp only [List.append_assoc] at o1'
  simp [hL1, hT1, builtinV, pureB, lenV]
  obtain ⟨K6, hK6⟩ : ∃ K6, K6 = X.length + G1.length := ⟨_, rfl⟩
  obtain ⟨Y, hY⟩ : ∃ Y : Heap, Y = X ++ (G1 ++ [some ⟨44, .wr, [l1]⟩]) := ⟨_, rfl⟩
  have y6 : blkAt Y K6 = some ⟨44, .wr, [l1]⟩ := by rw [hY, hK6]; simp
  have kXY : Keep [] X Y := by rw [hY]; exact Keep.app _ _ _
  have o6 : IsBox Y l1 x f1 := by rw [hY]; exact o1'
  have hf6 : ∀ i ∈ f1, X.length ≤ i ∧ i ≠ K6 := fun i hi => by have h1 := hf1 i hi; have h2 := hlt1 i hi; simp only [List.length_append] at h2; omega
  have hK6X : X.length ≤ K6 := by omega
  rw [← hY, ← hK6]
  have dK := blkAt_len y6
  have b0Y := kXY.blk b0 (by simp)
  have bzY := kXY.blk bz (by simp)
  have d0Y := blkAt_len b0Y
  have dzY := blkAt_len bzY
  clear hY hK6 o1 o1' hf1 hlt1
  have e1 := implBoxOk_is (hRX.base kXY) (by omega)
  simp only [Box.enc] at e1
  have ending : ∀ (HF : Heap) (tm : Ab.T) (l' : List Lf) (z : Box) (cs : List Int) (q : Lf) (f' f2 : List Nat), tm 4 = .ptr (H.length + 1) 0 0 → tm 5 = .w (.lf q) → IsBox HF l' z f' → IsIntS HF q cs f2 → R = (z, cs) → Keep [] X HF → (∀ i ∈ f', X.length ≤ i) → (∀ i ∈ f2, H.length ≤ i ∧ i ≠ H.length + 1) → (∀ i ∈ f', i ∉ f2) → Q .ret tm (HF.set (H.length + 1) (some ⟨44, .wr, [l']⟩)) := by
    intro HF tm l' z cs q f' f2 t4 t5 ho hq hz hK hf hf2 hdj
    have := hK.1
    exact fin _ tm l' z cs q f' f2 t4 (blkAt_set (by omega)) (ho.keep (Keep.set _ _) (fun i hi hj => by have := hf i hi; simp at hj; omega)) t5 (hq.keep (Keep.set _ _) (fun i hi hj => by have := hf2 i hi; simp at hj; omega)) hz ((kX.next hK (by simp)).next (Keep.set _ _) (by simp)) (fun i hi => by have := hf i hi; omega) (fun i hi => (hf2 i hi).1) hdj
  by_cases hlen : (300 : Int) < list.length
  · have hDx : R = (x, []) := by rw [hDR, doAll, if_pos (.inl (by omega))]
    simp [hlen, y6, dK, hL1, hT1, bzY, dzY]
    exact ending _ _ l1 x [] (.sl none 0) f1 [] (by simp) (by simp) o6 ⟨none, rfl, Own.nil _ _⟩ hDx kXY (fun i hi => (hf6 i hi).1) (by simp) (by simp)
  simp [hlen, b0Y, d0Y, e1]
  cases hok : x.ok
  · have hDx : R = (x, []) := by rw [hDR, doAll, if_pos (.inr hok)]
    simp [y6, dK, hL1, hT1, bzY, dzY]
    exact ending _ _ l1 x [] (.sl none 0) f1 [] (by simp) (by simp) o6 ⟨none, rfl, Own.nil _ _⟩ hDx kXY (fun i hi => (hf6 i hi).1) (by simp) (by simp)
  have hDx : R = foldP x list list.length := by rw [hDR, doAll_yes (by omega) hok]
  simp [builtinV, pureB, lenV]
  refine wpS_loop (fun j tm H' => ∃ (i : Nat) (l : List Lf) (f : List Nat) (q : Lf) (f2 : List Nat), i + j = list.length ∧ tm 4 = .ptr (H.length + 1) 0 0 ∧ tm 6 = .ptr K6 0 0 ∧ tm 7 = .w (.lf q) ∧ tm 23 = .w (.lf (.sl ad list.length)) ∧ tm 24 = .int list.length ∧ tm 25 = .int i ∧ blkAt H' K6 = some ⟨44, .wr, [l]⟩ ∧ IsBox H' l (foldP x list i).1 f ∧ IsIntS H' q (foldP x list i).2 f2 ∧ Keep [] X H' ∧ (∀ k ∈ f, X.length ≤ k ∧ k ≠ K6) ∧ (∀ k ∈ f2, X.length ≤ k ∧ k ≠ K6) ∧ (∀ k ∈ f, k ∉ f2)) list.length (by rw [env_K]; omega)
    ⟨0, l1, f1, .sl none 0, [], by simp, by simp, by simp, by simp, by simp, by simp, by simp, y6, o6, ⟨none, rfl, Own.nil _ _⟩, kXY, hf6, by simp, by simp⟩ ?_
  rintro j tm H1 hj ⟨i, l, f, q, f2, hij, t4, t6, t7, t23, t24, t25, k6, ob, oq, kk, hf, hf2, hdj⟩ Q2 hn2 he2 hr2
  have dk6 := blkAt_len k6
  have hL := ob.len
  have hT : l.take l.length = l := List.take_length
  rw [hL] at hT
  simp [t4, t6, t7, t23, t24, t25]
  refine selS_intro (fun hc => ?_) (fun hc => ?_)
  · simp at hc
    have hstep := foldP_step x list hc
    obtain ⟨d, hdd⟩ : ∃ d, d = list[i] := ⟨_, rfl⟩
    rw [← hdd] at hstep
    have hilen := foldP_len x list i (by omega)
    have hpok := foldP_ok list hok i (by omega)
    obtain ⟨p, hp⟩ : ∃ p, p = foldP x list i := ⟨_, rfl⟩
    rw [← hp] at hstep hilen hpok ob oq
    have hpsz := (Box.smallOf hpok).1.sz
    obtain ⟨id3, r3, bl3, rfl, hb3, hbe3, hrow3⟩ := (hsd.keep (kX.next kk (by simp)) (by simp)) i d.enc (by rw [List.getElem?_map, List.getElem?_eq_getElem hc, hdd]; rfl)
    have hid3 := blkAt_len hb3
    have hcI : (i : Int) < list.length := by omega
    have k6A := fun G => blkAt_app k6 G
    have dk6A : K6 < H1.length + 1 := by omega
    simp only [Deed.enc] at hrow3
    have hdo := fun G => implDo_is (ob.app G).rd (by omega) d
    simp only [Deed.enc] at hdo
    have g4 : IntKind.i64.wrap ((i : Int) + 1) = (i : Int) + 1 := wrap64 (by omega) (by omega)
    simp [t4, t6, t7, t23, t24, t25, indexAddrV, elemIs, hb3, hid3, hbe3, hrow3, hc, hcI, Deed.enc, k6A, dk6A, hL, hT]
    refine stpL_runs (hdo _) ?_
    rintro _ _ ⟨l3, f3, rfl, o3, ⟨⟨G3, rfl⟩, hf3⟩⟩
    have hL3 := o3.len
    have hT3 : l3.take l3.length = l3 := List.take_length
    rw [hL3] at hT3
    have hD3 : l.drop 10 = [] := by rw [← hL]; exact List.drop_length
    obtain ⟨aq, rfl, owq⟩ := oq
    obtain ⟨c, hcd⟩ : ∃ c, c = (doIt p.1 d).2 := ⟨_, rfl⟩
    rw [← hcd]
    simp [hL3, hT3]
    obtain ⟨Z, hZ⟩ : ∃ Z : Heap, Z = H1 ++ some ⟨52, .wr, [[.i .i64 d.kind, .i .i64 d.a, .i .i64 d.inn.kind, .i .i64 d.inn.port, .i .i64 d.inn.vec.root, .i .i64 d.inn.vec.cost, .i .i64 d.inn.vec.bridge, .i .i64 d.inn.vec.port, .i .i64 d.inn.hops, .b d.inn.up]]⟩ :: (G3 ++ [some ⟨44, .wr, [l3]⟩]) := ⟨_, rfl⟩
    obtain ⟨K9, hK9⟩ : ∃ K9, K9 = H1.length + (G3.length + 1) := ⟨_, rfl⟩
    have z9 : blkAt Z K9 = some ⟨44, .wr, [l3]⟩ := by rw [hZ, hK9]; simp
    have kZ : Keep [] H1 Z := by rw [hZ]; exact Keep.app _ _ _
    have o3' := o3.app [some ⟨44, .wr, [l3]⟩]
    simp only [List.append_assoc, List.cons_append, List.nil_append] at o3'
    rw [← hZ] at o3'
    rw [← hZ, ← hK9]
    have hlt3 := o3.lt
    have hf3' : ∀ k ∈ f3, X.length ≤ k ∧ k ≠ K6 := fun k hk => by
      have h1 := hf3 k hk
      have h2 := kk.1
      simp at h1
      omega
    have hf3n : ∀ k ∈ f3, H1.length ≤ k := fun k hk => by have h1 := hf3 k hk; simp at h1; omega
    have hlX1 := kk.1
    clear hZ hK9 o3 hf3 hlt3
    have z6 := kZ.blk k6 (by simp)
    have dz6 := blkAt_len z6
    have dz9 := blkAt_len z9
    have kkZ := kk.next kZ (by simp)
    have obZ := ob.keep kZ (by simp)
    have owZ := owq.keep kZ (by simp)
    have hltq := owq.lt
    have hzl := kZ.1
    have nxt : ∀ (HN : Heap) (lN : List Lf) (fN : List Nat), blkAt HN K6 = some ⟨44, .wr, [lN]⟩ → IsBox HN lN (foldP x list (i + 1)).1 fN → Own HN 3 aq (p.2.map encI) f2 → Keep [] X HN → (∀ k ∈ fN, X.length ≤ k ∧ k ≠ K6) → (∀ k ∈ fN, k ∉ f2) →
        ∀ (aa : Option (Nat × Nat)) (HM : Heap) (fp : List Nat) (G : Heap), Own HM 3 aa (p.2.map encI ++ [encI c]) fp → Keep f2 (HN ++ G) HM → (∀ k ∈ fp, k ∈ f2 ∨ (HN ++ G).length ≤ k) → ∀ tm : Ab.T, tm 4 = .ptr (H.length + 1) 0 0 → tm 6 = .ptr K6 0 0 → tm 7 = .w (.lf (.sl aa (p.2.length + 1))) → tm 23 = .w (.lf (.sl (some (id3, r3)) list.length)) → tm 24 = .int list.length → tm 25 = .int ((i : Int) + 1) → Q2 .normal tm HM := by
      intro HN lN fN a1 a2 a3 a4 a5 a6 aa HM fp G b1 b2 b3 tm s4 s6 s7 s23 s24 s25
      have hlN := a4.1
      have hcs : (foldP x list (i + 1)).2 = p.2 ++ [c] := by rw [hstep, hcd]; rfl
      have k1 : Keep f2 HN HM := b2.base
      have hlf := a2.lt
      refine hn2 (j - 1) _ _ (by omega) ⟨i + 1, lN, fN, .sl aa (p.2.length + 1), fp, by omega, s4, s6, s7, s23, s24, by simpa using s25, k1.blk a1 (fun h => (hf2 K6 h).2 rfl), a2.keep k1 a6, ?_, a4.next k1 (fun k hk => (hf2 k hk).1), a5, fun k hk => ?_, fun k hk hk2 => ?_⟩
      · rw [hcs]
        exact ⟨aa, by simp, by simpa using b1⟩
      · rcases b3 k hk with h | h
        · exact hf2 k h
        · have := blkAt_len a1; simp at h; omega
      · rcases b3 k hk2 with h | h
        · exact a6 k hk h
        · have := hlf k hk; simp at h; omega
    by_cases hc0 : c = 0
    · have h1 : (foldP x list (i + 1)).1 = (doIt p.1 d).1 := by rw [hstep, stepAll, ← hcd, if_pos hc0]
      simp [hc0, z9, dz9, z6, dz6, hL, hT, hL3, hT3, hD3, t4, t6, t7, t23, t24, t25]
      refine stpL_append (e := 3) (rows := p.2.map encI) (ys := [encI 0]) ((owZ.keep (Keep.set (id := K6) Z (some ⟨44, .wr, [l3]⟩)) (fun k hk hk2 => by have := hf2 k hk; simp at hk2; omega)).app _) (Sl.of (by simp [encI, blkAt, List.getElem?_append])) rfl rfl rfl (by simp) (by simp; omega) (by simp) rfl fun a'' H'' fp'' ho'' hk'' hf'' => ?_
      simp [t4, t6, t23, t24, t25, g4]
      refine nxt (Z.set K6 (some ⟨44, .wr, [l3]⟩)) l3 f3 (blkAt_set dz6) (by rw [h1]; exact o3'.keep (Keep.set _ _) (fun k hk hk2 => by have := hf3' k hk; simp at hk2; omega)) (owZ.keep (Keep.set _ _) (fun k hk hk2 => by have := hf2 k hk; simp at hk2; omega)) (kkZ.next (Keep.set _ _) (by simp; omega)) hf3' (fun k hk hk2 => by have h1 := hltq k hk2; have h2 := hf3n k hk; omega) a'' H'' fp'' _ (by simpa [hc0] using ho'') hk'' hf'' _ ?_ ?_ ?_ ?_ ?_ ?_
      all_goals simp [t4, t6, t23, t24, t25]
    · have h1 : (foldP x list (i + 1)).1 = p.1 := by rw [hstep, stepAll, ← hcd, if_neg hc0]
      simp [hc0, t7]
      refine stpL_append (e := 3) (rows := p.2.map encI) (ys := [encI c]) (owZ.app _) (Sl.of (by simp [encI])) rfl rfl rfl (by simp) (by simp; omega) (by simp) rfl fun a'' H'' fp'' ho'' hk'' hf'' => ?_
      simp [t4, t6, t23, t24, t25, g4]
      refine nxt Z l f z6 (by rw [h1]; exact obZ) owZ kkZ hf hdj a'' H'' fp'' _ ho'' hk'' hf'' _ ?_ ?_ ?_ ?_ ?_ ?_
      all_goals simp [t4, t6, t23, t24, t25]
  · simp at hc
    obtain rfl : i = list.length := by omega
    simp [t4, t6, t7, t23, t24, t25]
    refine he2 _ _ _ ?_
    have bzN := kk.blk bz (by simp)
    have dzN := blkAt_len bzN
    simp [t4, t6, t7, k6, dk6, hL, hT, bzN, dzN]
    exact ending _ _ l _ _ q f f2 (by simp [t4]) (by simp) ob oq hDx kk (fun k hk => (hf k hk).1) (fun k hk => by have := hf2 k hk; omega) hdj

theorem specDoAll_is {H : Heap} {l : List Lf} {x : Box} (h : RdBox H l x) (hn : x.sz ≤ 1048576) {qd : Lf} {list : List Deed} (hd : RdDeedS H qd list) (hln : list.length ≤ 1048576) :
    Runs env 14 [.agg l, .w (.lf qd)] H fun v H' => ∃ l' fp q fp2, v = .tup [.agg l', .lf q] ∧ IsBox H' l' (doAll x list).1 fp ∧ IsIntS H' q (doAll x list).2 fp2 ∧ (∀ i ∈ fp, i ∉ fp2) ∧ Fresh H H' (fp ++ fp2) := by
  have hR := h
  obtain ⟨R, hDR⟩ : ∃ R, R = doAll x list := ⟨_, rfl⟩
  rw [← hDR]
  obtain ⟨ad, rfl, hsd⟩ := hd
  obtain ⟨q0, q1, q2, q3, q4, rfl⟩ : ∃ q0 q1 q2 q3 q4, l = x.enc q0 q1 q2 q3 q4 := by
    obtain ⟨q0, q1, q2, q3, q4, rfl, -⟩ := h
    exact ⟨q0, q1, q2, q3, q4, rfl⟩
  refine Runs.walk ok14 Tryz.func14 rfl (by simp [Tryz.f14]) fun Q hQ => ?_
  simp only [Tryz.f14, strip, stripL, stripI, stripG, chkT, tagsB, tagsL, tagD, addT, tagA, lookN, tagOp, elmT, ty24, ty25, ty26, ty27, ty28, ty39, ty40, ty41, ty42, ty57, ty59, ty62, ty98, Nat.reduceEqDiff, if_false, reduceIte, Option.getD_some, Option.getD_none, dstAt, dstOk, Nat.reduceLT, decide_true, if_true]
  have fin : ∀ (HF : Heap) (tm : Ab.T) (l' : List Lf) (z : Box) (cs : List Int) (q : Lf) (f' f2 : List Nat), tm 4 = .ptr (H.length + 1) 0 0 → blkAt HF (H.length + 1) = some ⟨44, .wr, [l']⟩ → IsBox HF l' z f' → tm 5 = .w (.lf q) → IsIntS HF q cs f2 → R = (z, cs) → Keep [] H HF → (∀ i ∈ f', H.length ≤ i) → (∀ i ∈ f2, H.length ≤ i) → (∀ i ∈ f', i ∉ f2) → Q .ret tm HF := by
    intro HF tm l' z cs q f' f2 t4 hb4 ho4 t5 hq hz hK hf hf2 hdj
    have hL' := ho4.len
    have hT' : l'.take l'.length = l' := List.take_length
    rw [hL'] at hT'
    refine hQ _ _ _ (by simp) ?_
    have hres : resT env.τ tm HF (Tryz.f14.results.toList) = some [W.agg l', W.lf q] := by simp [Tryz.f14, t4, t5, hb4, hL', hT']
    rw [hres, optK_some, hz]
    rcases leave_both H HF [W.agg l', W.lf q] with e | ⟨e, hfr, G, rfl⟩ <;> rw [e]
    · refine ⟨_, f', _, f2, rfl, ho4, hq, hdj, ⟨hK.ext, fun i hi => ?_⟩⟩
      rcases List.mem_append.1 hi with hi | hi
      · exact hf i hi
      · exact hf2 i hi
    · simp at hfr
      exact ⟨_, [], _, [], rfl, ho4.free (by simpa using hfr.1) H, hq.free hfr.2 H, by simp, Fresh.refl H⟩
  simp [Box.enc]
  obtain ⟨X, hX⟩ : ∃ X : Heap, X = H ++ [some ⟨44, .wr, [[.i .i64 x.id, .i .i64 x.ports, .i .i64 x.reg.epoch, .i .i64 x.reg.owner, .i .i64 x.reg.pair, q0, q1, q2, q3, q4]]⟩, some ⟨44, .wr, [[.i .i64 0, .i .i64 0, .i .i64 0, .i .i64 0, .i .i64 0, .sl none 0, .sl none 0, .sl none 0, .sl none 0, .sl none 0]]⟩, some ⟨3, .wr, []⟩] := ⟨_, rfl⟩
  have b0 : blkAt X H.length = some ⟨44, .wr, [[.i .i64 x.id, .i .i64 x.ports, .i .i64 x.reg.epoch, .i .i64 x.reg.owner, .i .i64 x.reg.pair, q0, q1, q2, q3, q4]]⟩ := by rw [hX]; simp
  have d0 := blkAt_len b0
  have bz : blkAt X (H.length + 1) = some ⟨44, .wr, [[.i .i64 0, .i .i64 0, .i .i64 0, .i .i64 0, .i .i64 0, .sl none 0, .sl none 0, .sl none 0, .sl none 0, .sl none 0]]⟩ := by rw [hX]; simp
  have dz := blkAt_len bz
  have hlX : H.length + 2 ≤ X.length := by rw [hX]; simp
  have be : blkAt X (H.length + 2) = some ⟨3, .wr, []⟩ := by rw [hX]; simp
  rw [← hX]
  have kX : Keep [] H X := by rw [hX]; exact Keep.app _ _ _
  have hRX : RdBox X (x.enc q0 q1 q2 q3 q4) x := hR.base kX
  clear hX
  have hcp := specCopyBox hRX hn
  simp only [Box.enc] at hcp
  
  refine stpL_runs hcp ?_
  rintro _ _ ⟨l1, f1, rfl, o1, ⟨⟨G1, rfl⟩, hf1⟩⟩
  have hL1 := o1.len
  have hT1 : l1.take l1.length = l1 := List.take_length
  rw [hL1] at hT1
  have hlt1 := o1.lt
  have o1' := o1.app [some ⟨44, .wr, [l1]⟩]
  simp only [List.append_assoc] at o1'
  simp [hL1, hT1, builtinV, pureB, lenV]
  obtain ⟨K6, hK6⟩ : ∃ K6, K6 = X.length + G1.length := ⟨_, rfl⟩
  obtain ⟨Y, hY⟩ : ∃ Y : Heap, Y = X ++ (G1 ++ [some ⟨44, .wr, [l1]⟩]) := ⟨_, rfl⟩
  have y6 : blkAt Y K6 = some ⟨44, .wr, [l1]⟩ := by rw [hY, hK6]; simp
  have kXY : Keep [] X Y := by rw [hY]; exact Keep.app _ _ _
  have o6 : IsBox Y l1 x f1 := by rw [hY]; exact o1'
  have hf6 : ∀ i ∈ f1, X.length ≤ i ∧ i ≠ K6 := fun i hi => by have h1 := hf1 i hi; have h2 := hlt1 i hi; simp only [List.length_append] at h2; omega
  have hK6X : X.length ≤ K6 := by omega
  rw [← hY, ← hK6]
  have dK := blkAt_len y6
  have b0Y := kXY.blk b0 (by simp)
  have bzY := kXY.blk bz (by simp)
  have d0Y := blkAt_len b0Y
  have dzY := blkAt_len bzY
  clear hY hK6 o1 o1' hf1 hlt1
  have e1 := specBoxOk_is (hRX.base kXY) (by omega)
  simp only [Box.enc] at e1
  have ending : ∀ (HF : Heap) (tm : Ab.T) (l' : List Lf) (z : Box) (cs : List Int) (q : Lf) (f' f2 : List Nat), tm 4 = .ptr (H.length + 1) 0 0 → tm 5 = .w (.lf q) → IsBox HF l' z f' → IsIntS HF q cs f2 → R = (z, cs) → Keep [H.length + 2] X HF → (∀ i ∈ f', X.length ≤ i) → (∀ i ∈ f2, H.length ≤ i ∧ i ≠ H.length + 1) → (∀ i ∈ f', i ∉ f2) → Q .ret tm (HF.set (H.length + 1) (some ⟨44, .wr, [l']⟩)) := by
    intro HF tm l' z cs q f' f2 t4 t5 ho hq hz hK hf hf2 hdj
    have := hK.1
    exact fin _ tm l' z cs q f' f2 t4 (blkAt_set (by omega)) (ho.keep (Keep.set _ _) (fun i hi hj => by have := hf i hi; simp at hj; omega)) t5 (hq.keep (Keep.set _ _) (fun i hi hj => by have := hf2 i hi; simp at hj; omega)) hz ((kX.next hK (by simp)).next (Keep.set _ _) (by simp)) (fun i hi => by have := hf i hi; omega) (fun i hi => (hf2 i hi).1) hdj
  have hempty : ∀ G : Heap, IsIntS (X ++ G) (.sl (some (H.length + 2, 0)) 0) [] [H.length + 2] := fun G => ⟨some (H.length + 2, 0), rfl, Own.of (blkAt_app be G)⟩
  have hemptyY : IsIntS Y (.sl (some (H.length + 2, 0)) 0) [] [H.length + 2] := ⟨some (H.length + 2, 0), rfl, (Own.of be).keep kXY (by simp)⟩
  have h2x : H.length + 2 < X.length := blkAt_len be
  simp [b0Y, d0Y, e1]
  cases hok : x.ok
  · have hDx : R = (x, []) := by rw [hDR, doAll, if_pos (.inr hok)]
    simp [y6, dK, hL1, hT1, bzY, dzY]
    exact ending _ _ l1 x [] (.sl (some (H.length + 2, 0)) 0) f1 [H.length + 2] (by simp) (by simp) o6 hemptyY hDx (kXY.more (by simp)) (fun i hi => (hf6 i hi).1) (by simp) (fun k hk hk2 => by have := hf6 k hk; simp at hk2; omega)
  simp [builtinV, pureB, lenV]
  by_cases hlen : (300 : Int) < list.length
  · have hDx : R = (x, []) := by rw [hDR, doAll, if_pos (.inl (by omega))]
    simp [hlen, y6, dK, hL1, hT1, bzY, dzY]
    exact ending _ _ l1 x [] (.sl (some (H.length + 2, 0)) 0) f1 [H.length + 2] (by simp) (by simp) o6 hemptyY hDx (kXY.more (by simp)) (fun i hi => (hf6 i hi).1) (by simp) (fun k hk hk2 => by have := hf6 k hk; simp at hk2; omega)
  simp [hlen]
  have hDx : R = foldP x list list.length := by rw [hDR, doAll_yes (by omega) hok]
  refine wpS_loop (fun j tm H' => ∃ (i : Nat) (l : List Lf) (f : List Nat) (q : Lf) (f2 : List Nat), i + j = list.length ∧ tm 4 = .ptr (H.length + 1) 0 0 ∧ tm 7 = .ptr K6 0 0 ∧ tm 6 = .w (.lf q) ∧ tm 1 = .w (.lf (.sl ad list.length)) ∧ tm 8 = .int i ∧ blkAt H' K6 = some ⟨44, .wr, [l]⟩ ∧ IsBox H' l (foldP x list i).1 f ∧ IsIntS H' q (foldP x list i).2 f2 ∧ Keep [H.length + 2] X H' ∧ (∀ k ∈ f, X.length ≤ k ∧ k ≠ K6) ∧ (∀ k ∈ f2, (k = H.length + 2 ∨ X.length ≤ k) ∧ k ≠ K6) ∧ (∀ k ∈ f, k ∉ f2)) list.length (by rw [env_K]; omega)
    ⟨0, l1, f1, .sl (some (H.length + 2, 0)) 0, [H.length + 2], by simp, by simp, by simp, by simp, by simp, by simp, y6, o6, hemptyY, kXY.more (by simp), hf6, by simp; omega, fun k hk hk2 => by have := hf6 k hk; simp at hk2; omega⟩ ?_
  rintro j tm H1 hj ⟨i, l, f, q, f2, hij, t4, t7, t6, t1, t8, k6, ob, oq, kk, hf, hf2, hdj⟩ Q2 hn2 he2 hr2
  have dk6 := blkAt_len k6
  have hL := ob.len
  have hT : l.take l.length = l := List.take_length
  rw [hL] at hT
  simp [t4, t6, t7, t1, t8, builtinV, pureB, lenV]
  refine selS_intro (fun hc => ?_) (fun hc => ?_)
  · simp at hc
    have hstep := foldP_step x list hc
    obtain ⟨d, hdd⟩ : ∃ d, d = list[i] := ⟨_, rfl⟩
    rw [← hdd] at hstep
    have hilen := foldP_len x list i (by omega)
    have hpok := foldP_ok list hok i (by omega)
    obtain ⟨p, hp⟩ : ∃ p, p = foldP x list i := ⟨_, rfl⟩
    rw [← hp] at hstep hilen hpok ob oq
    have hpsz := (Box.smallOf hpok).1.sz
    obtain ⟨id3, r3, bl3, rfl, hb3, hbe3, hrow3⟩ := (hsd.keep (kX.next kk (by simp)) (by simp)) i d.enc (by rw [List.getElem?_map, List.getElem?_eq_getElem hc, hdd]; rfl)
    have hid3 := blkAt_len hb3
    have hcI : (i : Int) < list.length := by omega
    simp only [Deed.enc] at hrow3
    have hdo := specDo_is ob.rd (by omega) d
    simp only [Deed.enc] at hdo
    have g4 : IntKind.i64.wrap ((i : Int) + 1) = (i : Int) + 1 := wrap64 (by omega) (by omega)
    simp [t4, t6, t7, t1, t8, indexAddrV, elemIs, hb3, hid3, hbe3, hrow3, hc, hcI, Deed.enc, k6, dk6, hL, hT]
    refine stpL_runs_f hdo (by rintro _ _ ⟨_, _, _, _, hf⟩; exact hf.1) ?_
    rintro _ _ ⟨l3, f3, rfl, o3, ⟨⟨G3, rfl⟩, hf3⟩⟩
    have hL3 := o3.len
    have hT3 : l3.take l3.length = l3 := List.take_length
    rw [hL3] at hT3
    have hD3 : l.drop 10 = [] := by rw [← hL]; exact List.drop_length
    obtain ⟨aq, rfl, owq⟩ := oq
    obtain ⟨c, hcd⟩ : ∃ c, c = (doIt p.1 d).2 := ⟨_, rfl⟩
    rw [← hcd]
    have hf3n : ∀ k ∈ f3, H1.length ≤ k := hf3
    have hltq := owq.lt
    have hlt3 := o3.lt
    have hlX1 := kk.1
    simp [hL3, hT3, t6]
    obtain ⟨Z, hZ⟩ : ∃ Z : Heap, Z = H1 ++ (G3 ++ [some ⟨44, .wr, [l3]⟩]) := ⟨_, rfl⟩
    have kZ : Keep [] H1 Z := by rw [hZ]; exact Keep.app _ _ _
    refine stpL_append (e := 3) (rows := p.2.map encI) (ys := [encI c]) (owq.app _) (Sl.of (by simp [encI])) rfl rfl rfl (by simp) (by simp; omega) (by simp) rfl fun aa HM fp hoM hkM hfM => ?_
    have o3' := o3.app [some ⟨44, .wr, [l3]⟩, some ⟨3, .wr, [encI c]⟩]
    simp only [List.append_assoc, List.cons_append, List.nil_append] at o3'
    have z9 : blkAt HM (H1.length + G3.length) = some ⟨44, .wr, [l3]⟩ := hkM.blk (by simp) (fun h => by have := hltq _ h; omega)
    have dz9 := blkAt_len z9
    have hlM := hkM.1
    have kM : Keep f2 H1 HM := hkM.base
    have k6M := kM.blk k6 (fun h => (hf2 K6 h).2 rfl)
    have dk6M := blkAt_len k6M
    have o3M : IsBox HM l3 (doIt p.1 d).1 f3 := o3'.keep (by simpa [encI] using hkM) (fun k hk hk2 => by have := hltq k hk2; have := hf3n k hk; omega)
    have obM : IsBox HM l p.1 f := ob.keep kM hdj
    have kkM : Keep [H.length + 2] X HM := kk.trans kM (fun _ h _ => h) (fun k hk hlt => by have := hf2 k hk; simp; omega)
    have hcs : (foldP x list (i + 1)).2 = p.2 ++ [c] := by rw [hstep, hcd]; rfl
    have hfM2 : ∀ k ∈ fp, (k = H.length + 2 ∨ X.length ≤ k) ∧ k ≠ K6 := fun k hk => by
      rcases hfM k hk with h | h
      · exact hf2 k h
      · simp at h; omega
    have hqM : IsIntS HM (.sl aa (p.2.length + 1)) (foldP x list (i + 1)).2 fp := by rw [hcs]; exact ⟨aa, by simp, by simpa using hoM⟩
    by_cases hc0 : c = 0
    · have h1 : (foldP x list (i + 1)).1 = (doIt p.1 d).1 := by rw [hstep, stepAll, ← hcd, if_pos hc0]
      simp [hc0, z9, dz9, k6M, dk6M, hL, hT, hL3, hT3, hD3, t4, t6, t7, t1, t8, g4]
      refine hn2 (j - 1) _ _ (by omega) ⟨i + 1, l3, f3, .sl aa (p.2.length + 1), fp, by omega, by simp [t4], by simp [t7], by simp, by simp [t1], by simp, blkAt_set dk6M, ?_, ?_, kkM.trans (Keep.set _ _) (fun _ h _ => h) (fun k hk hlt => by simp at hk; omega), fun k hk => ?_, hfM2, fun k hk hk2 => ?_⟩
      · rw [h1]; exact o3M.keep (Keep.set _ _) (fun k hk hk2 => by have := hf3n k hk; simp at hk2; omega)
      · exact hqM.keep (Keep.set _ _) (fun k hk hk2 => by have := hfM2 k hk; simp at hk2; omega)
      · have := hf3n k hk; omega
      · have a1 := hf3n k hk
        have a2 := hlt3 k hk
        rcases hfM k hk2 with h | h
        · have := hltq k h; omega
        · simp at h a2; omega
    · have h1 : (foldP x list (i + 1)).1 = p.1 := by rw [hstep, stepAll, ← hcd, if_neg hc0]
      simp [hc0, t4, t6, t7, t1, t8, g4]
      refine hn2 (j - 1) _ _ (by omega) ⟨i + 1, l, f, .sl aa (p.2.length + 1), fp, by omega, by simp [t4], by simp [t7], by simp, by simp [t1], by simp, k6M, by rw [h1]; exact obM, hqM, kkM, hf, hfM2, fun k hk hk2 => ?_⟩
      rcases hfM k hk2 with h | h
      · exact hdj k hk h
      · have := ob.lt k hk; simp at h; omega
  · simp at hc
    obtain rfl : i = list.length := by omega
    simp [t4, t6, t7, t1, t8]
    refine he2 _ _ _ ?_
    have bzN := kk.blk bz (by simp)
    have dzN := blkAt_len bzN
    simp [t4, t6, t7, k6, dk6, hL, hT, bzN, dzN]
    exact ending _ _ l _ _ q f f2 (by simp [t4]) (by simp) ob oq hDx kk (fun k hk => (hf k hk).1) (fun k hk => by have := hf2 k hk; omega) hdj
end W
end Go.Proofs.YtafakoecgaijoaaGreat
