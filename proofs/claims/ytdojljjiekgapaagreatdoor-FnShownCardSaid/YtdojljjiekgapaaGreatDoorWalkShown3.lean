/- The functions that this law reaches: what each computes. Conditions: those that each theorem names. -/
import Derived.Test.YtdojljjiekgapaaGreatDoorWalkShown2
set_option maxRecDepth 100000
set_option maxHeartbeats 4000000
set_option linter.unusedSimpArgs false
set_option linter.unusedVariables false
set_option linter.unnecessarySimpa false
namespace Go.Proofs.YtdojljjiekgapaaGreatDoor
open Go Go.Ab Go.ChangeShapes Go.WideShapes Go.ChangeAt Go.RowKit
namespace W
def BrStO (H H' : Heap) (c n K m : Nat) : Prop := ∃ (l : List Lf) (b : Bridge) (fp : List Nat), blkAt H' K = some ⟨31, .wr, [l]⟩ ∧ IsBridge H' l b fp ∧ (∀ k ∈ fp, H.length + 1 ≤ k ∧ k ≠ K) ∧ (b.ports.length = m ∧ b.ok = true) ∧ CurTo H H' c n ∧ blkAt H' H.length = some ⟨31, .wr, [[.i .i64 0, .sl none 0]]⟩
theorem BrStO.next {H H1 H2 : Heap} {c n K m : Nat} (h : BrStO H H1 c n K m) (h2 : CurTo H1 H2 c n) (hc : c < H.length) (hK : H.length < K) : BrStO H H2 c n K m := by
  obtain ⟨l, b, fp, h3, h4, h5, h6, h7, h8⟩ := h
  exact ⟨l, b, fp, h2.1.blk h3 (by simp; omega), h4.keep h2.1 (fun k hk hk2 => by have := h5 k hk; simp at hk2; omega), h5, h6, h7.next h2, h2.1.blk h8 (by simp; omega)⟩
theorem l8DrawRight_rg {H : Heap} {c n : Nat} (hc : Cur H c n) : Runs env 37 [.ptr c 0 0] H fun v H' => (∃ (l : List Lf) (b : Bridge) (fp : List Nat), v = .agg l ∧ IsBridge H' l b fp ∧ 1 ≤ b.ports.length ∧ b.ports.length ≤ 4 ∧ (∀ i ∈ fp, H.length ≤ i) ∧ b.ok = true) ∧ CurTo H H' c n := by
  have hcl := hc.lt
  refine Runs.walk ok37 Tryz.func37 rfl (by simp [Tryz.f37]) fun Q hQ => ?_
  simp only [Tryz.f37, strip, stripL, stripI, stripG, chkT, tagsB, tagsL, tagD, addT, tagA, lookN, tagOp, elmT, ty22, ty29, ty33, ty39, ty40, ty41, ty42, ty69, ty71, ty95, Nat.reduceEqDiff, if_false, reduceIte, Option.getD_some, Option.getD_none, dstAt, dstOk, Nat.reduceLT, decide_true, if_true]
  have hcX := hc.app [some ⟨31, .wr, [[.i .i64 0, .sl none 0]]⟩]
  have bzX : blkAt (H ++ [some ⟨31, .wr, [[.i .i64 0, .sl none 0]]⟩]) H.length = some ⟨31, .wr, [[.i .i64 0, .sl none 0]]⟩ := by simp
  have hlX : (H ++ [some ⟨31, .wr, [[.i .i64 0, .sl none 0]]⟩] : Heap).length = H.length + 1 := by simp
  simp
  refine stpL_runs (l1Below hcX 6) ?_
  rintro _ H1 ⟨⟨x, rfl, hx0, hx1, -⟩, hto1⟩
  simp
  refine stpL_runs (l1Below hto1.2 4) ?_
  rintro _ H2 ⟨⟨y, rfl, hy0, hy1, -⟩, hto2⟩
  have hto := hto1.next hto2
  have bz2 := hto.1.blk bzX (by simp; omega)
  have hl2 := hto.len
  rw [hlX] at hl2
  have hcc2 := hto.base
  have w1 : IntKind.i64.wrap (1 + x) = 1 + x := wrap64 (by omega) (by omega)
  have w2 : IntKind.i64.wrap (1 + y) = 1 + y := wrap64 (by omega) (by omega)
  simp [w1, w2]
  refine stpL_runs (specBridgeNew _ _ _) ?_
  rintro _ _ ⟨l, fp, rfl, ob, ⟨⟨G3, rfl⟩, hfp⟩⟩
  have hbn := bridgeNew_yes (show (bridgeNew (1 + x) (1 + y)).2 = true by unfold bridgeNew; rw [if_pos (by simp; omega)])
  have hL := ob.len
  have hT : l.take l.length = l := List.take_length
  rw [hL] at hT
  have hltb := ob.lt
  obtain ⟨m, hm⟩ : ∃ m : Nat, m = (1 + y).toNat := ⟨_, rfl⟩
  have hm4 : 1 ≤ m ∧ m ≤ 4 := by omega
  simp [hL, hT]
  obtain ⟨K, hK⟩ : ∃ K, K = H2.length + G3.length := ⟨_, rfl⟩
  have hKl : H.length < K := by omega
  have st0 : BrStO H (H2 ++ (G3 ++ [some ⟨31, .wr, [l]⟩])) c n K m := by
    have ob' := ob.app [some ⟨31, .wr, [l]⟩]
    rw [List.append_assoc] at ob'
    refine ⟨l, _, fp, by rw [hK]; simp, ob', fun k hk => ?_, ⟨by rw [hbn.2.2]; simp [hm], bridgeNew_ok (show (bridgeNew (1 + x) (1 + y)).2 = true by unfold bridgeNew; rw [if_pos (by simp; omega)])⟩, hcc2.app _, blkAt_app bz2 _⟩
    have a1 := hfp k hk
    have a2 := hltb k hk
    simp only [List.length_append] at a2
    omega
  rw [← hK]
  obtain ⟨H3, hH3⟩ : ∃ H3 : Heap, H3 = H2 ++ (G3 ++ [some ⟨31, .wr, [l]⟩]) := ⟨_, rfl⟩
  rw [← hH3] at st0 ⊢
  clear hH3 hK ob hfp hltb hL hT
  have ret : ∀ (HF : Heap) (tm : Ab.T), tm 2 = .ptr H.length 0 0 → (∃ (l : List Lf) (b : Bridge) (fp : List Nat), blkAt HF H.length = some ⟨31, .wr, [l]⟩ ∧ IsBridge HF l b fp ∧ (∀ k ∈ fp, H.length ≤ k) ∧ (b.ports.length = m ∧ b.ok = true) ∧ CurTo H HF c n) → Q .ret tm HF := by
    rintro HF tm t2 ⟨l, b, fp, h1, h2, h3, h4, h5⟩
    have hL := h2.len
    have hT : l.take l.length = l := List.take_length
    rw [hL] at hT
    refine hQ _ _ _ (by simp) ?_
    have hres : resT env.τ tm HF (Tryz.f37.results.toList) = some [W.agg l] := by simp [Tryz.f37, t2, h1, hL, hT]
    rw [hres, optK_some]
    refine ⟨?_, h5.leave hc _⟩
    rcases leave_opt H HF [W.agg l] with e | ⟨e, hr⟩ <;> rw [e]
    · exact ⟨l, b, fp, rfl, h2, by omega, by omega, h3, h4.2⟩
    · exact ⟨l, b, [], rfl, h2.free (by simpa using hr) H, by omega, by omega, by simp, h4.2⟩
  -- a reaction
  have act : ∀ (HA : Heap) (l : List Lf) (b : Bridge) (fp : List Nat) (x : In), blkAt HA K = some ⟨31, .wr, [l]⟩ → IsBridge HA l b fp → (∀ k ∈ fp, H.length + 1 ≤ k ∧ k ≠ K) → (b.ports.length = m ∧ b.ok = true) → CurTo H HA c n → blkAt HA H.length = some ⟨31, .wr, [[.i .i64 0, .sl none 0]]⟩ → l.length = 2 →
      Runs env 53 [.agg l, .agg x.enc] HA fun v H' => ∃ l' q G, v = .tup [.agg l', .lf q] ∧ l'.length = 2 ∧ l'.take 2 = l' ∧ H' = HA ++ G ∧ BrStO H (H'.set K (some ⟨31, .wr, [l']⟩)) c n K m := by
    intro HA l b fp x h1 h2 h3 h4 h5 h6 h7
    refine (specReact h2.rd (by unfold Bridge.sz; omega) x).mono ?_
    rintro _ _ ⟨l', f1, q, f2, rfl, o1, o2, ⟨⟨G, rfl⟩, hf⟩, hd⟩
    have hl' := o1.len
    refine ⟨l', q, G, rfl, hl', by rw [← hl']; exact List.take_length, rfl, l', _, f1, blkAt_set (by have := blkAt_len h1; simp; omega), o1.keep (Keep.set _ _) (fun k hk hk2 => ?_), fun k hk => ?_, ⟨by rw [reactB_len]; exact h4.1, reactB_ok _ h4.2⟩, (h5.app G).set (by omega) (by omega) _, by rw [blkAt_set_ne (by omega)]; exact blkAt_app h6 G⟩
    · have := hf k (by simp [hk]); have := blkAt_len h1; simp at hk2; omega
    · have := hf k (by simp [hk]); have := blkAt_len h1; have := h5.len; omega
  refine wpS_loop (fun j tm H' => ∃ i : Nat, i + j = m ∧ tm 0 = .ptr c 0 0 ∧ tm 2 = .ptr H.length 0 0 ∧ tm 3 = .ptr K 0 0 ∧ tm 5 = .int i ∧ BrStO H H' c n K m) m (by rw [env_K]; omega) ⟨0, by simp, by simp, by simp, by simp, by simp, st0⟩ ?_
  rintro j tm H4 hj ⟨i, hij, t0, t2, t3, t5, st⟩ Q2 hn2 he2 hr2
  obtain ⟨l4, b4, fp4, k4, o4, hf4, hm4', hto4, bz4⟩ := st
  have d4 := blkAt_len k4
  have hL4 := o4.len
  have hT4 : l4.take l4.length = l4 := List.take_length
  rw [hL4] at hT4
  have hD4 : l4.drop 2 = [] := by rw [← hL4]; exact List.drop_length
  have hq : ∃ a4, l4 = [.i .i64 b4.id, .sl a4 m] := by
    obtain ⟨a4, rfl, -⟩ := o4
    exact ⟨a4, by simp [Bridge.enc, hm4']⟩
  obtain ⟨a4, hq4⟩ := hq
  have hd1 : List.take 1 l4.tail = [.sl a4 m] := by rw [hq4]; rfl
  simp [t0, t2, t3, t5, k4, d4, hL4, hd1, builtinV, pureB, lenV]
  have hw : IntKind.i64.wrap ((i : Int) + 1) = (i : Int) + 1 := wrap64 (by omega) (by omega)
  refine selS_intro (fun hc1 => ?_) (fun hc1 => ?_)
  · simp at hc1
    simp [t0]
    refine stpL_runs (l1Once hto4.2 4) ?_
    rintro _ H5 ⟨⟨b, rfl⟩, hto5⟩
    have st5 : BrStO H H5 c n K m := BrStO.next ⟨l4, b4, fp4, k4, o4, hf4, hm4', hto4, bz4⟩ hto5 hcl hKl
    cases b
    rotate_left
    · simp [t0, t2, t3, t5, hw]
      exact hn2 (j - 1) _ _ (by omega) ⟨i + 1, by omega, by simp [t0], by simp [t2], by simp [t3], by simp, st5⟩
    obtain ⟨l5, b5, fp5, k5, o5, hf5, hm5, hto5', bz5⟩ := st5
    have d5 := blkAt_len k5
    have hL5 := o5.len
    have hT5 : l5.take l5.length = l5 := List.take_length
    rw [hL5] at hT5
    have hD5 : l5.drop 2 = [] := by rw [← hL5]; exact List.drop_length
    have ha := act H5 l5 b5 fp5 ⟨3, i, ⟨0, 0, 0, 0⟩, 0, true⟩ k5 o5 hf5 hm5 hto5' bz5 hL5
    simp only [In.enc] at ha
    simp [t0, t2, t3, t5, k5, d5, hL5, hT5]
    refine stpL_runs ha ?_
    rintro _ _ ⟨l6, q6, G6, rfl, hL6, hT6, rfl, st6⟩
    have k6 := blkAt_app k5 G6
    have d6 : K < H5.length + G6.length := by omega
    simp [t3, k6, d6, hL5, hD5, hL6, hT6, t5, hw]
    exact hn2 (j - 1) _ _ (by omega) ⟨i + 1, by omega, by simp [t0], by simp [t2], by simp [t3], by simp, st6⟩
  · simp at hc1
    simp
    refine he2 _ _ _ ?_
    have stA : BrStO H H4 c n K m := ⟨l4, b4, fp4, k4, o4, hf4, hm4', hto4, bz4⟩
    simp [t0, t2, t3]
    refine wpS_loop (fun j tm H' => ∃ i : Nat, i + j = 9 ∧ tm 0 = .ptr c 0 0 ∧ tm 2 = .ptr H.length 0 0 ∧ tm 3 = .ptr K 0 0 ∧ tm 6 = .int i ∧ BrStO H H' c n K m) 9 (by rw [env_K]; omega) ⟨0, by simp, by simp [t0], by simp [t2], by simp [t3], by simp, stA⟩ ?_
    clear hn2 he2 hr2
    rintro j tm H4 hj ⟨i, hij, t0, t2, t3, t6, st⟩ Q2 hn2 he2 hr2
    simp [t0, t6]
    refine stpL_runs (l1Below (by obtain ⟨_, _, _, _, _, _, _, hh, _⟩ := st; exact hh.2) 10) ?_
    rintro _ H5 ⟨⟨w, rfl, hw0, hw1, -⟩, hto5⟩
    have hw9 := hw1 (by omega)
    have st5 := st.next hto5 hcl hKl
    obtain ⟨l5, b5, fp5, k5, o5, hf5, hm5, hto5', bz5⟩ := st5
    have d5 := blkAt_len k5
    have hL5 := o5.len
    have hT5 : l5.take l5.length = l5 := List.take_length
    rw [hL5] at hT5
    simp [t0, t6]
    refine selS_intro (fun hc2 => ?_) (fun hc2 => ?_)
    · simp at hc2
      have hwi : IntKind.i64.wrap ((i : Int) + 1) = (i : Int) + 1 := wrap64 (by omega) (by omega)
      simp [t0, t3, k5, d5, hL5, hT5]
      refine stpL_cur (l8DrawIn hto5'.2) hto5'.2 (fun v H' h => h.2) ?_
      rintro _ H6 ⟨⟨x6, rfl⟩, hto6⟩
      have st6 : BrStO H H6 c n K m := BrStO.next ⟨l5, b5, fp5, k5, o5, hf5, hm5, hto5', bz5⟩ hto6 hcl hKl
      have k6 := hto6.1.blk k5 (by simp; omega)
      have o6 := o5.keep hto6.1 (fun k hk hk2 => by have := hf5 k hk; simp at hk2; omega)
      have bz6 := hto6.1.blk bz5 (by simp; omega)
      have d6 := blkAt_len k6
      have hD5 : l5.drop 2 = [] := by rw [← hL5]; exact List.drop_length
      simp
      refine stpL_runs_f (act H6 l5 b5 fp5 x6 k6 o6 hf5 hm5 (hto5'.next hto6) bz6 hL5) (by rintro _ _ ⟨_, _, G, _, _, _, rfl, _⟩; exact ⟨G, rfl⟩) ?_
      rintro _ _ ⟨l7, q7, G7, rfl, hL7, hT7, rfl, st7⟩
      have k7 := blkAt_app k6 G7
      have d7 : K < H6.length + G7.length := by omega
      simp [t3, k7, d7, hL5, hD5, hL7, hT7, t6, hwi]
      exact hn2 (j - 1) _ _ (by omega) ⟨i + 1, by omega, by simp [t0], by simp [t2], by simp [t3], by simp, st7⟩
    · simp at hc2
      simp
      refine he2 _ _ _ ?_
      have dz5 := blkAt_len bz5
      simp [t2, t3, k5, d5, hL5, hT5, bz5, dz5]
      refine ret _ _ (by simp [t2]) ⟨l5, b5, fp5, blkAt_set dz5, o5.keep (Keep.set _ _) (fun k hk hk2 => by have := hf5 k hk; simp at hk2; omega), fun k hk => by have := hf5 k hk; omega, hm5, hto5'.set (by omega) (by omega) _⟩

theorem Port.rg_of_ok {p : Port} (h : p.ok = true) : p.rg := by
  unfold Port.ok at h
  unfold Port.rg Vec.rg I64
  cases hh : p.has
  · simp [hh] at h
    have e := h.1.1.1.1.1
    simp [e]
    omega
  · simp [hh, Vec.ok] at h
    omega
theorem Bridge.rg_of_ok {b : Bridge} (h : b.ok = true) : b.rg := by
  have h1 := Bridge.ok_all h
  refine ⟨?_, fun p hp => Port.rg_of_ok (h1.1 p hp)⟩
  have h2 := h1.2
  unfold I64
  omega

theorem l8Draw_rg {H : Heap} {c n : Nat} (hc : Cur H c n) : Runs env 19 [.ptr c 0 0] H fun v H' => (∃ (l : List Lf) (b : Bridge) (fp : List Nat), v = .agg l ∧ IsBridge H' l b fp ∧ 1 ≤ b.ports.length ∧ b.ports.length ≤ 6 ∧ (∀ i ∈ fp, H.length ≤ i) ∧ b.rg) ∧ CurTo H H' c n := by
  have hcl := hc.lt
  refine Runs.walk ok19 Tryz.func19 rfl (by simp [Tryz.f19]) fun Q hQ => ?_
  simp only [Tryz.f19, strip, stripL, stripI, stripG, chkT, tagsB, tagsL, tagD, addT, tagA, lookN, tagOp, elmT, ty22, ty29, ty33, ty39, ty40, ty41, ty42, ty69, ty71, ty95, Nat.reduceEqDiff, if_false, reduceIte, Option.getD_some, Option.getD_none, dstAt, dstOk, Nat.reduceLT, decide_true, if_true]
  have hcX := hc.app [some ⟨31, .wr, [[.i .i64 0, .sl none 0]]⟩]
  have bzX : blkAt (H ++ [some ⟨31, .wr, [[.i .i64 0, .sl none 0]]⟩]) H.length = some ⟨31, .wr, [[.i .i64 0, .sl none 0]]⟩ := by simp
  have hlX : (H ++ [some ⟨31, .wr, [[.i .i64 0, .sl none 0]]⟩] : Heap).length = H.length + 1 := by simp
  have fin : ∀ (HF : Heap) (tm : Ab.T) (l : List Lf) (b : Bridge) (fp : List Nat), tm 2 = .ptr H.length 0 0 → H.length < HF.length → IsBridge HF l b fp → (∀ k ∈ fp, H.length < k) → 1 ≤ b.ports.length → b.ports.length ≤ 6 → CurTo H HF c n → b.rg → Q .ret tm (HF.set H.length (some ⟨31, .wr, [l]⟩)) := by
    intro HF tm l b fp t2 hlt h2 h3 h4 h4' h5 hg
    have hL := h2.len
    have hT : l.take l.length = l := List.take_length
    rw [hL] at hT
    refine hQ _ _ _ (by simp) ?_
    have hb : blkAt (HF.set H.length (some ⟨31, .wr, [l]⟩)) H.length = some ⟨31, .wr, [l]⟩ := blkAt_set hlt
    have hres : resT env.τ tm (HF.set H.length (some ⟨31, .wr, [l]⟩)) (Tryz.f19.results.toList) = some [W.agg l] := by simp [Tryz.f19, t2, hb, hL, hT]
    rw [hres, optK_some]
    refine ⟨?_, (h5.set (Nat.le_refl _) hcl _).leave hc _⟩
    have h2' := h2.keep (Keep.set (id := H.length) HF (some ⟨31, .wr, [l]⟩)) (fun k hk hk2 => by have := h3 k hk; simp at hk2; omega)
    rcases leave_opt H (HF.set H.length (some ⟨31, .wr, [l]⟩)) [W.agg l] with e | ⟨e, hr⟩ <;> rw [e]
    · exact ⟨l, b, fp, rfl, h2', h4, h4', fun k hk => by have := h3 k hk; omega, hg⟩
    · exact ⟨l, b, [], rfl, h2'.free (by simpa using hr) H, h4, h4', by simp, hg⟩
  simp
  refine stpL_runs (l8DrawRight_rg hcX) ?_
  rintro _ H1 ⟨⟨l, b, fp, rfl, ob, hp1, hp4, hfp, hbok⟩, hto1⟩
  have hbg : b.rg := Bridge.rg_of_ok hbok
  have bz1 := hto1.1.blk bzX (by simp; omega)
  have hcc1 := hto1.base
  have hl1 := hto1.len
  rw [hlX] at hl1
  rw [hlX] at hfp
  have hlt := ob.lt
  have hL := ob.len
  have hT : l.take l.length = l := List.take_length
  rw [hL] at hT
  have hD : l.drop 2 = [] := by rw [← hL]; exact List.drop_length
  obtain ⟨a, rfl, ow⟩ := ob
  simp [Bridge.enc]
  have hcM := hto1.2.app [some ⟨31, .wr, [[.i .i64 b.id, .sl a b.ports.length]]⟩]
  refine stpL_runs (l1Below hcM 8) ?_
  rintro _ H2 ⟨⟨k, rfl, -⟩, hto2⟩
  have b3 : blkAt H2 H1.length = some ⟨31, .wr, [[.i .i64 b.id, .sl a b.ports.length]]⟩ := hto2.1.blk (by simp) (by simp; omega)
  have bz2 := hto2.1.blk (blkAt_app bz1 _) (by simp; omega)
  have ow2 : Own H2 27 a (b.ports.map Port.enc) fp := (ow.app _).keep hto2.1 (fun k hk hk2 => by have := hfp k hk; simp at hk2; omega)
  have d3 := blkAt_len b3
  have dz2 := blkAt_len bz2
  have hcc2 := hcc1.next hto2.base
  have hne3 : ∀ (Y : Heap) (y : Option Blk), blkAt (List.set Y H1.length y) H.length = blkAt Y H.length := fun Y y => blkAt_set_ne (by omega)
  have hne4 : ∀ (Y : Heap) (y : Blk), H1.length < Y.length → blkAt (List.set Y H1.length (some y)) H1.length = some y := fun Y y h => blkAt_set h
  have hfl : ∀ k ∈ fp, H.length < k ∧ k < H1.length := fun k hk => by have := hfp k hk; have := hlt k hk; omega
  by_cases c0 : k = 0
  · simp [c0]
    have hcL := hto2.2.app [some ⟨3, .wr, [encI 0, encI 9, encI 10]⟩]
    simp only [encI] at hcL
    refine stpL_runs (l1PickInt (xs := [0, 9, 10]) hcL (Sl.of (by simp [encI])) (by simp) (by simp)) ?_
    rintro _ H3 ⟨⟨y, rfl, hgy⟩, hto3⟩
    have hto3 := hto3.base
    have b33 := hto3.1.blk b3 (by simp; omega)
    have bz3 := hto3.1.blk bz2 (by simp; omega)
    have d33 := blkAt_len b33
    have dz3 := blkAt_len bz3
    have ow3 := ow2.keep hto3.1 (fun k hk hk2 => by have := hfl k hk; simp at hk2; omega)
    have hcc3 := hcc2.next hto3
    simp [b33, d33, bz3, dz3, hne3, hne4]
    refine fin _ _ _ ⟨y, b.ports⟩ fp ?_ (by simpa using dz3) ⟨a, rfl, ow3.keep (Keep.set _ _) (fun k hk hk2 => by have := hfl k hk; simp at hk2; omega)⟩ (fun k hk => (hfl k hk).1) hp1 (by simp only; omega) (hcc3.set (by omega) (by omega) _) ⟨show I64 y by simp at hgy; unfold I64; omega, hbg.2⟩
    simp
  by_cases c1 : k = 1
  · simp [c1, b3, d3]
    refine stpL_cur (l7Draw_rg hto2.2) hto2.2 (fun v H' h => h.2) ?_
    rintro _ H3 ⟨⟨y, rfl, hgy⟩, hto3⟩
    have b33 := hto3.1.blk b3 (by simp; omega)
    have bz3 := hto3.1.blk bz2 (by simp; omega)
    have d33 := blkAt_len b33
    have dz3 := blkAt_len bz3
    have ow3 := ow2.keep hto3.1 (fun k hk hk2 => by have := hfl k hk; simp at hk2; omega)
    have hcc3 := hcc2.next hto3
    obtain ⟨id, bl, rfl, rfl, hb, hbe, hbm, hpre⟩ := ow3.blk (by intro h; have := congrArg List.length h; simp at this; rw [this] at hp1; simp at hp1)
    have hidl := blkAt_len hb
    have hidf := hfl id (by simp)
    obtain ⟨tl, htl⟩ := hpre
    have hrow : bl.rows[0]? = some b.ports[0].enc := by rw [← htl, List.getElem?_append_left (by simp; omega), List.getElem?_map, List.getElem?_eq_getElem (by omega)]; rfl
    have hrl : 0 < bl.rows.length := (List.getElem?_eq_some_iff.1 hrow).1
    have hpI : (0 : Int) < b.ports.length := by omega
    have hp0 : 0 < b.ports.length := by omega
    have hsI : ∀ (y : Option Blk), blkAt (List.set H3 id y) H1.length = blkAt H3 H1.length := fun y => blkAt_set_ne (by omega)
    have hsH : ∀ (y : Option Blk), blkAt (List.set H3 id y) H.length = blkAt H3 H.length := fun y => blkAt_set_ne (by omega)
    simp [indexAddrV, elemIs, hb, hidl, hbe, hbm, hpI, hp0, hrow]
    simp only [Port.enc] at hrow
    simp [hrow, hbm, hsI, hsH, b33, d33, bz3, dz3, Port.enc]
    have os := ow3.set (row := y.enc) hb (i := 0) (by simp; omega)
    rw [hbe, hbm] at os
    refine fin _ _ _ ⟨b.id, b.ports.set 0 y⟩ [id] ?_ (by simpa using dz3) ⟨some (id, 0), by simp [Bridge.enc], by rw [List.map_set]; exact os⟩ (fun k hk => by simp at hk; omega) (by simpa using hp1) (by simp; omega) (hcc3.set (by omega) (by omega) _) ⟨hbg.1, fun p hp => (List.mem_or_eq_of_mem_set hp).elim (hbg.2 p) (fun e => e ▸ hgy)⟩
    simp
  by_cases c2 : k = 2
  · simp [c2, b3, d3]
    refine stpL_append (e := 27) (rows := b.ports.map Port.enc) (ys := [Port.z, Port.z]) (ow2.app _) (Sl.of (by simp [Port.z])) rfl rfl rfl (by simp) (by simp; omega) (by simp) rfl fun a'' H'' fp'' ho'' hk'' hf'' => ?_
    have k1 := hk''.base
    have b33 := k1.blk b3 (fun h => by have := hfl _ h; omega)
    have bz3 := k1.blk bz2 (fun h => by have := hfl _ h; omega)
    have d33 := blkAt_len b33
    have dz3 := blkAt_len bz3
    have hcc3 := hcc2.own k1 (fun i hi => by have := hfl i hi; omega) hcl
    have hf9 : ∀ k ∈ fp'', H.length < k ∧ k ≠ H1.length := fun k hk => by
      rcases hf'' k hk with h | h
      · have := hfl k h; omega
      · simp at h; omega
    simp [b33, d33, bz3, dz3, hne3, hne4]
    refine fin _ _ _ ⟨b.id, b.ports ++ [Port.zv, Port.zv]⟩ fp'' ?_ (by simpa using dz3) ⟨a'', by simp [Bridge.enc], by rw [List.map_append]; exact ho''.keep (Keep.set _ _) (fun k hk hk2 => by have := hf9 k hk; simp at hk2; omega)⟩ (fun k hk => (hf9 k hk).1) (by simp) (by simp; omega) (hcc3.set (by omega) (by omega) _) ⟨hbg.1, fun p hp => (List.mem_append.1 hp).elim (hbg.2 p) (fun h => by simp at h; subst h; exact ⟨Vec.rg0, by simp [I64], by simp [I64]⟩)⟩
    simp
  · simp [c0, c1, c2, b3, d3, bz2, dz2]
    refine fin _ _ _ b fp ?_ dz2 ⟨a, rfl, ow2⟩ (fun k hk => (hfl k hk).1) hp1 (by omega) hcc2 hbg
    simp

theorem l12Draw_rg {H : Heap} {c n : Nat} (hc : Cur H c n) : Runs env 20 [.ptr c 0 0] H fun v H' => (∃ (l : List Lf) (m : Minder) (fp : List Nat), v = .agg l ∧ IsMinder H' l m fp ∧ m.sz ≤ 100 ∧ m.rg ∧ ∀ i ∈ fp, H.length ≤ i) ∧ CurTo H H' c n := by
  have hcl := hc.lt
  refine Runs.walk ok20 Tryz.func20 rfl (by simp [Tryz.f20]) fun Q hQ => ?_
  simp only [Tryz.f20, strip, stripL, stripI, stripG, chkT, tagsB, tagsL, tagD, addT, tagA, lookN, tagOp, elmT, ty22, ty29, ty33, ty39, ty40, ty41, ty42, ty69, ty71, ty95, Nat.reduceEqDiff, if_false, reduceIte, Option.getD_some, Option.getD_none, dstAt, dstOk, Nat.reduceLT, decide_true, if_true]
  have fin : ∀ (HF : Heap) (tm : Ab.T) (x : Minder) (a : Option (Nat × Nat)) (fp : List Nat), tm 2 = .ptr H.length 0 0 → blkAt HF H.length = some ⟨35, .wr, [x.enc a]⟩ → Own HF 78 a (x.log.map In.enc) fp → x.sz ≤ 100 → x.rg → (∀ i ∈ fp, H.length ≤ i) → CurTo H HF c n → Q .ret tm HF := by
    intro HF tm x a fp t2 hb ho hs hak hf hto
    refine hQ _ _ _ (by simp) ?_
    have hres : resT env.τ tm HF (Tryz.f20.results.toList) = some [W.agg (x.enc a)] := by simp [Tryz.f20, t2, hb, Minder.enc]
    rw [hres, optK_some]
    refine ⟨?_, hto.leave hc _⟩
    have oF : IsMinder HF (x.enc a) x fp := ⟨a, rfl, ho⟩
    rcases leave_opt H HF [W.agg (x.enc a)] with e | ⟨e, hr⟩ <;> rw [e]
    · exact ⟨_, x, fp, rfl, oF, hs, hak, hf⟩
    · exact ⟨_, x, [], rfl, oF.free (by simpa using hr) H, hs, hak, by simp⟩
  have hcX := hc.app [some ⟨35, .wr, [[.b false, .i .i64 0, .i .i64 0, .sl none 0, .i .i64 0, .i .i64 0, .i .i64 0]]⟩]
  have bzX : blkAt (H ++ [some ⟨35, .wr, [[.b false, .i .i64 0, .i .i64 0, .sl none 0, .i .i64 0, .i .i64 0, .i .i64 0]]⟩]) H.length = some ⟨35, .wr, [[.b false, .i .i64 0, .i .i64 0, .sl none 0, .i .i64 0, .i .i64 0, .i .i64 0]]⟩ := by simp
  have hlX : (H ++ [some ⟨35, .wr, [[.b false, .i .i64 0, .i .i64 0, .sl none 0, .i .i64 0, .i .i64 0, .i .i64 0]]⟩] : Heap).length = H.length + 1 := by simp
  simp
  refine stpL_runs (l12DrawRight hcX) ?_
  rintro _ H1 ⟨⟨l, m, fp, rfl, ⟨a, rfl, ow⟩, mok, hfp⟩, hto1⟩
  have hms : m.log.length ≤ 60 := by simp [Minder.ok, logOk] at mok; omega
  have hmg : m.rg := by simp [Minder.ok] at mok; unfold Minder.rg I64; omega
  have bz1 := hto1.1.blk bzX (by simp; omega)
  have dz1 := blkAt_len bz1
  have hcc1 := hto1.base
  have hl1 := hto1.len
  have hlt1 := ow.lt
  rw [hlX] at hl1 hfp
  simp [Minder.enc]
  have hcM := hto1.2.app [some ⟨35, .wr, [[.b m.up, .i .i64 m.life, .i .i64 m.epoch, .sl a m.log.length, .i .i64 m.said, .i .i64 m.acked, .i .i64 m.ackLife]]⟩]
  refine stpL_runs (l1Below hcM 10) ?_
  rintro _ H2 ⟨⟨k, rfl, -⟩, hto2⟩
  have b3 : blkAt H2 H1.length = some ⟨35, .wr, [[.b m.up, .i .i64 m.life, .i .i64 m.epoch, .sl a m.log.length, .i .i64 m.said, .i .i64 m.acked, .i .i64 m.ackLife]]⟩ := hto2.1.blk (by simp) (by simp; omega)
  have bz2 := hto2.1.blk (blkAt_app bz1 _) (by simp; omega)
  have d3 := blkAt_len b3
  have dz2 := blkAt_len bz2
  have hcc2 := hcc1.next hto2.base
  have no : ∀ i ∈ fp, i ∉ [c] := fun i hi h => by have := hfp i hi; simp at h; omega
  have ow2 := (ow.app [some ⟨35, .wr, [[.b m.up, .i .i64 m.life, .i .i64 m.epoch, .sl a m.log.length, .i .i64 m.said, .i .i64 m.acked, .i .i64 m.ackLife]]⟩]).keep hto2.1 no
  have hl2 := hto2.len
  simp at hl2
  have hne3 : ∀ (Y : Heap) (y : Option Blk), blkAt (List.set Y H1.length y) H.length = blkAt Y H.length := fun Y y => blkAt_set_ne (by omega)
  have hne4 : ∀ (Y : Heap) (y : Blk), H1.length < Y.length → blkAt (List.set Y H1.length (some y)) H1.length = some y := fun Y y h => blkAt_set h
  have kp : ∀ (Y : Heap) (y z : Option Blk), Own Y 78 a (m.log.map In.enc) fp → Own ((List.set Y H1.length y).set H.length z) 78 a (m.log.map In.enc) fp := fun Y y z h =>
    (h.keep (Keep.set (id := H1.length) Y y) (fun i hi h => by have := hlt1 i hi; simp at h; omega)).keep (Keep.set (id := H.length) _ z) (fun i hi h => by have := hfp i hi; simp at h; omega)
  have kp1 : ∀ (Y : Heap) (z : Option Blk), Own Y 78 a (m.log.map In.enc) fp → Own (Y.set H.length z) 78 a (m.log.map In.enc) fp := fun Y z h =>
    h.keep (Keep.set (id := H.length) _ z) (fun i hi h => by have := hfp i hi; simp at h; omega)
  have hf' : ∀ i ∈ fp, H.length ≤ i := fun i hi => by have := hfp i hi; omega
  by_cases c0 : k = 0
  · simp [c0, b3, d3, bz2, dz2, hne3, hne4]
    refine fin _ _ ⟨!m.up, m.life, m.epoch, m.log, m.said, m.acked, m.ackLife⟩ a fp ?_ (blkAt_set (Nat.lt_of_lt_of_eq dz2 (List.length_set).symm)) (kp _ _ _ ow2) (by simp [Minder.sz]; omega) hmg hf' ((hcc2.set (by omega) (by omega) _).set (by omega) (by omega) _)
    simp
  by_cases c1 : k = 1
  · simp [c1]
    refine stpL_runs (l1Below hto2.2 9) ?_
    rintro _ H3 ⟨⟨y, rfl, hgy⟩, hto3⟩
    have b33 := hto3.1.blk b3 (by simp; omega)
    have bz3 := hto3.1.blk bz2 (by simp; omega)
    have ow3 := ow2.keep hto3.1 no
    have d33 := blkAt_len b33
    have dz3 := blkAt_len bz3
    have hcc3 := hcc2.next hto3
    simp [b33, d33, bz3, dz3, hne3, hne4]
    refine fin _ _ ⟨m.up, m.life, m.epoch, m.log, IntKind.i64.wrap (y - 1), m.acked, m.ackLife⟩ a fp ?_ (blkAt_set (Nat.lt_of_lt_of_eq dz3 (List.length_set).symm)) (kp _ _ _ ow3) (by simp [Minder.sz]; omega) ⟨hmg.1, hmg.2.1, I64_wrap _, hmg.2.2.2.1, hmg.2.2.2.2⟩ hf' ((hcc3.set (by omega) (by omega) _).set (by omega) (by omega) _)
    simp
  by_cases c2 : k = 2
  · simp [c2]
    refine stpL_runs (l1Below hto2.2 9) ?_
    rintro _ H3 ⟨⟨y, rfl, hgy⟩, hto3⟩
    have b33 := hto3.1.blk b3 (by simp; omega)
    have bz3 := hto3.1.blk bz2 (by simp; omega)
    have ow3 := ow2.keep hto3.1 no
    have d33 := blkAt_len b33
    have dz3 := blkAt_len bz3
    have hcc3 := hcc2.next hto3
    simp [b33, d33, bz3, dz3, hne3, hne4]
    refine fin _ _ ⟨m.up, m.life, m.epoch, m.log, m.said, IntKind.i64.wrap (y - 1), m.ackLife⟩ a fp ?_ (blkAt_set (Nat.lt_of_lt_of_eq dz3 (List.length_set).symm)) (kp _ _ _ ow3) (by simp [Minder.sz]; omega) ⟨hmg.1, hmg.2.1, hmg.2.2.1, I64_wrap _, hmg.2.2.2.2⟩ hf' ((hcc3.set (by omega) (by omega) _).set (by omega) (by omega) _)
    simp
  by_cases c3 : k = 3
  · simp [c3, b3, d3]
    refine stpL_cur (l8DrawBent hto2.2) hto2.2 (fun v H' h => h.2) ?_
    rintro _ H3 ⟨⟨y, rfl⟩, hto3⟩
    have b33 := hto3.1.blk b3 (by simp; omega)
    have bz3 := hto3.1.blk bz2 (by simp; omega)
    have ow3 := ow2.keep hto3.1 no
    have hcc3 := hcc2.next hto3
    have hl3 := hto3.len
    simp [In.enc]
    refine stpL_append (e := 78) (rows := m.log.map In.enc) (ys := [y.enc]) (ow3.app _) (Sl.of (by simp [In.enc])) rfl rfl rfl (by simp) (by simp; omega) (by simp) rfl fun aa C fc hoC hkC hfC => ?_
    have kC : Keep fp H3 C := hkC.base
    have hC := kC.1
    have bC := kC.blk b33 (fun h => by have := hlt1 _ h; omega)
    have bzC := kC.blk bz3 (fun h => by have := hfp _ h; omega)
    have dC := blkAt_len bC
    have dzC := blkAt_len bzC
    have hcC := hcc3.own kC (fun k hk => by have := hfp k hk; omega) hcl
    have hfc : ∀ i ∈ fc, H.length < i ∧ i ≠ H1.length := fun i hi => by
      rcases hfC i hi with h | h
      · exact ⟨by have := hfp i h; omega, by have := hlt1 i h; omega⟩
      · simp at h; omega
    simp [bC, dC, bzC, dzC, hne3, hne4]
    refine fin _ _ ⟨m.up, m.life, m.epoch, m.log ++ [y], m.said, m.acked, m.ackLife⟩ aa fc ?_ (by simp [Minder.enc]; exact blkAt_set (Nat.lt_of_lt_of_eq dzC (List.length_set).symm)) ?_ (by simp [Minder.sz]; omega) hmg (fun i hi => by have := hfc i hi; omega) ((hcC.set (by omega) (by omega) _).set (by omega) (by omega) _)
    · simp
    · simp only [List.map_append, List.map_cons, List.map_nil]
      exact (hoC.keep (Keep.set (id := H1.length) C _) (fun i hi h => by have := hfc i hi; simp at h; omega)).keep (Keep.set (id := H.length) _ _) (fun i hi h => by have := hfc i hi; simp at h; omega)
  by_cases c4 : k = 4
  · simp [c4]
    have hcL := hto2.2.app [some ⟨3, .wr, [encI (-1), encI 0, encI 1, encI 100001]⟩]
    simp only [encI] at hcL
    refine stpL_runs (l1PickInt (xs := [(-1), 0, 1, 100001]) hcL (Sl.of (by simp [encI])) (by simp) (by simp)) ?_
    rintro _ H3 ⟨⟨y, rfl, hgy⟩, hto3⟩
    have hto3 := hto3.base
    have b33 := hto3.1.blk b3 (by simp; omega)
    have bz3 := hto3.1.blk bz2 (by simp; omega)
    have ow3 := ow2.keep hto3.1 no
    have d33 := blkAt_len b33
    have dz3 := blkAt_len bz3
    have hcc3 := hcc2.next hto3
    simp [b33, d33, bz3, dz3, hne3, hne4]
    refine fin _ _ ⟨m.up, m.life, y, m.log, m.said, m.acked, m.ackLife⟩ a fp ?_ (blkAt_set (Nat.lt_of_lt_of_eq dz3 (List.length_set).symm)) (kp _ _ _ ow3) (by simp [Minder.sz]; omega) ⟨hmg.1, show I64 y by simp at hgy; unfold I64; omega, hmg.2.2.1, hmg.2.2.2.1, hmg.2.2.2.2⟩ hf' ((hcc3.set (by omega) (by omega) _).set (by omega) (by omega) _)
    simp
  simp [c0, c1, c2, c3, c4, b3, d3, bz2, dz2]
  refine fin _ _ m a fp ?_ (blkAt_set dz2) (kp1 _ _ ow2) (by simp [Minder.sz]; omega) hmg hf' (hcc2.set (by omega) (by omega) _)
  simp

theorem l13DrawReg_rg {H : Heap} {c n : Nat} (hc : Cur H c n) : Runs env 41 [.ptr c 0 0] H fun v H' => (∃ x : Reg, v = .agg x.enc ∧ I64 x.epoch ∧ I64 x.owner ∧ I64 x.pair) ∧ CurTo H H' c n := by
  have hcl := hc.lt
  refine Runs.walk ok41 Tryz.func41 rfl (by simp [Tryz.f41]) fun Q hQ => ?_
  simp only [Tryz.f41, strip, stripL, stripI, stripG, chkT, tagsB, tagsL, tagD, addT, tagA, lookN, tagOp, elmT, ty22, ty29, ty33, ty39, ty40, ty41, ty42, ty69, ty71, ty95, Nat.reduceEqDiff, if_false, reduceIte, Option.getD_some, Option.getD_none, dstAt, dstOk, Nat.reduceLT, decide_true, if_true]
  have fin : ∀ (HF : Heap) (tm : Ab.T) (x : Reg), tm 2 = .ptr (H.length) 0 0 → blkAt HF (H.length) = some ⟨38, .wr, [x.enc]⟩ → CurTo H HF c n → (I64 x.epoch ∧ I64 x.owner ∧ I64 x.pair) → Q .ret tm HF := by
    intro HF tm x t2 hb hto hg
    refine hQ _ _ _ (by simp) ?_
    have hres : resT env.τ tm HF (Tryz.f41.results.toList) = some [W.agg x.enc] := by simp [Tryz.f41, t2, hb, Reg.enc]
    rw [hres, optK_some]
    exact ⟨⟨x, rfl, hg⟩, hto.leave hc _⟩
  have hcX := hc.app [some ⟨38, .wr, [[.i .i64 0, .i .i64 0, .i .i64 0]]⟩]
  have bzX : blkAt (H ++ [some ⟨38, .wr, [[.i .i64 0, .i .i64 0, .i .i64 0]]⟩]) H.length = some ⟨38, .wr, [[.i .i64 0, .i .i64 0, .i .i64 0]]⟩ := by simp
  have hlX : (H ++ [some ⟨38, .wr, [[.i .i64 0, .i .i64 0, .i .i64 0]]⟩] : Heap).length = H.length + 1 := by simp
  simp
  refine stpL_runs (l15DrawRight hcX) ?_
  rintro _ H1 ⟨⟨l, x, fp, rfl, ox, xok, -⟩, hto1⟩
  obtain ⟨q0, q1, q2, q3, q4, f0, f1, f2, f3, f4, rfl, -⟩ := ox
  obtain ⟨r, hr⟩ : ∃ r, r = x.reg := ⟨_, rfl⟩
  have hrg : I64 r.epoch ∧ I64 r.owner ∧ I64 r.pair := by rw [hr]; simp [Box.ok, Reg.ok] at xok; unfold I64; omega
  have bz1 := hto1.1.blk bzX (by simp; omega)
  have dz1 := blkAt_len bz1
  have hcc1 := hto1.base
  have hl1 := hto1.len
  rw [hlX] at hl1
  simp [Box.enc, fieldV, env_P, Tryz.underlying44, ← hr]
  have hcM := hto1.2.app [some ⟨38, .wr, [[.i .i64 r.epoch, .i .i64 r.owner, .i .i64 r.pair]]⟩]
  refine stpL_runs (l1Below hcM 10) ?_
  rintro _ H2 ⟨⟨k, rfl, -⟩, hto2⟩
  have b3 : blkAt H2 H1.length = some ⟨38, .wr, [[.i .i64 r.epoch, .i .i64 r.owner, .i .i64 r.pair]]⟩ := hto2.1.blk (by simp) (by simp; omega)
  have bz2 := hto2.1.blk (blkAt_app bz1 _) (by simp; omega)
  have d3 := blkAt_len b3
  have dz2 := blkAt_len bz2
  have hcc2 := hcc1.next hto2.base
  have hne3 : ∀ (Y : Heap) (y : Option Blk), blkAt (List.set Y H1.length y) H.length = blkAt Y H.length := fun Y y => blkAt_set_ne (by omega)
  have hne4 : ∀ (Y : Heap) (y : Blk), H1.length < Y.length → blkAt (List.set Y H1.length (some y)) H1.length = some y := fun Y y h => blkAt_set h
  by_cases c0 : k = 0
  · simp [c0]
    have hcL := hto2.2.app [some ⟨3, .wr, [encI 0, encI 1, encI 100000, encI 100001]⟩]
    simp only [encI] at hcL
    refine stpL_runs (l1PickInt (xs := [0, 1, 100000, 100001]) hcL (Sl.of (by simp [encI])) (by simp) (by simp)) ?_
    rintro _ H3 ⟨⟨y, rfl, hgy⟩, hto3⟩
    have hto3 := hto3.base
    have b33 := hto3.1.blk b3 (by simp; omega)
    have bz3 := hto3.1.blk bz2 (by simp; omega)
    have d33 := blkAt_len b33
    have dz3 := blkAt_len bz3
    have hcc3 := hcc2.next hto3
    simp [b33, d33, bz3, dz3, hne3, hne4, Reg.enc]
    refine fin _ _ ⟨y, r.owner, r.pair⟩ ?_ (blkAt_set (Nat.lt_of_lt_of_eq dz3 (List.length_set).symm)) ((hcc3.set (by omega) (by omega) _).set (by omega) (by omega) _) ⟨show I64 y by simp at hgy; unfold I64; omega, hrg.2⟩
    simp
  by_cases c1 : k = 1
  · simp [c1]
    refine stpL_runs (l1Below hto2.2 4) ?_
    rintro _ H3 ⟨⟨y, rfl, hgy⟩, hto3⟩
    have b33 := hto3.1.blk b3 (by simp; omega)
    have bz3 := hto3.1.blk bz2 (by simp; omega)
    have d33 := blkAt_len b33
    have dz3 := blkAt_len bz3
    have hcc3 := hcc2.next hto3
    simp [b33, d33, bz3, dz3, hne3, hne4, Reg.enc]
    refine fin _ _ ⟨r.epoch, IntKind.i64.wrap (y - 1), r.pair⟩ ?_ (blkAt_set (Nat.lt_of_lt_of_eq dz3 (List.length_set).symm)) ((hcc3.set (by omega) (by omega) _).set (by omega) (by omega) _) ⟨hrg.1, I64_wrap _, hrg.2.2⟩
    simp
  by_cases c2 : k = 2
  · simp [c2]
    have hcL := hto2.2.app [some ⟨3, .wr, [encI (-1), encI 0, encI 1, encI 2]⟩]
    simp only [encI] at hcL
    refine stpL_runs (l1PickInt (xs := [(-1), 0, 1, 2]) hcL (Sl.of (by simp [encI])) (by simp) (by simp)) ?_
    rintro _ H3 ⟨⟨y, rfl, hgy⟩, hto3⟩
    have hto3 := hto3.base
    have b33 := hto3.1.blk b3 (by simp; omega)
    have bz3 := hto3.1.blk bz2 (by simp; omega)
    have d33 := blkAt_len b33
    have dz3 := blkAt_len bz3
    have hcc3 := hcc2.next hto3
    simp [b33, d33, bz3, dz3, hne3, hne4, Reg.enc]
    refine fin _ _ ⟨r.epoch, r.owner, y⟩ ?_ (blkAt_set (Nat.lt_of_lt_of_eq dz3 (List.length_set).symm)) ((hcc3.set (by omega) (by omega) _).set (by omega) (by omega) _) ⟨hrg.1, hrg.2.1, show I64 y by simp at hgy; unfold I64; omega⟩
    simp
  simp [c0, c1, c2, b3, d3, bz2, dz2]
  refine fin _ _ r ?_ (blkAt_set dz2) (hcc2.set (by omega) (by omega) _) hrg
  simp

theorem Minder.rg_of_ok {m : Minder} (h : m.ok = true) : m.rg := by
  simp [Minder.ok, logOk] at h
  unfold Minder.rg I64
  omega
theorem Box.rg_of_ok {x : Box} (h : x.ok = true) : x.rg := by
  simp only [Box.ok, Bool.and_eq_true, List.all_eq_true] at h
  obtain ⟨⟨⟨⟨⟨⟨⟨⟨-, hr⟩, -⟩, -⟩, hm⟩, -⟩, -⟩, -⟩, -⟩ := h
  simp [Reg.ok] at hr
  exact ⟨by unfold I64; omega, by unfold I64; omega, by unfold I64; omega, fun m hi => Minder.rg_of_ok (hm m hi)⟩

theorem l15Draw_rg {H : Heap} {c n : Nat} (hc : Cur H c n) : Runs env 21 [.ptr c 0 0] H fun v H' => (∃ (l : List Lf) (x : Box) (fp : List Nat), v = .agg l ∧ IsBox H' l x fp ∧ x.sz ≤ 2000 ∧ (∀ i ∈ fp, H.length ≤ i) ∧ x.rg) ∧ CurTo H H' c n := by
  have hcl := hc.lt
  refine Runs.walk ok21 Tryz.func21 rfl (by simp [Tryz.f21]) fun Q hQ => ?_
  simp only [Tryz.f21, strip, stripL, stripI, stripG, chkT, tagsB, tagsL, tagD, addT, tagA, lookN, tagOp, elmT, ty22, ty29, ty33, ty39, ty40, ty41, ty42, ty69, ty71, ty95, Nat.reduceEqDiff, if_false, reduceIte, Option.getD_some, Option.getD_none, dstAt, dstOk, Nat.reduceLT, decide_true, if_true]
  have fin : ∀ (HF Y : Heap) (tm : Ab.T) (l : List Lf) (x : Box) (fp : List Nat), HF = Y.set H.length (some ⟨44, .wr, [l]⟩) → tm 2 = .ptr H.length 0 0 → IsBox Y l x fp → x.sz ≤ 2000 → (∀ i ∈ fp, H.length < i) → H.length < Y.length → CurTo H Y c n → x.rg → Q .ret tm HF := by
    intro HF Y tm l x fp hHF t2 ho hs hf hYl hto hg
    have hb : blkAt HF H.length = some ⟨44, .wr, [l]⟩ := by rw [hHF]; exact blkAt_set hYl
    have oF : IsBox HF l x fp := by rw [hHF]; exact ho.keep (Keep.set _ _) (fun i hi h => by have := hf i hi; simp at h; omega)
    have htoF : CurTo H HF c n := by rw [hHF]; exact hto.set (by omega) (by omega) _
    refine hQ _ _ _ (by simp) ?_
    have hL := oF.len
    have hT : l.take l.length = l := List.take_length
    rw [hL] at hT
    simp [Tryz.f21, t2, hb, hL, hT]
    refine ⟨?_, htoF.leave hc _⟩
    rcases leave_opt H HF [W.agg l] with e | ⟨e, hr⟩ <;> rw [e]
    · exact ⟨x, fp, oF, hs, fun i hi => by have := hf i hi; omega, hg⟩
    · exact ⟨x, [], oF.free (by simpa using hr) H, hs, by simp, hg⟩
  obtain ⟨X, hX⟩ : ∃ X : Heap, X = H ++ [some ⟨44, .wr, [[.i .i64 0, .i .i64 0, .i .i64 0, .i .i64 0, .i .i64 0, .sl none 0, .sl none 0, .sl none 0, .sl none 0, .sl none 0]]⟩] := ⟨_, rfl⟩
  have bzX : blkAt X H.length = some ⟨44, .wr, [[.i .i64 0, .i .i64 0, .i .i64 0, .i .i64 0, .i .i64 0, .sl none 0, .sl none 0, .sl none 0, .sl none 0, .sl none 0]]⟩ := by rw [hX]; simp
  have hlX : X.length = H.length + 1 := by rw [hX]; simp
  have hcX : CurTo H X c n := by rw [hX]; exact (CurTo.refl hc).app _
  simp
  rw [← hX]
  clear hX
  refine stpL_runs (l15DrawRight hcX.2) ?_
  rintro _ H1 ⟨⟨l, x, fp, rfl, ox, hx, hfp⟩, hto1⟩
  have hxg : x.rg := Box.rg_of_ok hx
  have hL := ox.len
  have hT : l.take l.length = l := List.take_length
  rw [hL] at hT
  simp [hL, hT]
  obtain ⟨Y, hY⟩ : ∃ Y : Heap, Y = H1 ++ [some ⟨44, .wr, [l]⟩] := ⟨_, rfl⟩
  have b3Y : blkAt Y H1.length = some ⟨44, .wr, [l]⟩ := by rw [hY]; simp
  have hlt1 := ox.lt
  have oxY : IsBox Y l x fp := by rw [hY]; exact ox.app _
  have hcY : CurTo H Y c n := by rw [hY]; exact (hcX.next hto1).app _
  have bzY := blkAt_app (hto1.1.blk bzX (by simp; omega)) [some ⟨44, .wr, [l]⟩]
  rw [← hY] at bzY
  have hl1 := hto1.len
  have hlY : Y.length = H1.length + 1 := by rw [hY]; simp
  rw [← hY]
  obtain ⟨K, hK⟩ : ∃ K, K = H1.length := ⟨_, rfl⟩
  rw [← hK] at b3Y hlt1 hlY ⊢
  clear hY ox
  refine stpL_runs (l1Below hcY.2 16) ?_
  rintro _ H2 ⟨⟨k, rfl, -⟩, hto2⟩
  have hcc2 := hcY.next hto2
  have b3 := hto2.1.blk b3Y (by simp; omega)
  have bz2 := hto2.1.blk bzY (by simp; omega)
  have no : ∀ i ∈ fp, i ∉ [c] := fun i hi h => by have := hfp i hi; simp at h; omega
  have ox2 := oxY.keep hto2.1 no
  have hKfp : K ∉ fp := fun h => by have := hlt1 _ h; omega
  have hcfp : c ∉ fp := fun h => no c h (by simp)
  have d3 := blkAt_len b3
  have dz2 := blkAt_len bz2
  have hS := Box.smallOf hx
  have hsz := hS.1.sz
  have hlo : ∀ i ∈ fp, H.length < i := fun i hi => by have := hfp i hi; omega
  have hne3 : ∀ (Y : Heap) (y : Option Blk), blkAt (List.set Y K y) H.length = blkAt Y H.length := fun Y y => blkAt_set_ne (by omega)
  have hne4 : ∀ (Y : Heap) (y : Blk), K < Y.length → blkAt (List.set Y K (some y)) K = some y := fun Y y h => blkAt_set h
  have ox20 := ox2
  obtain ⟨q0, q1, q2, q3, q4, f0, f1, f2, f3, f4, hle, i0, ⟨a1, rfl, o1⟩, i2, ⟨a3, rfl, o3⟩, i4, hfe, hnd⟩ := ox2
  have no' := no
  rw [hfe] at no'
  have cp : ∀ Y, Keep [c] H2 Y → IsMinderS Y q0 x.two f0 ∧ Own Y 82 a1 (x.net.map Wire.enc) f1 ∧ IsBoolS Y q2 x.gates f2 ∧ Own Y 78 a3 (x.line.map In.enc) f3 ∧ IsOutS Y q4 x.said f4 := fun Y hY =>
    ⟨i0.keep okMinder hY (fun i hi => no' i (by simp [hi])), o1.keep hY (fun i hi => no' i (by simp [hi])), i2.keep hY (fun i hi => no' i (by simp [hi])), o3.keep hY (fun i hi => no' i (by simp [hi])), i4.keep hY (fun i hi => no' i (by simp [hi]))⟩
  have hg1 : 0 < x.gates.length := by have := Box.ok_ids hx; omega
  have hloF : ∀ (fp' : List Nat) (m : Nat), H.length < m → (∀ i ∈ fp', i ∈ fp ∨ m ≤ i) → ∀ i ∈ fp', H.length < i := fun fp' m hm h i hi => by
    rcases h i hi with h | h
    · exact hlo i h
    · omega
  have b3l := b3
  rw [hle] at b3l
  simp only [Box.enc] at b3l
  by_cases c0 : k = 0
  · simp [c0, b3l, d3]
    refine stpL_cur (l1Below hto2.2 2) hto2.2 (fun v H' h => h.2) ?_
    rintro _ H3 ⟨⟨k2, rfl, hk0, hk1, -⟩, hto3⟩
    have hk2 := hk1 (by omega)
    obtain ⟨k2, rfl⟩ : ∃ k' : Nat, k2 = (k' : Int) := ⟨k2.toNat, by omega⟩
    have hs : k2 < x.two.length := by rw [hS.1.two]; omega
    have ox3 := (oxY.keep hto2.1 no).keep hto3.1 no
    have b33 := hto3.1.blk b3 (by simp; omega)
    simp
    refine stpL_cur (l12Draw_rg hto3.2) hto3.2 (fun v H' h => h.2) ?_
    rintro _ H4 ⟨⟨l5, m5, f5, rfl, o5, hs5, hmg5, hf5⟩, hto4⟩
    obtain ⟨bid, blo, r1, r2, r3, r4, row, fp', hle2, hbi, hbne, hbb, hbe, hbm, hrow, hrl, z1, z2, z3⟩ := boxPut b33 ox3 hKfp hto4.1 hcfp (by omega) hs o5 hf5
    have hq0 : q0 = .sl (some (bid, 0)) x.two.length := by
      rw [hle2] at hle
      simp only [Box.enc, List.cons.injEq, and_true, true_and] at hle
      exact hle.1.symm
    subst hq0
    have nbid := blkAt_len hbb
    have hDr : row.drop 7 = [] := by rw [← hrl]; exact List.drop_length
    have hLm := o5.len
    have hTm : l5.take l5.length = l5 := List.take_length
    rw [hLm] at hTm
    have hsI : (k2 : Int) < x.two.length := by omega
    have hcc4 := (hcc2.next hto3).next hto4
    have bz4 := hto4.1.blk (hto3.1.blk bz2 (by simp; omega)) (by simp; omega)
    have hbidlo := hlo _ hbi
    have hzb : blkAt (H4.set bid (some ⟨35, .wr, blo.rows.set k2 l5⟩)) H.length = _ := (blkAt_set_ne (by omega)).trans bz4
    have hzl := blkAt_len bz4
    simp [indexAddrV, elemIs, hbb, nbid, hbe, hbm, hs, hsI, hrow, hrl, hDr, hLm, hTm, z1, hL, hT, hzb, hzl]
    refine fin _ _ _ _ _ fp' rfl ?_ z2 (setTwo_sz hx hs5) (hloF _ H3.length (by have := hto3.len; have := hto2.len; omega) z3) (by simpa using hzl) (hcc4.set (by omega) (by omega) _) ⟨hxg.1, hxg.2.1, hxg.2.2.1, fun m hm => (List.mem_or_eq_of_mem_set hm).elim (hxg.2.2.2 m) (fun e => e ▸ hmg5)⟩
    simp
  by_cases c1 : k = 1
  · simp [c1]
    refine stpL_runs (l13DrawReg_rg hto2.2) ?_
    rintro _ H3 ⟨⟨r, rfl, hrg⟩, hto3⟩
    have ox3 := ox20.keep hto3.1 no
    rw [hle] at ox3
    have b33 := hto3.1.blk b3l (by simp; omega)
    have bz3 := hto3.1.blk bz2 (by simp; omega)
    have d33 := blkAt_len b33
    have dz3 := blkAt_len bz3
    have hcc3 := hcc2.next hto3
    obtain ⟨l', fp', z1, z2, z3, z4, z5⟩ := boxReg d33 ox3 hKfp (Keep.refl _ _) r
    have e := (blkAt_set d33).symm.trans z1
    simp at e
    subst e
    simp [b33, d33, bz3, dz3, hne3, hne4, Reg.enc]
    refine fin _ _ _ _ _ fp' rfl ?_ z2 (by have : (setReg x r).sz = x.sz := rfl; omega) (hloF _ H3.length (by omega) z5) (by simpa using dz3) (hcc3.set (by omega) (by omega) _) ⟨hrg.1, hrg.2.1, hrg.2.2, hxg.2.2.2⟩
    simp
  by_cases c5 : k = 5
  · simp [c5]
    refine stpL_runs (l1Below hto2.2 6) ?_
    rintro _ H3 ⟨⟨r, rfl, -⟩, hto3⟩
    have ox3 := ox20.keep hto3.1 no
    rw [hle] at ox3
    have b33 := hto3.1.blk b3l (by simp; omega)
    have bz3 := hto3.1.blk bz2 (by simp; omega)
    have d33 := blkAt_len b33
    have dz3 := blkAt_len bz3
    have hcc3 := hcc2.next hto3
    obtain ⟨l', fp', z1, z2, z3, z4, z5⟩ := boxPorts d33 ox3 hKfp (Keep.refl _ _) r
    have e := (blkAt_set d33).symm.trans z1
    simp at e
    subst e
    simp [b33, d33, bz3, dz3, hne3, hne4]
    refine fin _ _ _ _ _ fp' rfl ?_ z2 (by have : (setPorts x r).sz = x.sz := rfl; omega) (hloF _ H3.length (by omega) z5) (by simpa using dz3) (hcc3.set (by omega) (by omega) _) hxg
    simp
  by_cases c4 : k = 4
  · obtain ⟨bid, blo, r0, r1, r3, r4, hle2, hbi, hbb, hbe, hbm, hrow, z2⟩ := boxGate ox20 hg1 (!x.gates[0])
    have hq2 : q2 = .sl (some (bid, 0)) x.gates.length := by
      rw [hle2] at hle
      simp only [Box.enc, List.cons.injEq, and_true, true_and] at hle
      exact hle.2.2.1.symm
    subst hq2
    have nbid := blkAt_len hbb
    have hbK : bid ≠ K := fun h => hKfp (h ▸ hbi)
    have hbH : bid ≠ H.length := fun h => by have := hlo _ hbi; omega
    have hbh2 : H.length < bid := hlo _ hbi
    have hgI : (0 : Int) < x.gates.length := by omega
    have hzb : ∀ y, blkAt (H2.set bid y) H.length = _ := fun y => (blkAt_set_ne hbH).trans bz2
    have hzk : ∀ y, blkAt (H2.set bid y) K = _ := fun y => (blkAt_set_ne hbK).trans b3l
    simp [c4, b3l, d3, indexAddrV, elemIs, hbb, nbid, hbe, hbm, hgI, hg1, hrow, hzb, hzk, dz2]
    have hgz : (setGate x (!x.gates[0])).sz = x.sz := by simp [setGate, Box.sz]
    refine fin _ _ _ _ _ fp ?_ ?_ z2 (by omega) hlo (by simpa using dz2) (hcc2.set (by omega) (by omega) _) hxg
    · rw [hle]; rfl
    · simp
  by_cases c2 : k = 2
  · simp [c2, b3l, d3]
    refine stpL_cur (l1Below hto2.2 3) hto2.2 (fun v H' h => h.2) ?_
    rintro _ H3 ⟨⟨k2, rfl, -⟩, hto3⟩
    simp
    refine stpL_cur (l1Below hto3.2 3) hto3.2 (fun v H' h => h.2) ?_
    rintro _ H4 ⟨⟨k3, rfl, -⟩, hto4⟩
    simp
    refine stpL_cur (l8DrawBent hto4.2) hto4.2 (fun v H' h => h.2) ?_
    rintro _ H5 ⟨⟨y, rfl⟩, hto5⟩
    have hto25 := (hto3.next hto4).next hto5
    have kY5 := hto25.1
    have hto5c := hto25.1
    have hcc5 := hcc2.next hto25
    have hszA : (setNet x (x.net ++ [⟨k2, false, 1, k3, y⟩])).sz = x.sz + 1 := by simp [setNet, setLine, Box.sz]; omega
    obtain ⟨j0, j1, j2, j3, j4⟩ := cp H5 kY5
    have b35 := hto5c.blk b3l (by simp; omega)
    have bz5 := hto5c.blk bz2 (by simp; omega)
    have d35 := blkAt_len b35
    have hl5 := kY5.1
    simp [Wire.enc, In.enc]
    refine stpL_append (e := 82) (rows := x.net.map Wire.enc) (ys := [(Wire.mk k2 false 1 k3 y).enc]) (j1.app _) (Sl.of (by simp [Wire.enc, In.enc])) rfl rfl rfl (by simp) (by simp; omega) (by simp) rfl fun aa C fc hoC hkC hfC => ?_
    have kC : Keep f1 H5 C := hkC.base
    have hC := kC.1
    have hfl : ∀ i ∈ f1, H.length < i ∧ i ≠ K := fun i hi => ⟨hlo i (by rw [hfe]; simp [hi]), fun h => hKfp (by rw [hfe, ← h]; simp [hi])⟩
    have hfc : ∀ i ∈ fc, i ∈ f1 ∨ H5.length ≤ i := fun i hi => by
      rcases hfC i hi with h | h
      · exact .inl h
      · simp at h; exact .inr (by omega)
    have bC := kC.blk b35 (fun h => (hfl _ h).2 rfl)
    have bzC := kC.blk bz5 (fun h => by have := (hfl _ h).1; omega)
    have dC := blkAt_len bC
    have dzC := blkAt_len bzC
    have hcC := hcc5.own kC (fun i hi => by have := (hfl i hi).1; omega) hcl
    have hKf := hKfp
    rw [hfe] at hKf
    obtain ⟨l', fp', z1, z2, z3, z4, z5⟩ := boxNet (x := x) (q1' := .sl aa (x.net.length + 1)) (ws := x.net ++ [⟨k2, false, 1, k3, y⟩]) d35 hKf j0 j2 ⟨a3, rfl, j3⟩ j4 (hfe ▸ hnd) kC ⟨aa, by simp, by simpa using hoC⟩ hfc
    have e := (blkAt_set dC).symm.trans z1
    simp at e
    subst e
    simp [bC, dC, bzC, dzC, hne3, hne4]
    refine fin _ _ _ _ _ fp' rfl ?_ z2 (by rw [hszA]; omega) (hloF _ H5.length (by omega) (by rw [hfe]; exact z5)) (by simpa using dzC) (hcC.set (by omega) (by omega) _) hxg
    simp
  by_cases c3 : k = 3
  · simp [c3, b3l, d3]
    refine stpL_cur (l8DrawBent hto2.2) hto2.2 (fun v H' h => h.2) ?_
    rintro _ H5 ⟨⟨y, rfl⟩, hto5⟩
    have kY5 := hto5.1
    have hto5c := hto5.1
    have hcc5 := hcc2.next hto5
    have hszA : (setLine x (x.line ++ [y])).sz = x.sz + 1 := by simp [setNet, setLine, Box.sz]; omega
    obtain ⟨j0, j1, j2, j3, j4⟩ := cp H5 kY5
    have b35 := hto5c.blk b3l (by simp; omega)
    have bz5 := hto5c.blk bz2 (by simp; omega)
    have d35 := blkAt_len b35
    have hl5 := kY5.1
    simp [In.enc]
    refine stpL_append (e := 78) (rows := x.line.map In.enc) (ys := [y.enc]) (j3.app _) (Sl.of (by simp [In.enc])) rfl rfl rfl (by simp) (by simp; omega) (by simp) rfl fun aa C fc hoC hkC hfC => ?_
    have kC : Keep f3 H5 C := hkC.base
    have hC := kC.1
    have hfl : ∀ i ∈ f3, H.length < i ∧ i ≠ K := fun i hi => ⟨hlo i (by rw [hfe]; simp [hi]), fun h => hKfp (by rw [hfe, ← h]; simp [hi])⟩
    have hfc : ∀ i ∈ fc, i ∈ f3 ∨ H5.length ≤ i := fun i hi => by
      rcases hfC i hi with h | h
      · exact .inl h
      · simp at h; exact .inr (by omega)
    have bC := kC.blk b35 (fun h => (hfl _ h).2 rfl)
    have bzC := kC.blk bz5 (fun h => by have := (hfl _ h).1; omega)
    have dC := blkAt_len bC
    have dzC := blkAt_len bzC
    have hcC := hcc5.own kC (fun i hi => by have := (hfl i hi).1; omega) hcl
    have hKf := hKfp
    rw [hfe] at hKf
    obtain ⟨l', fp', z1, z2, z3, z4, z5⟩ := boxLine (x := x) (q3' := .sl aa (x.line.length + 1)) (ls := x.line ++ [y]) d35 hKf j0 ⟨a1, rfl, j1⟩ j2 j4 (hfe ▸ hnd) kC ⟨aa, by simp, by simpa using hoC⟩ hfc
    have e := (blkAt_set dC).symm.trans z1
    simp at e
    subst e
    simp [bC, dC, bzC, dzC, hne3, hne4]
    refine fin _ _ _ _ _ fp' rfl ?_ z2 (by rw [hszA]; omega) (hloF _ H5.length (by omega) (by rw [hfe]; exact z5)) (by simpa using dzC) (hcC.set (by omega) (by omega) _) hxg
    simp
  simp [c0, c1, c2, c3, c4, c5, b3, d3, hL, hT, bz2, dz2]
  refine fin _ _ _ _ _ fp rfl ?_ ox20 (by omega) hlo dz2 hcc2 hxg
  simp

theorem drawPortText {H : Heap} {a : Option (Nat × Nat)} {bs : List Int} (hs : Sl H 5 a (bs.map encU)) (hn : bs.length ≤ 1048576) : Runs env 5 [.w (.lf (.sl a bs.length))] H fun v H' => (∃ m : Port, v = .agg m.enc ∧ m.rg) ∧ Keep [] H H' := by
  refine Runs.walk ok5 Tryz.func5 rfl (by simp [Tryz.f5]) fun Q hQ => ?_
  simp only [Tryz.f5, strip, stripL, stripI, stripG, chkT, tagsB, tagsL, tagD, addT, tagA, lookN, tagOp, elmT, ty22, ty29, ty33, ty39, ty40, ty41, ty42, ty69, ty71, ty95, Nat.reduceEqDiff, if_false, reduceIte, Option.getD_some, Option.getD_none, dstAt, dstOk, Nat.reduceLT, decide_true, if_true]
  obtain ⟨X0, hX0⟩ : ∃ X0 : Heap, X0 = H ++ [some ⟨27, .wr, [[.b false, .b false, .i .i64 0, .i .i64 0, .i .i64 0, .i .i64 0, .i .i64 0, .i .i64 0, .i .i64 0, .i .i64 0, .b false]]⟩] := ⟨_, rfl⟩
  have bz0 : blkAt X0 H.length = some ⟨27, .wr, [[.b false, .b false, .i .i64 0, .i .i64 0, .i .i64 0, .i .i64 0, .i .i64 0, .i .i64 0, .i .i64 0, .i .i64 0, .b false]]⟩ := by rw [hX0]; simp
  have k0 : Keep [] H X0 := by rw [hX0]; exact Keep.app _ _ _
  have hl0 : X0.length = H.length + 1 := by rw [hX0]; simp
  have hs0 : Sl X0 5 a (bs.map encU) := by rw [hX0]; exact hs.app _
  simp
  rw [← hX0]
  refine stpL_runs (l1New hs0 hn) ?_
  rintro _ X ⟨c, rfl, hc, hcl, hk⟩
  have bz := hk.blk bz0 (by simp)
  simp
  refine stpL_runs (l7Draw_rg hc) ?_
  rintro _ Y ⟨⟨m, rfl, hmg⟩, hto⟩
  have bz2 := hto.1.blk bz (fun h => by simp at h; omega)
  have hY := blkAt_len bz2
  have hX := blkAt_len bz
  simp [bz2, hY, Port.enc, -set_lt]
  refine hQ _ _ _ (by simp) ?_
  obtain ⟨HF, hHF⟩ : ∃ HF : Heap, HF = Y.set H.length (some ⟨27, .wr, [m.enc]⟩) := ⟨_, rfl⟩
  simp only [Port.enc] at hHF
  rw [← hHF]
  have b2 : blkAt HF H.length = some ⟨27, .wr, [m.enc]⟩ := by rw [hHF]; exact blkAt_set hY
  have kF : Keep [H.length] Y HF := by rw [hHF]; exact Keep.set _ _
  have kA : Keep [] H HF := ((k0.next hk (by simp)).next hto.1 (by simp; omega)).next kF (by simp)
  simp [Tryz.f5, b2, Port.enc]
  rcases leave_opt H HF [W.agg m.enc] with e | ⟨e, hr⟩ <;> simp only [Port.enc] at e <;> rw [e]
  · exact ⟨⟨m, by simp [Port.enc], hmg⟩, kA⟩
  · exact ⟨⟨m, by simp [Port.enc], hmg⟩, Keep.refl _ _⟩

theorem drawBridgeText {H : Heap} {a : Option (Nat × Nat)} {bs : List Int} (hs : Sl H 5 a (bs.map encU)) (hn : bs.length ≤ 1048576) : Runs env 6 [.w (.lf (.sl a bs.length))] H fun v H' => (∃ (l : List Lf) (m : Bridge), v = .agg l ∧ RdBridge H' l m ∧ m.ports.length ≤ 6 ∧ m.rg) ∧ Keep [] H H' := by
  refine Runs.walk ok6 Tryz.func6 rfl (by simp [Tryz.f6]) fun Q hQ => ?_
  simp only [Tryz.f6, strip, stripL, stripI, stripG, chkT, tagsB, tagsL, tagD, addT, tagA, lookN, tagOp, elmT, ty22, ty29, ty33, ty39, ty40, ty41, ty42, ty69, ty71, ty95, Nat.reduceEqDiff, if_false, reduceIte, Option.getD_some, Option.getD_none, dstAt, dstOk, Nat.reduceLT, decide_true, if_true]
  obtain ⟨X0, hX0⟩ : ∃ X0 : Heap, X0 = H ++ [some ⟨31, .wr, [[.i .i64 0, .sl none 0]]⟩] := ⟨_, rfl⟩
  have bz0 : blkAt X0 H.length = some ⟨31, .wr, [[.i .i64 0, .sl none 0]]⟩ := by rw [hX0]; simp
  have k0 : Keep [] H X0 := by rw [hX0]; exact Keep.app _ _ _
  have hl0 : X0.length = H.length + 1 := by rw [hX0]; simp
  have hs0 : Sl X0 5 a (bs.map encU) := by rw [hX0]; exact hs.app _
  simp
  rw [← hX0]
  refine stpL_runs (l1New hs0 hn) ?_
  rintro _ X ⟨c, rfl, hc, hcl, hk⟩
  have bz := hk.blk bz0 (by simp)
  simp
  refine stpL_runs (l8Draw_rg hc) ?_
  rintro _ Y ⟨⟨l, m, fp, rfl, om, hm1, hm6, hfp, hmg⟩, hto⟩
  have bz2 := hto.1.blk bz (fun h => by simp at h; omega)
  have hY := blkAt_len bz2
  have hX := blkAt_len bz
  have hL := om.len
  have hT : l.take l.length = l := List.take_length
  rw [hL] at hT
  simp [bz2, hY, hL, hT, -set_lt]
  refine hQ _ _ _ (by simp) ?_
  obtain ⟨HF, hHF⟩ : ∃ HF : Heap, HF = Y.set H.length (some ⟨31, .wr, [l]⟩) := ⟨_, rfl⟩
  rw [← hHF]
  have b2 : blkAt HF H.length = some ⟨31, .wr, [l]⟩ := by rw [hHF]; exact blkAt_set hY
  have kF : Keep [H.length] Y HF := by rw [hHF]; exact Keep.set _ _
  have kA : Keep [] H HF := ((k0.next hk (by simp)).next hto.1 (by simp; omega)).next kF (by simp)
  have oF := om.keep kF (fun i hi h => by have := hfp i hi; simp at h; omega)
  simp [Tryz.f6, b2, hL, hT]
  rcases leave_opt H HF [W.agg l] with e | ⟨e, hr⟩ <;> rw [e]
  · exact ⟨⟨m, oF.rd, hm6, hmg⟩, kA⟩
  · exact ⟨⟨m, (oF.free (by simpa using hr) H).rd, hm6, hmg⟩, Keep.refl _ _⟩

theorem drawMinderText {H : Heap} {a : Option (Nat × Nat)} {bs : List Int} (hs : Sl H 5 a (bs.map encU)) (hn : bs.length ≤ 1048576) : Runs env 7 [.w (.lf (.sl a bs.length))] H fun v H' => (∃ (l : List Lf) (m : Minder), v = .agg l ∧ RdMinder H' l m ∧ m.sz ≤ 100 ∧ m.rg) ∧ Keep [] H H' := by
  refine Runs.walk ok7 Tryz.func7 rfl (by simp [Tryz.f7]) fun Q hQ => ?_
  simp only [Tryz.f7, strip, stripL, stripI, stripG, chkT, tagsB, tagsL, tagD, addT, tagA, lookN, tagOp, elmT, ty22, ty29, ty33, ty39, ty40, ty41, ty42, ty69, ty71, ty95, Nat.reduceEqDiff, if_false, reduceIte, Option.getD_some, Option.getD_none, dstAt, dstOk, Nat.reduceLT, decide_true, if_true]
  obtain ⟨X0, hX0⟩ : ∃ X0 : Heap, X0 = H ++ [some ⟨35, .wr, [[.b false, .i .i64 0, .i .i64 0, .sl none 0, .i .i64 0, .i .i64 0, .i .i64 0]]⟩] := ⟨_, rfl⟩
  have bz0 : blkAt X0 H.length = some ⟨35, .wr, [[.b false, .i .i64 0, .i .i64 0, .sl none 0, .i .i64 0, .i .i64 0, .i .i64 0]]⟩ := by rw [hX0]; simp
  have k0 : Keep [] H X0 := by rw [hX0]; exact Keep.app _ _ _
  have hl0 : X0.length = H.length + 1 := by rw [hX0]; simp
  have hs0 : Sl X0 5 a (bs.map encU) := by rw [hX0]; exact hs.app _
  simp
  rw [← hX0]
  refine stpL_runs (l1New hs0 hn) ?_
  rintro _ X ⟨c, rfl, hc, hcl, hk⟩
  have bz := hk.blk bz0 (by simp)
  simp
  refine stpL_runs (l12Draw_rg hc) ?_
  rintro _ Y ⟨⟨l, m, fp, rfl, om, hms, hmg, hfp⟩, hto⟩
  have bz2 := hto.1.blk bz (fun h => by simp at h; omega)
  have hY := blkAt_len bz2
  have hX := blkAt_len bz
  have hL := om.len
  have hT : l.take l.length = l := List.take_length
  rw [hL] at hT
  simp [bz2, hY, hL, hT, -set_lt]
  refine hQ _ _ _ (by simp) ?_
  obtain ⟨HF, hHF⟩ : ∃ HF : Heap, HF = Y.set H.length (some ⟨35, .wr, [l]⟩) := ⟨_, rfl⟩
  rw [← hHF]
  have b2 : blkAt HF H.length = some ⟨35, .wr, [l]⟩ := by rw [hHF]; exact blkAt_set hY
  have kF : Keep [H.length] Y HF := by rw [hHF]; exact Keep.set _ _
  have kA : Keep [] H HF := ((k0.next hk (by simp)).next hto.1 (by simp; omega)).next kF (by simp)
  have oF := om.keep kF (fun i hi h => by have := hfp i hi; simp at h; omega)
  simp [Tryz.f7, b2, hL, hT]
  rcases leave_opt H HF [W.agg l] with e | ⟨e, hr⟩ <;> rw [e]
  · exact ⟨⟨m, oF.rd, hms, hmg⟩, kA⟩
  · exact ⟨⟨m, (oF.free (by simpa using hr) H).rd, hms, hmg⟩, Keep.refl _ _⟩

theorem drawBoxText {H : Heap} {a : Option (Nat × Nat)} {bs : List Int} (hs : Sl H 5 a (bs.map encU)) (hn : bs.length ≤ 1048576) : Runs env 8 [.w (.lf (.sl a bs.length))] H fun v H' => (∃ (l : List Lf) (m : Box), v = .agg l ∧ RdBox H' l m ∧ m.sz ≤ 2000 ∧ m.rg) ∧ Keep [] H H' := by
  refine Runs.walk ok8 Tryz.func8 rfl (by simp [Tryz.f8]) fun Q hQ => ?_
  simp only [Tryz.f8, strip, stripL, stripI, stripG, chkT, tagsB, tagsL, tagD, addT, tagA, lookN, tagOp, elmT, ty22, ty29, ty33, ty39, ty40, ty41, ty42, ty69, ty71, ty95, Nat.reduceEqDiff, if_false, reduceIte, Option.getD_some, Option.getD_none, dstAt, dstOk, Nat.reduceLT, decide_true, if_true]
  obtain ⟨X0, hX0⟩ : ∃ X0 : Heap, X0 = H ++ [some ⟨44, .wr, [[.i .i64 0, .i .i64 0, .i .i64 0, .i .i64 0, .i .i64 0, .sl none 0, .sl none 0, .sl none 0, .sl none 0, .sl none 0]]⟩] := ⟨_, rfl⟩
  have bz0 : blkAt X0 H.length = some ⟨44, .wr, [[.i .i64 0, .i .i64 0, .i .i64 0, .i .i64 0, .i .i64 0, .sl none 0, .sl none 0, .sl none 0, .sl none 0, .sl none 0]]⟩ := by rw [hX0]; simp
  have k0 : Keep [] H X0 := by rw [hX0]; exact Keep.app _ _ _
  have hl0 : X0.length = H.length + 1 := by rw [hX0]; simp
  have hs0 : Sl X0 5 a (bs.map encU) := by rw [hX0]; exact hs.app _
  simp
  rw [← hX0]
  refine stpL_runs (l1New hs0 hn) ?_
  rintro _ X ⟨c, rfl, hc, hcl, hk⟩
  have bz := hk.blk bz0 (by simp)
  simp
  refine stpL_runs (l15Draw_rg hc) ?_
  rintro _ Y ⟨⟨l, m, fp, rfl, om, hms, hfp, hmg⟩, hto⟩
  have bz2 := hto.1.blk bz (fun h => by simp at h; omega)
  have hY := blkAt_len bz2
  have hX := blkAt_len bz
  have hL := om.len
  have hT : l.take l.length = l := List.take_length
  rw [hL] at hT
  simp [bz2, hY, hL, hT, -set_lt]
  refine hQ _ _ _ (by simp) ?_
  obtain ⟨HF, hHF⟩ : ∃ HF : Heap, HF = Y.set H.length (some ⟨44, .wr, [l]⟩) := ⟨_, rfl⟩
  rw [← hHF]
  have b2 : blkAt HF H.length = some ⟨44, .wr, [l]⟩ := by rw [hHF]; exact blkAt_set hY
  have kF : Keep [H.length] Y HF := by rw [hHF]; exact Keep.set _ _
  have kA : Keep [] H HF := ((k0.next hk (by simp)).next hto.1 (by simp; omega)).next kF (by simp)
  have oF := om.keep kF (fun i hi h => by have := hfp i hi; simp at h; omega)
  simp [Tryz.f8, b2, hL, hT]
  rcases leave_opt H HF [W.agg l] with e | ⟨e, hr⟩ <;> rw [e]
  · exact ⟨⟨m, oF.rd, hms, hmg⟩, kA⟩
  · exact ⟨⟨m, (oF.free (by simpa using hr) H).rd, hms, hmg⟩, Keep.refl _ _⟩

theorem indexLast {c : List UInt8} : indexV env.τ 9 (.str (BA (c ++ [10]))) (.int (c.length : Int)) = some (.w (.lf (.i .u8 10))) := by
  have e : (BA (c ++ [10]))[c.length]'(by simp) = (10 : UInt8) := by
    show (c ++ [10]).toArray[c.length]'(by simp) = 10
    simp
  simp [indexV, e]
theorem lenStr {H : Heap} {c : List UInt8} : builtinV env.τ H .len [9] [.str (BA c)] = some (.int (c.length : Int), H) := by
  simp [builtinV, pureB, lenV]
theorem boxT_last {x : Box} (h : x.rg) (hn : x.sz ≤ 1048576) : ∃ c : List UInt8, boxT x = c ++ [10] ∧ c.length ≤ 300000000 := by
  refine ⟨boxC x x.gates.length, rfl, ?_⟩
  have h1 := boxC_len h hn x.gates.length
  have h2 : x.gates.length ≤ 1048576 := by unfold Box.sz at hn; omega
  omega
theorem shownLaw {H : Heap} {a : Option (Nat × Nat)} {bs : List Int} (hs : Sl H 5 a (bs.map encU)) : Runs env 3 [.w (.lf (.sl a bs.length))] H fun v _ => v = .bool true := by
  have eb := fun (H : Heap) => bigL (H := H) (a := a) (n := bs.length)
  refine Runs.walk ok3 Tryz.func3 rfl (by simp [Tryz.f3]) fun Q hQ => ?_
  simp only [Tryz.f3, strip, stripL, stripI, stripG, chkT, tagsB, tagsL, tagD, addT, tagA, lookN, tagOp, elmT, ty22, ty29, ty33, ty39, ty40, ty41, ty42, ty69, ty71, ty95, Nat.reduceEqDiff, if_false, reduceIte, Option.getD_some, Option.getD_none, dstAt, dstOk, Nat.reduceLT, decide_true, if_true]
  simp [eb]
  refine selS_intro (fun hb => ?_) (fun hb => ?_)
  · simp
    refine hQ _ _ _ (by simp) ?_
    simp [Tryz.f3]
  simp at hb
  have hn : bs.length ≤ 1048576 := by omega
  simp
  refine stpL_runs (drawPortText hs hn) ?_
  rintro _ X1 ⟨⟨p, rfl, hpg⟩, k1⟩
  simp
  refine stpL_runs (drawBridgeText (hs.keep k1 (by simp)) hn) ?_
  rintro _ X2 ⟨⟨lb, b, rfl, rb, hb6, hbg⟩, k2⟩
  simp
  refine stpL_runs (drawMinderText ((hs.keep k1 (by simp)).keep k2 (by simp)) hn) ?_
  rintro _ X3 ⟨⟨lm, m, rfl, rm, hms, hmg⟩, k3⟩
  simp
  refine stpL_runs (drawBoxText (((hs.keep k1 (by simp)).keep k2 (by simp)).keep k3 (by simp)) hn) ?_
  rintro _ X4 ⟨⟨lx, x, rfl, rx, hxs, hxg⟩, k4⟩
  have rb4 := (rb.base k3).base k4
  have rm4 := rm.base k4
  have hLb := rb.len
  have hTb : lb.take lb.length = lb := List.take_length
  rw [hLb] at hTb
  have hLm := rm.len
  have hTm : lm.take lm.length = lm := List.take_length
  rw [hLm] at hTm
  have hLx := rx.len
  have hTx : lx.take lx.length = lx := List.take_length
  rw [hLx] at hTx
  simp [hLb, hTb, hLm, hTm, hLx, hTx]
  obtain ⟨Y, hY⟩ : ∃ Y : Heap, Y = X4 ++ [some ⟨27, .wr, [p.enc]⟩, some ⟨31, .wr, [lb]⟩, some ⟨35, .wr, [lm]⟩, some ⟨44, .wr, [lx]⟩] := ⟨_, rfl⟩
  rw [← hY]
  have b0 : blkAt Y X4.length = some ⟨27, .wr, [p.enc]⟩ := by rw [hY]; simp
  have b1 : blkAt Y (X4.length + 1) = some ⟨31, .wr, [lb]⟩ := by rw [hY]; simp
  have b2 : blkAt Y (X4.length + 2) = some ⟨35, .wr, [lm]⟩ := by rw [hY]; simp
  have b3 : blkAt Y (X4.length + 3) = some ⟨44, .wr, [lx]⟩ := by rw [hY]; simp
  have rbY : RdBridge Y lb b := by rw [hY]; exact rb4.app _
  have rmY : RdMinder Y lm m := by rw [hY]; exact rm4.app _
  have rxY : RdBox Y lx x := by rw [hY]; exact rx.app _
  clear hY
  have hlm : m.log.length ≤ 1048576 := by unfold Minder.sz at hms; omega
  have hLp : p.enc.length = 11 := rfl
  have hTp : p.enc.take 11 = p.enc := rfl
  obtain ⟨c, hc, hcl⟩ := boxT_last hxg (show x.sz ≤ 1048576 by omega)
  have e1 := implBoxText_is rxY (by omega) hxg
  have e2 := specBoxText_is rxY (by omega) hxg
  rw [hc] at e1 e2
  have e3 := implPortText (H := Y) hpg
  have e4 := specPortText (H := Y) hpg
  have e5 := implBridgeText_is rbY (by omega) hbg
  have e6 := specBridgeText_is rbY (by omega) hbg
  have e7 := implMinderText_is rmY hlm hmg
  have e8 := specMinderText_is rmY hlm hmg
  have hpos : (0 : Int) < (c.length : Int) + 1 := by omega
  have w1 : IntKind.i64.wrap (c.length : Int) = c.length := wrap64 (by omega) (by omega)
  simp [e1, e2, e3, e4, e5, e6, e7, e8, b0, b1, b2, b3, hLp, hTp, hLb, hTb, hLm, hTm, hLx, hTx, indexLast, w1, lenStr, hpos]
  refine hQ _ _ _ (by simp) ?_
  simp [Tryz.f3]
end W
end Go.Proofs.YtdojljjiekgapaaGreatDoor
