/- The functions that this law reaches: what each computes. Conditions: those that each theorem names. -/
import Derived.Test.YtjbjpdifgfnaeaaWalkSaying
set_option maxRecDepth 100000
set_option maxHeartbeats 4000000
set_option linter.unusedSimpArgs false
set_option linter.unusedVariables false
set_option linter.unnecessarySimpa false
namespace Go.Proofs.Ytjbjpdifgfnaeaa
open Go Go.Ab Go.ChangeShapes Go.WideShapes Go.ChangeAt Go.RowKit
namespace W
theorem specReact {H : Heap} {l : List Lf} {b : Bridge} (h : RdBridge H l b) (hn : b.sz ≤ 1048576) (x : In) :
    Runs env 102 [.agg l, .agg x.enc] H fun v H' => ∃ l' fp q fp2, v = .tup [.agg l', .lf q] ∧ IsBridge H' l' (reactB b x).1 fp ∧ IsOutS H' q (reactB b x).2 fp2 ∧ Fresh H H' (fp ++ fp2) ∧ (∀ i ∈ fp, i ∉ fp2) := by
  have hR := h
  have e1 : ∀ H, run env 146 [.agg [.i .i64 x.kind, .i .i64 x.port, .i .i64 x.vec.root, .i .i64 x.vec.cost, .i .i64 x.vec.bridge, .i .i64 x.vec.port, .i .i64 x.hops, .b x.up]] H = some (.bool x.ok, H) := fun H => specInOk H x
  have e2 := fun G => specBridgeOk_is (hR.app G) hn
  obtain ⟨a, rfl, h_⟩ := h
  simp only [Bridge.enc] at e2
  refine Runs.walk ok102 Try.func102 rfl (by simp [Try.f102]) fun Q hQ => ?_
  simp only [Try.f102, strip, stripL, stripI, stripG, chkT, tagsB, tagsL, tagD, addT, tagA, lookN, tagOp, elmT, ty22, ty23, ty28, ty29, ty37, ty38, ty39, ty40, ty41, ty50, ty51, ty52, ty53, ty72, ty81, ty141, ty189, Nat.reduceEqDiff, if_false, reduceIte, Option.getD_some, Option.getD_none, dstAt, dstOk, Nat.reduceLT, decide_true, if_true]
  simp [Bridge.enc, In.enc]
  obtain ⟨H3, hH3⟩ : ∃ H3 : Heap, H3 = H ++ [some ⟨74, .wr, [[.i .i64 b.id, .sl a b.ports.length]]⟩, some ⟨133, .wr, [[.i .i64 x.kind, .i .i64 x.port, .i .i64 x.vec.root, .i .i64 x.vec.cost, .i .i64 x.vec.bridge, .i .i64 x.vec.port, .i .i64 x.hops, .b x.up]]⟩, some ⟨74, .wr, [[.i .i64 0, .sl none 0]]⟩, some ⟨113, .wr, []⟩] := ⟨_, rfl⟩
  have b1 : blkAt H3 H.length = some ⟨74, .wr, [[.i .i64 b.id, .sl a b.ports.length]]⟩ := by rw [hH3]; simp
  have bx : blkAt H3 (H.length + 1) = some ⟨133, .wr, [[.i .i64 x.kind, .i .i64 x.port, .i .i64 x.vec.root, .i .i64 x.vec.cost, .i .i64 x.vec.bridge, .i .i64 x.vec.port, .i .i64 x.hops, .b x.up]]⟩ := by rw [hH3]; simp
  have bz : blkAt H3 (H.length + 2) = some ⟨74, .wr, [[.i .i64 0, .sl none 0]]⟩ := by rw [hH3]; simp
  have bo : blkAt H3 (H.length + 3) = some ⟨113, .wr, []⟩ := by rw [hH3]; simp
  have hl3 : H3.length = H.length + 4 := by rw [hH3]; simp
  have k03 : Keep [] H H3 := by rw [hH3]; exact Keep.app _ _ _
  have hR3 : RdBridge H3 [.i .i64 b.id, .sl a b.ports.length] b := by rw [hH3]; exact hR.app _
  have e2' : run env 110 [.agg [.i .i64 b.id, .sl a b.ports.length]] H3 = some (.bool b.ok, H3) := by rw [hH3]; exact e2 _
  have d1 := blkAt_len b1
  have dx := blkAt_len bx
  have dz := blkAt_len bz
  rw [← hH3]
  clear hH3
  have fin : ∀ (Hf : Heap) (tm : Ab.T) (c : Bridge) (a7 : Option (Nat × Nat)) (f7 : List Nat) (os : List Out) (q : Lf) (f2 : List Nat), tm 4 = .ptr (H.length + 2) 0 0 → tm 5 = .w (.lf q) → blkAt Hf (H.length + 2) = some ⟨74, .wr, [[.i .i64 b.id, .sl a7 b.ports.length]]⟩ → Own Hf 148 a7 (c.ports.map Port.enc) f7 → IsOutS Hf q os f2 → c.id = b.id → c.ports.length = b.ports.length → reactB b x = (c, os) → Keep [] H Hf → (∀ i ∈ f7, H.length ≤ i) → (∀ i ∈ f2, H.length ≤ i) → (∀ i ∈ f7, i ∉ f2) → Q .ret tm Hf := by
    intro Hf tm c a7 f7 os q f2 t4 t5 hb4 ho4 hq hci hcl hr hK n0 hf2 hdj
    refine hQ _ _ _ (by simp) ?_
    have hres : resT env.τ tm Hf (Try.f102.results.toList) = some [W.agg [.i .i64 b.id, .sl a7 b.ports.length], W.lf q] := by simp [Try.f102, t4, t5, hb4]
    rw [hres, optK_some, hr]
    have hI : IsBridge Hf [.i .i64 b.id, .sl a7 b.ports.length] c f7 := ⟨a7, by simp [Bridge.enc, hci, hcl], ho4⟩
    rcases leave_both H Hf [W.agg [.i .i64 b.id, .sl a7 b.ports.length], W.lf q] with e | ⟨e, hfr, G, rfl⟩ <;> rw [e]
    · refine ⟨_, f7, _, f2, rfl, hI, hq, ⟨hK.ext, fun i hi => ?_⟩, hdj⟩
      rcases List.mem_append.1 hi with hi | hi
      · exact n0 i hi
      · exact hf2 i hi
    · simp at hfr
      exact ⟨_, [], _, [], rfl, hI.free (by simp [hfr]) H, hq.free hfr.2 H, Fresh.refl H, by simp⟩
  have done : ¬ (b.ok = true ∧ x.ok = true ∧ x.port < b.ports.length) → ∀ (tm : Ab.T) (f7 : List Nat) (a7 : Option (Nat × Nat)) (G7 : Heap), tm 4 = .ptr (H.length + 2) 0 0 → tm 5 = .sl (H.length + 3) 0 0 → Own (H3 ++ G7) 148 a7 (b.ports.map Port.enc) f7 → (∀ i ∈ f7, H3.length ≤ i) → Q .ret tm (H3.set (H.length + 2) (some ⟨74, .wr, [[.i .i64 b.id, .sl a7 b.ports.length]]⟩) ++ G7) := by
    intro hno tm f7 a7 G7 t4 t5 o7 hf7
    have hk := Keep.set (id := H.length + 2) (H3 ++ G7) (some ⟨74, .wr, [[.i .i64 b.id, .sl a7 b.ports.length]]⟩)
    rw [set_lt dz] at hk
    have bo7 : blkAt (H3 ++ G7) (H.length + 3) = some ⟨113, .wr, []⟩ := blkAt_app bo G7
    refine fin _ _ b a7 f7 [] (.sl (some (H.length + 3, 0)) 0) [H.length + 3] t4 t5 ?_ (o7.keep hk (fun i hi hj => by have := hf7 i hi; simp at hj; omega)) ⟨some (H.length + 3, 0), rfl, Own.of (hk.blk bo7 (by simp))⟩ rfl rfl (reactB_no hno) ?_ (fun i hi => by have := hf7 i hi; omega) (by simp) (fun i hi hj => by have := hf7 i hi; simp at hj; omega)
    · exact blkAt_app (blkAt_set dz) _
    · exact (keep_more0 k03 G7).next hk (by simp)
  cases hbo : b.ok
  · rw [hbo] at e2'
    simp [b1, d1, e2']
    refine stpL_runs (specCopyB hR3 hn) ?_
    rintro _ _ ⟨_, f7, rfl, ⟨a7, rfl, o7⟩, ⟨⟨G7, rfl⟩, hf7⟩⟩
    simp [Bridge.enc, bz, dz]
    exact done (by simp [hbo]) _ f7 a7 G7 (by simp) (by simp) o7 hf7
  rw [hbo] at e2'
  simp [b1, d1, bx, dx, e1, e2']
  cases hxo : x.ok
  · simp [b1, d1]
    refine stpL_runs (specCopyB hR3 hn) ?_
    rintro _ _ ⟨_, f7, rfl, ⟨a7, rfl, o7⟩, ⟨⟨G7, rfl⟩, hf7⟩⟩
    simp [Bridge.enc, bz, dz]
    exact done (by simp [hxo]) _ f7 a7 G7 (by simp) (by simp) o7 hf7
  simp [b1, d1, bx, dx, builtinV, pureB, lenV]
  by_cases hlx : x.port < (b.ports.length : Int)
  case neg =>
    have hlx' : (b.ports.length : Int) ≤ x.port := by omega
    simp [hlx', b1, d1]
    refine stpL_runs (specCopyB hR3 hn) ?_
    rintro _ _ ⟨_, f7, rfl, ⟨a7, rfl, o7⟩, ⟨⟨G7, rfl⟩, hf7⟩⟩
    simp [Bridge.enc, bz, dz]
    exact done (fun h => hlx h.2.2) _ f7 a7 G7 (by simp) (by simp) o7 hf7
  clear done
  have hlx' : ¬ (b.ports.length : Int) ≤ x.port := by omega
  obtain ⟨-, hx0, -⟩ := In.ok_kind hxo
  obtain ⟨hpok, -, -, hl1, hl4⟩ := Bridge.ok_all hbo
  simp [hlx', b1, d1]
  refine stpL_runs_f (specCopyB hR3 hn) (by rintro _ _ ⟨_, _, _, _, hf⟩; exact hf.1) ?_
  rintro _ _ ⟨_, f7, rfl, o7, ⟨⟨G7, rfl⟩, hf7⟩⟩
  have hlt7 := o7.lt
  simp [bx, dx]
  refine stpL_runs_w (l8InM o7 hbo x hxo (k := x.port.toNat) (by omega) (by omega)) rfl (by rintro _ _ ⟨_, _, _, _, hk, _⟩; exact hk.1) ?_
  rintro _ H4 ⟨_, f8, rfl, ⟨a8, rfl, o8⟩, k8, hf8⟩
  obtain ⟨c, hc⟩ : ∃ c, c = nextB b x := ⟨_, rfl⟩
  rw [← hc] at o8
  have hcl : c.ports.length = b.ports.length := by rw [hc]; exact nextB_len _ _
  have hci : c.id = b.id := by rw [hc]; exact nextB_id _ _
  have hcok : c.ok = true := by rw [hc]; exact nextB_ok hbo (by omega)
  have hrB : reactB b x = (c, outsB b c x) := by rw [hc]; exact reactB_yes hbo hxo hlx
  rw [← hc]
  clear hc
  simp [Bridge.enc, hci, hcl]
  obtain ⟨H5, hH5⟩ : ∃ H5 : Heap, H5 = H4 ++ [some ⟨74, .wr, [[.i .i64 b.id, .sl a8 b.ports.length]]⟩] := ⟨_, rfl⟩
  have k35 : Keep f7 (H3 ++ G7) H5 := by rw [hH5]; exact Keep.trans (h := f7) k8 (Keep.app [] _ _) (fun _ hi _ => hi) (by simp)
  have k345 : Keep [] H3 H5 := (Keep.app [] H3 G7).next k35 hf7
  have c1 := k345.blk b1 (by simp)
  have cx := k345.blk bx (by simp)
  have cz := k345.blk bz (by simp)
  have co := k345.blk bo (by simp)
  have k05 : Keep [] H H5 := k03.next k345 (by simp)
  have o5 : Own H5 148 a8 (c.ports.map Port.enc) f8 := by rw [hH5]; exact o8.app _
  have c7 : blkAt H5 H4.length = some ⟨74, .wr, [[.i .i64 b.id, .sl a8 b.ports.length]]⟩ := by rw [hH5]; simp
  have h84 := k8.1
  have hf8' : ∀ i ∈ f8, H3.length ≤ i ∧ i < H4.length := fun i hi => by
    have hl := o8.lt i hi
    rcases hf8 i hi with h | h
    · exact ⟨hf7 i h, hl⟩
    · rw [List.length_append] at h; exact ⟨by omega, hl⟩
  have hl45 : H4.length < H5.length := blkAt_len c7
  have hs0 : Sl H5 148 a (b.ports.map Port.enc) := h_.keep k05 (by simp)
  have h345 := k345.1
  have h34 : H3.length ≤ H4.length := by rw [List.length_append] at h84; omega
  rw [← hH5]
  clear hH5 k8 k35 o8 hlt7 hf8 hf7
  refine wpS_loop (fun j tm H' => ∃ i a' fp', i + j = b.ports.length ∧ tm 2 = .ptr H.length 0 0 ∧ tm 3 = .ptr (H.length + 1) 0 0 ∧ tm 4 = .ptr (H.length + 2) 0 0 ∧ tm 7 = .ptr H4.length 0 0 ∧ tm 8 = .int i ∧ tm 6 = .w (.lf (.sl a' (upto (gateAt b c) i).length)) ∧ Own H' 113 a' ((upto (gateAt b c) i).map Out.enc) fp' ∧ (∀ j ∈ fp', j ∈ [H.length + 3] ∨ H5.length ≤ j) ∧ Keep [H.length + 3] H5 H') b.ports.length (by rw [env_K]; omega)
    ⟨0, some (H.length + 3, 0), [H.length + 3], by simp, by simp, by simp, by simp, by simp, by simp, by simp [upto], Own.of co, by simp, Keep.refl _ _⟩ ?_
  rintro j tm H6 hj ⟨i, a', fp', hij, t2, t3, t4, t7, t8, t6, ho', hf', hK⟩ Q2 hn2 he2 hr2
  have c16 := hK.blk c1 (by simp)
  have c76 := hK.blk c7 (by simp; omega)
  have d16 := blkAt_len c16
  have d76 := blkAt_len c76
  simp [t2, t8, c16, d16, builtinV, pureB, lenV]
  refine selS_intro (fun hcc => ?_) (fun hcc => ?_)
  · simp at hcc
    have hc' : i < c.ports.length := by omega
    have s6 := (o5.keep hK (fun i hi hj => by have := hf8' i hi; simp at hj; omega)).sl
    have s0 := hs0.keep hK (fun id r hx hj => by
      have h1 := h_.keep (Keep.refl [] H) (by simp)
      subst hx
      have := Sl.len h1 (by intro h; have := congrArg List.length h; simp only [List.length_map, List.length_nil] at this; omega)
      simp at hj; omega)
    obtain ⟨id3, r3, bl3, rfl, hbl3, hbe3, hrow3⟩ := s6 i _ (by simp [hc']; rfl)
    obtain ⟨id4, r4, bl4, rfl, hbl4, hbe4, hrow4⟩ := s0 i _ (by simp [hcc]; rfl)
    have hid3 := blkAt_len hbl3
    have hid4 := blkAt_len hbl4
    have g4 : IntKind.i64.wrap ((i : Int) + 1) = (i : Int) + 1 := wrap64 (by omega) (by omega)
    have hst : upto (gateAt b c) (i + 1) = upto (gateAt b c) i ++ (if c.ports[i].opn = b.ports[i].opn then [] else [⟨2, i, ⟨0, 0, 0, 0⟩, 0, c.ports[i].opn⟩]) := by
      rw [upto, gateAt, List.getElem?_eq_getElem hcc, List.getElem?_eq_getElem hc']
    have hul := upto_len (gateAt_len b c) i
    simp [t2, t3, t4, t6, t7, t8, c16, d16, c76, d76, indexAddrV, elemIs, hid3, hbl3, hbe3, hcc, hrow3, hid4, hbl4, hbe4, hrow4, Port.enc]
    refine selS_intro (fun hd => ?_) (fun hd => ?_)
    · simp at hd
      rw [if_neg hd] at hst
      simp [t6, t7, t8, c76, d76, indexAddrV, elemIs, hid3, hbl3, hbe3, hcc, hrow3, Port.enc]
      refine stpL_append (rows := (upto (gateAt b c) i).map Out.enc) (ys := [[.i .i64 2, .i .i64 i, .i .i64 0, .i .i64 0, .i .i64 0, .i .i64 0, .i .i64 0, .b c.ports[i].opn]]) (ho'.app _) (Sl.of (by simp)) rfl rfl rfl (by simp) (by simp; omega) (by simp) rfl fun a'' H'' fp'' ho'' hk'' hf'' => ?_
      obtain ⟨hK2, hf2⟩ := grow_next0 hK hf' hk'' hf''
      simp [t2, t3, t4, t7, t8, g4]
      refine hn2 (j - 1) _ _ (by omega) ⟨i + 1, a'', fp'', by omega, by simp [t2], by simp [t3], by simp [t4], by simp [t7], by simp, by simp [hst], ?_, hf2, hK2⟩
      simpa [hst, Out.enc] using ho''
    · simp at hd
      rw [if_pos hd, List.append_nil] at hst
      simp [t2, t3, t4, t6, t7, t8, g4]
      refine hn2 (j - 1) _ _ (by omega) ⟨i + 1, a', fp', by omega, by simp [t2], by simp [t3], by simp [t4], by simp [t7], by simp, by rw [hst]; simp [t6], ?_, hf', hK⟩
      rw [hst]
      exact ho'
  · simp at hcc
    obtain rfl : i = b.ports.length := by omega
    simp [t2, t3, t4, t6, t7, t8]
    refine he2 _ _ _ ?_
    obtain ⟨gs, hgs⟩ : ∃ gs, gs = upto (gateAt b c) b.ports.length := ⟨_, rfl⟩
    have hgl : gs.length ≤ b.ports.length := by rw [hgs]; exact upto_len (gateAt_len b c) _
    rw [← hgs] at t6 ho'
    have last : ∀ (tm : Ab.T) (Hf : Heap) (os : List Out) (a' : Option (Nat × Nat)) (fp' : List Nat), tm 4 = .ptr (H.length + 2) 0 0 → tm 5 = .w (.lf (.sl a' os.length)) → Own Hf 113 a' (os.map Out.enc) fp' → (∀ j ∈ fp', j ∈ [H.length + 3] ∨ H5.length ≤ j) → Keep [H.length + 3] H5 Hf → os = outsB b c x → Q .ret tm (Hf.set (H.length + 2) (some ⟨74, .wr, [[.i .i64 b.id, .sl a8 b.ports.length]]⟩)) := by
      intro tm Hf os a' fp' t4 t5 ho' hf' hK hos
      have czf := hK.blk cz (by simp)
      have dzf := blkAt_len czf
      have ks := Keep.set (id := H.length + 2) Hf (some ⟨74, .wr, [[.i .i64 b.id, .sl a8 b.ports.length]]⟩)
      refine fin _ _ c a8 f8 os (.sl a' os.length) fp' t4 t5 (blkAt_set dzf) ((o5.keep hK (fun i hi hj => by have := hf8' i hi; simp at hj; omega)).keep ks (fun i hi hj => by have := hf8' i hi; simp at hj; omega)) (IsSl.keep ⟨a', rfl, ho'⟩ ks (fun i hi hj => by have := hf' i hi; simp at hj this; omega)) hci hcl (by rw [hrB, hos]) ((k05.next hK (by simp)).next ks (by simp)) (fun i hi => by have := hf8' i hi; omega) (fun i hi => by have := hf' i hi; simp at this; omega) (fun i hi hj => by have := hf8' i hi; have := hf' i hj; simp at this; omega)
    simp
    by_cases hx2 : x.kind = 2
    · have hout : outsB b c x = gs ++ upto (claimAt c) b.ports.length := by unfold outsB; rw [if_pos hx2, hgs]
      rw [hx2] at cx
      refine wpS_loop (fun j tm H' => ∃ i a' fp', i + j = b.ports.length ∧ tm 3 = .ptr (H.length + 1) 0 0 ∧ tm 4 = .ptr (H.length + 2) 0 0 ∧ tm 7 = .ptr H4.length 0 0 ∧ tm 9 = .int i ∧ tm 6 = .w (.lf (.sl a' (gs ++ upto (claimAt c) i).length)) ∧ Own H' 113 a' ((gs ++ upto (claimAt c) i).map Out.enc) fp' ∧ (∀ j ∈ fp', j ∈ [H.length + 3] ∨ H5.length ≤ j) ∧ Keep [H.length + 3] H5 H') b.ports.length (by rw [env_K]; omega)
        ⟨0, a', fp', by simp, by simp [t3], by simp [t4], by simp [t7], by simp, by simp [upto, t6], by simpa [upto] using ho', hf', hK⟩ ?_
      rintro j tm H6 hj ⟨i, a', fp', hij, t3, t4, t7, t9, t6, ho', hf', hK⟩ Q3 hn3 he3 hr3
      have c76 := hK.blk c7 (by simp; omega)
      have cx6 := hK.blk cx (by simp)
      have cz6 := hK.blk cz (by simp)
      have d76 := blkAt_len c76
      have dx6 := blkAt_len cx6
      have dz6 := blkAt_len cz6
      simp [t3, t7, t9, c76, d76, builtinV, pureB, lenV]
      by_cases hcc : i < b.ports.length
      · have hc' : i < c.ports.length := by omega
        have s6 := (o5.keep hK (fun i hi hj => by have := hf8' i hi; simp at hj; omega)).sl
        have hR6 : RdBridge H6 [.i .i64 b.id, .sl a8 b.ports.length] c := ⟨a8, by simp [Bridge.enc, hci, hcl], s6⟩
        obtain ⟨id3, r3, bl3, rfl, hbl3, hbe3, hrow3⟩ := s6 i _ (by simp [hc']; rfl)
        have hid3 := blkAt_len hbl3
        have g4 : IntKind.i64.wrap ((i : Int) + 1) = (i : Int) + 1 := wrap64 (by omega) (by omega)
        have hst : upto (claimAt c) (i + 1) = upto (claimAt c) i ++ (if c.ports[i].role = 2 then [⟨1, i, ownV c i, hopsB c, false⟩] else []) := by
          rw [upto, claimAt, List.getElem?_eq_getElem hc']
        have hul := upto_len (claimAt_len c) i
        have eO := specOwn hR6 hcok (port := (i : Int)) (by omega) (by omega)
        have eH := specHops hR6 hcok
        simp [hcc, t3, t4, t6, t7, t9, c76, d76, cx6, dx6, indexAddrV, elemIs, hid3, hbl3, hbe3, hrow3, Port.enc]
        refine selS_intro (fun hd => ?_) (fun hd => ?_)
        · simp at hd
          rw [if_pos hd] at hst
          simp [t6, t7, t9, c76, d76, eO, eH, Vec.enc]
          refine stpL_append (rows := (gs ++ upto (claimAt c) i).map Out.enc) (ys := [[.i .i64 1, .i .i64 i, .i .i64 (ownV c i).root, .i .i64 (ownV c i).cost, .i .i64 (ownV c i).bridge, .i .i64 (ownV c i).port, .i .i64 (hopsB c), .b false]]) (ho'.app _) (Sl.of (by simp)) rfl rfl rfl (by simp) (by simp; omega) (by simp) rfl fun a'' H'' fp'' ho'' hk'' hf'' => ?_
          obtain ⟨hK2, hf2⟩ := grow_next0 hK hf' hk'' hf''
          simp [t3, t4, t7, t9, g4]
          refine hn3 (j - 1) _ _ (by omega) ⟨i + 1, a'', fp'', by omega, by simp [t3], by simp [t4], by simp [t7], by simp, by simp [hst]; omega, ?_, hf2, hK2⟩
          simpa [hst, Out.enc] using ho''
        · simp at hd
          rw [if_neg hd, List.append_nil] at hst
          simp [t3, t4, t6, t7, t9, g4]
          refine hn3 (j - 1) _ _ (by omega) ⟨i + 1, a', fp', by omega, by simp [t3], by simp [t4], by simp [t7], by simp, by rw [hst]; simp [t6], ?_, hf', hK⟩
          rw [hst]
          exact ho'
      · obtain rfl : i = b.ports.length := by omega
        simp
        refine he3 _ _ _ ?_
        simp [t3, t4, t6, t7, t9, c76, d76, cz6, dz6]
        exact last _ _ (gs ++ upto (claimAt c) b.ports.length) a' fp' (by simp [t4]) (by simp) ho' hf' hK hout.symm
    · have hout : outsB b c x = gs := by unfold outsB; rw [if_neg hx2, hgs, List.append_nil]
      refine wpS_loop (fun j tm H' => tm 3 = .ptr (H.length + 1) 0 0 ∧ tm 4 = .ptr (H.length + 2) 0 0 ∧ tm 7 = .ptr H4.length 0 0 ∧ tm 9 = .int 0 ∧ tm 6 = .w (.lf (.sl a' gs.length)) ∧ H' = H6) 0 (by rw [env_K]; omega)
        ⟨by simp [t3], by simp [t4], by simp [t7], by simp, by simp [t6], rfl⟩ ?_
      rintro j tm H6' hj ⟨t3, t4, t7, t9, t6, rfl⟩ Q3 hn3 he3 hr3
      have cx6 := hK.blk cx (by simp)
      have cz6 := hK.blk cz (by simp)
      have dx6 := blkAt_len cx6
      have dz6 := blkAt_len cz6
      have hpos : (0 : Int) < b.ports.length := by omega
      simp [t3, t7, t9, c76, d76, cx6, dx6, builtinV, pureB, lenV, hx2]
      have hb0 : decide (0 < b.ports.length) = true := by simp; omega
      rw [hb0]
      simp [t3, cx6, dx6, hx2]
      refine he3 _ _ _ ?_
      simp [t3, t4, t6, t7, t9, c76, d76, cz6, dz6]
      exact last _ _ gs a' fp' (by simp [t4]) (by simp) ho' hf' hK hout.symm

def stepB (b : Bridge) (x : In) : Bridge := (reactB b x).1
def bridgeOf (id ports : Int) (log : List In) : Bridge := log.foldl stepB (bridgeNew id ports).1
theorem bridgeOf_step (id ports : Int) (log : List In) {i : Nat} (h : i < log.length) : bridgeOf id ports (log.take (i + 1)) = stepB (bridgeOf id ports (log.take i)) log[i] := by
  unfold bridgeOf
  rw [List.take_add_one, List.getElem?_eq_getElem h, List.foldl_append]
  rfl
theorem bridgeOf_len (id ports : Int) (log : List In) : (bridgeOf id ports log).ports.length ≤ 4 := by
  have key : ∀ (log : List In) (b : Bridge), b.ports.length ≤ 4 → (log.foldl stepB b).ports.length ≤ 4 := by
    intro log
    induction log with
    | nil => intro b h; exact h
    | cons x xs ih => intro b h; exact ih _ (by rw [stepB, reactB_len]; exact h)
  refine key log _ ?_
  unfold bridgeNew
  split
  · rename_i h
    simp at h ⊢
    omega
  · simp
theorem bridgeOf_sz0 {id ports : Int} {log : List In} (_ : log.length ≤ 1048576) : (bridgeOf id ports log).sz ≤ 1048576 := by
  have := bridgeOf_len id ports log
  have h2 : (bridgeOf id ports log).sz = (bridgeOf id ports log).ports.length := rfl
  omega
theorem bridgeOf_bad {id ports : Int} (h : (bridgeNew id ports).2 = false) (log : List In) : bridgeOf id ports log = ⟨0, []⟩ := by
  have h0 : (bridgeNew id ports).1 = ⟨0, []⟩ := by
    unfold bridgeNew at h ⊢
    split at h
    · simp at h
    · rename_i h1; rw [if_neg h1]
  have key : ∀ log : List In, log.foldl stepB ⟨0, []⟩ = ⟨0, []⟩ := by
    intro log
    induction log with
    | nil => rfl
    | cons x xs ih =>
      have : stepB ⟨0, []⟩ x = ⟨0, []⟩ := by
        rw [stepB, reactB_no (by intro h; have := h.1; simp [Bridge.ok] at this)]
      rw [List.foldl_cons, this, ih]
  unfold bridgeOf
  rw [h0, key]

theorem sl_take {H : Heap} {e : Nat} {a : Option (Nat × Nat)} {rows : List (List Lf)} (h : Sl H e a rows) (n : Nat) : Sl H e a (rows.take n) := fun i row hr => by
  rw [List.getElem?_take] at hr
  split at hr
  · exact h i row hr
  · cases hr
theorem sl_nil {H : Heap} {e : Nat} {rows : List (List Lf)} (h : Sl H e none rows) : rows = [] := by
  cases rows with
  | nil => rfl
  | cons x xs => obtain ⟨_, _, _, h0, _⟩ := h 0 _ rfl; cases h0
theorem sl_drop {H : Heap} {e id r : Nat} {rows : List (List Lf)} (h : Sl H e (some (id, r)) rows) (n : Nat) : Sl H e (some (id, r + n)) (rows.drop n) := fun i row hr => by
  rw [List.getElem?_drop] at hr
  obtain ⟨id', r', b, hx, hb, he, hrow⟩ := h _ row hr
  cases hx
  exact ⟨id, r + n, b, rfl, hb, he, by rw [Nat.add_assoc]; exact hrow⟩

theorem implBridgeOf_is {H : Heap} {q : Lf} {log : List In} (h : RdInS H q log) (hn : log.length ≤ 1048576) (id : Int) (_ : I64 id) (ports : Int) (_ : I64 ports) :
    Runs env 43 [.int id, .int ports, .w (.lf q)] H fun v H' => ∃ l' fp, v = .agg l' ∧ IsBridge H' l' (bridgeOf id ports log) fp ∧ Fresh H H' fp := by
  obtain ⟨a, rfl, hs⟩ := h
  refine Runs.walk ok43 Try.func43 rfl (by simp [Try.f43]) fun Q hQ => ?_
  simp only [Try.f43, strip, stripL, stripI, stripG, chkT, tagsB, tagsL, tagD, addT, tagA, lookN, tagOp, elmT, ty22, ty23, ty28, ty29, ty37, ty38, ty39, ty40, ty41, ty50, ty51, ty52, ty53, ty72, ty81, ty141, ty189, Nat.reduceEqDiff, if_false, reduceIte, Option.getD_some, Option.getD_none, dstAt, dstOk, Nat.reduceLT, decide_true, if_true]
  simp
  refine stpL_runs (implBridgeNew _ _ _) ?_
  rintro _ _ ⟨_, f1, rfl, ⟨a1, rfl, o1⟩, ⟨⟨G1, rfl⟩, hf1⟩⟩
  simp [Bridge.enc]
  obtain ⟨B0, hB0⟩ : ∃ B0, B0 = (bridgeNew id ports).1 := ⟨_, rfl⟩
  rw [← hB0] at o1 ⊢
  obtain ⟨H3, hH3⟩ : ∃ H3 : Heap, H3 = H ++ some ⟨74, .wr, [[.i .i64 0, .sl none 0]]⟩ :: (G1 ++ [some ⟨74, .wr, [[.i .i64 B0.id, .sl a1 B0.ports.length]]⟩]) := ⟨_, rfl⟩
  have bz : blkAt H3 H.length = some ⟨74, .wr, [[.i .i64 0, .sl none 0]]⟩ := by rw [hH3]; simp
  have b7 : blkAt H3 (H.length + (G1.length + 1)) = some ⟨74, .wr, [[.i .i64 B0.id, .sl a1 B0.ports.length]]⟩ := by rw [hH3]; simp
  have o3 : Own H3 148 a1 (B0.ports.map Port.enc) f1 := by
    rw [hH3]
    have := o1.app [some ⟨74, .wr, [[.i .i64 B0.id, .sl a1 B0.ports.length]]⟩]
    simpa using this
  have k03 : Keep [] H H3 := by rw [hH3]; exact Keep.app _ _ _
  have hlt1 := o1.lt
  have n0 : ∀ i ∈ f1, H.length < i ∧ i < H.length + (G1.length + 1) := fun i hi => by have h1 := hf1 _ hi; have h2 := hlt1 _ hi; simp only [List.length_append, List.length_cons, List.length_nil] at h1 h2; omega
  have dz := blkAt_len bz
  rw [← hH3]
  clear hH3 o1 hf1 hlt1
  have fin : ∀ (Hf : Heap) (tm : Ab.T) (c : Bridge) (a7 : Option (Nat × Nat)) (f7 : List Nat), tm 6 = .ptr H.length 0 0 → blkAt Hf H.length = some ⟨74, .wr, [[.i .i64 c.id, .sl a7 c.ports.length]]⟩ → Own Hf 148 a7 (c.ports.map Port.enc) f7 → c = bridgeOf id ports log → Keep [] H Hf → (∀ i ∈ f7, H.length ≤ i) → Q .ret tm Hf := by
    intro Hf tm c a7 f7 t6 hb4 ho4 hc hK hf7
    refine hQ _ _ _ (by simp) ?_
    have hres : resT env.τ tm Hf (Try.f43.results.toList) = some [W.agg [.i .i64 c.id, .sl a7 c.ports.length]] := by simp [Try.f43, t6, hb4]
    rw [hres, optK_some, ← hc]
    have hI : IsBridge Hf [.i .i64 c.id, .sl a7 c.ports.length] c f7 := ⟨a7, rfl, ho4⟩
    obtain ⟨fp, h1, h2⟩ := hI.leave (H := H) (ws := [W.agg [.i .i64 c.id, .sl a7 c.ports.length]]) ⟨hK.ext, hf7⟩ (by simp)
    exact ⟨_, fp, rfl, h1, h2⟩
  cases hok : (bridgeNew id ports).2
  · simp [bz, dz]
    refine fin _ _ ⟨0, []⟩ none [] (by simp) (by rw [blkAt_set dz]; rfl) (Own.nil _ _) (bridgeOf_bad hok log).symm (k03.next (Keep.set _ _) (by simp)) (by simp)
  simp [builtinV, pureB, lenV]
  refine wpS_loop (fun j tm H' => ∃ i a7 f7, i + j = log.length ∧ tm 6 = .ptr H.length 0 0 ∧ tm 7 = .ptr (H.length + (G1.length + 1)) 0 0 ∧ tm 20 = .w (.lf (.sl a log.length)) ∧ tm 21 = .int log.length ∧ tm 22 = .int i ∧ blkAt H' H.length = some ⟨74, .wr, [[.i .i64 0, .sl none 0]]⟩ ∧ blkAt H' (H.length + (G1.length + 1)) = some ⟨74, .wr, [[.i .i64 (bridgeOf id ports (log.take i)).id, .sl a7 (bridgeOf id ports (log.take i)).ports.length]]⟩ ∧ Own H' 148 a7 ((bridgeOf id ports (log.take i)).ports.map Port.enc) f7 ∧ (∀ j ∈ f7, H.length < j ∧ j ≠ H.length + (G1.length + 1)) ∧ Keep [] H H') log.length (by rw [env_K]; omega)
    ⟨0, a1, f1, by simp, by simp, by simp, by simp, by simp, by simp, bz, by rw [b7, hB0]; rfl, by rw [hB0] at o3; exact o3, fun j hj => by have := n0 j hj; omega, k03⟩ ?_
  rintro j tm H1 hj ⟨i, a7, f7, hij, t6, t7, t20, t21, t22, cz, c7, o7, hf7, hK⟩ Q2 hn2 he2 hr2
  have ez := blkAt_len cz
  have e7 := blkAt_len c7
  simp [t21, t22]
  refine selS_intro (fun hc => ?_) (fun hc => ?_)
  · simp at hc
    obtain ⟨id2, r, bl, rfl, hbl, hbe, hrow⟩ := (hs.keep hK (by simp)) i _ (by simp [hc]; rfl)
    have hid := blkAt_len hbl
    have g4 : IntKind.i64.wrap ((i : Int) + 1) = (i : Int) + 1 := wrap64 (by omega) (by omega)
    have hst := bridgeOf_step id ports log hc
    have hbl4 := bridgeOf_len id ports (log.take i)
    obtain ⟨b, hb⟩ : ∃ b, b = bridgeOf id ports (log.take i) := ⟨_, rfl⟩
    rw [← hb] at c7 o7 hst hbl4
    have hR : RdBridge H1 [.i .i64 b.id, .sl a7 b.ports.length] b := ⟨a7, rfl, o7.sl⟩
    obtain ⟨x, hx⟩ : ∃ x, x = log[i] := ⟨_, rfl⟩
    rw [← hx] at hst hrow
    simp only [In.enc] at hrow
    simp [t6, t7, t20, t21, t22, c7, e7, indexAddrV, elemIs, hid, hbl, hbe, hc, hrow]
    refine stpL_runs (implReact (hR.app _) (by have : b.sz = b.ports.length := rfl; omega) x) ?_
    rintro _ H2 ⟨_, f8, _, f9, rfl, ⟨a8, rfl, o8⟩, o9, hfr, hdj⟩
    have k12 : Keep [] H1 H2 := hfr.base.keep
    have c72 := k12.blk c7 (by simp)
    have cz2 := k12.blk cz (by simp)
    have e72 := blkAt_len c72
    have h0 := hK.1
    have h89 := hfr.2
    simp [Bridge.enc, t6, t7, t20, t21, t22, c72, e72, g4]
    have hf8 : ∀ j ∈ f8, H1.length < j + 1 := fun j hj => by have := h89 j (by simp [hj]); rw [List.length_append] at this; omega
    refine hn2 (j - 1) _ _ (by omega) ⟨i + 1, a8, f8, by omega, by simp [t6], by simp [t7], by simp [t20], by simp [t21], by simp, ?_, ?_, ?_, fun j hj => by have := hf8 j hj; omega, ?_⟩
    · rw [blkAt_set_ne (by omega)]; exact cz2
    · rw [blkAt_set e72, hst]; rfl
    · rw [hst]
      exact o8.keep (Keep.set _ _) (fun j hj => by have := hf8 j hj; simp; omega)
    · exact (hK.next k12 (by simp)).next (Keep.set _ _) (by simp)
  · simp at hc
    obtain rfl : i = log.length := by omega
    rw [List.take_length] at c7 o7
    simp [t21, t22]
    refine he2 _ _ _ ?_
    simp [t6, t7, c7, e7, cz, ez]
    refine fin _ _ (bridgeOf id ports log) a7 f7 (by simp [t6]) (blkAt_set ez) (o7.keep (Keep.set _ _) (fun j hj => by have := hf7 j hj; simp; omega)) rfl (hK.next (Keep.set _ _) (by simp)) (fun j hj => by have := hf7 j hj; omega)

theorem specBridgeOf_is {H : Heap} {q : Lf} {log : List In} (h : RdInS H q log) (hn : log.length ≤ 1048576) (id : Int) (_ : I64 id) (ports : Int) (_ : I64 ports) :
    Runs env 42 [.int id, .int ports, .w (.lf q)] H fun v H' => ∃ l' fp, v = .agg l' ∧ IsBridge H' l' (bridgeOf id ports log) fp ∧ Fresh H H' fp := by
  obtain ⟨a, rfl, hs⟩ := h
  refine Runs.walk ok42 Try.func42 rfl (by simp [Try.f42]) fun Q hQ => ?_
  simp only [Try.f42, strip, stripL, stripI, stripG, chkT, tagsB, tagsL, tagD, addT, tagA, lookN, tagOp, elmT, ty22, ty23, ty28, ty29, ty37, ty38, ty39, ty40, ty41, ty50, ty51, ty52, ty53, ty72, ty81, ty141, ty189, Nat.reduceEqDiff, if_false, reduceIte, Option.getD_some, Option.getD_none, dstAt, dstOk, Nat.reduceLT, decide_true, if_true]
  simp
  refine stpL_runs (specBridgeNew _ _ _) ?_
  rintro _ _ ⟨_, f1, rfl, ⟨a1, rfl, o1⟩, ⟨⟨G1, rfl⟩, hf1⟩⟩
  simp [Bridge.enc]
  obtain ⟨B0, hB0⟩ : ∃ B0, B0 = (bridgeNew id ports).1 := ⟨_, rfl⟩
  rw [← hB0] at o1 ⊢
  obtain ⟨H3, hH3⟩ : ∃ H3 : Heap, H3 = H ++ some ⟨74, .wr, [[.i .i64 0, .sl none 0]]⟩ :: (G1 ++ [some ⟨74, .wr, [[.i .i64 B0.id, .sl a1 B0.ports.length]]⟩]) := ⟨_, rfl⟩
  have bz : blkAt H3 H.length = some ⟨74, .wr, [[.i .i64 0, .sl none 0]]⟩ := by rw [hH3]; simp
  have b7 : blkAt H3 (H.length + (G1.length + 1)) = some ⟨74, .wr, [[.i .i64 B0.id, .sl a1 B0.ports.length]]⟩ := by rw [hH3]; simp
  have o3 : Own H3 148 a1 (B0.ports.map Port.enc) f1 := by
    rw [hH3]
    have := o1.app [some ⟨74, .wr, [[.i .i64 B0.id, .sl a1 B0.ports.length]]⟩]
    simpa using this
  have k03 : Keep [] H H3 := by rw [hH3]; exact Keep.app _ _ _
  have hlt1 := o1.lt
  have n0 : ∀ i ∈ f1, H.length < i ∧ i < H.length + (G1.length + 1) := fun i hi => by have h1 := hf1 _ hi; have h2 := hlt1 _ hi; simp only [List.length_append, List.length_cons, List.length_nil] at h1 h2; omega
  have dz := blkAt_len bz
  rw [← hH3]
  clear hH3 o1 hf1 hlt1
  have fin : ∀ (Hf : Heap) (tm : Ab.T) (c : Bridge) (a7 : Option (Nat × Nat)) (f7 : List Nat), tm 6 = .ptr H.length 0 0 → blkAt Hf H.length = some ⟨74, .wr, [[.i .i64 c.id, .sl a7 c.ports.length]]⟩ → Own Hf 148 a7 (c.ports.map Port.enc) f7 → c = bridgeOf id ports log → Keep [] H Hf → (∀ i ∈ f7, H.length ≤ i) → Q .ret tm Hf := by
    intro Hf tm c a7 f7 t6 hb4 ho4 hc hK hf7
    refine hQ _ _ _ (by simp) ?_
    have hres : resT env.τ tm Hf (Try.f42.results.toList) = some [W.agg [.i .i64 c.id, .sl a7 c.ports.length]] := by simp [Try.f42, t6, hb4]
    rw [hres, optK_some, ← hc]
    have hI : IsBridge Hf [.i .i64 c.id, .sl a7 c.ports.length] c f7 := ⟨a7, rfl, ho4⟩
    obtain ⟨fp, h1, h2⟩ := hI.leave (H := H) (ws := [W.agg [.i .i64 c.id, .sl a7 c.ports.length]]) ⟨hK.ext, hf7⟩ (by simp)
    exact ⟨_, fp, rfl, h1, h2⟩
  refine wpS_loop (fun j tm H' => ∃ i a7 f7, i + j = log.length ∧ tm 6 = .ptr H.length 0 0 ∧ tm 7 = .ptr (H.length + (G1.length + 1)) 0 0 ∧ tm 2 = .w (.lf (.sl a log.length)) ∧ tm 9 = .int i ∧ blkAt H' H.length = some ⟨74, .wr, [[.i .i64 0, .sl none 0]]⟩ ∧ blkAt H' (H.length + (G1.length + 1)) = some ⟨74, .wr, [[.i .i64 (bridgeOf id ports (log.take i)).id, .sl a7 (bridgeOf id ports (log.take i)).ports.length]]⟩ ∧ Own H' 148 a7 ((bridgeOf id ports (log.take i)).ports.map Port.enc) f7 ∧ (∀ j ∈ f7, H.length < j ∧ j ≠ H.length + (G1.length + 1)) ∧ Keep [] H H') log.length (by rw [env_K]; omega)
    ⟨0, a1, f1, by simp, by simp, by simp, by simp, by simp, bz, by rw [b7, hB0]; rfl, by rw [hB0] at o3; exact o3, fun j hj => by have := n0 j hj; omega, k03⟩ ?_
  rintro j tm H1 hj ⟨i, a7, f7, hij, t6, t7, t2, t9, cz, c7, o7, hf7, hK⟩ Q2 hn2 he2 hr2
  have ez := blkAt_len cz
  have e7 := blkAt_len c7
  simp [t2, t9, builtinV, pureB, lenV]
  refine selS_intro (fun hc => ?_) (fun hc => ?_)
  · simp at hc
    obtain ⟨id2, r, bl, rfl, hbl, hbe, hrow⟩ := (hs.keep hK (by simp)) i _ (by simp [hc]; rfl)
    have hid := blkAt_len hbl
    have g4 : IntKind.i64.wrap ((i : Int) + 1) = (i : Int) + 1 := wrap64 (by omega) (by omega)
    have hst := bridgeOf_step id ports log hc
    have hbl4 := bridgeOf_len id ports (log.take i)
    obtain ⟨b, hb⟩ : ∃ b, b = bridgeOf id ports (log.take i) := ⟨_, rfl⟩
    rw [← hb] at c7 o7 hst hbl4
    have hR : RdBridge H1 [.i .i64 b.id, .sl a7 b.ports.length] b := ⟨a7, rfl, o7.sl⟩
    obtain ⟨x, hx⟩ : ∃ x, x = log[i] := ⟨_, rfl⟩
    rw [← hx] at hst hrow
    simp only [In.enc] at hrow
    simp [t2, t6, t7, t9, c7, e7, indexAddrV, elemIs, hid, hbl, hbe, hc, hrow]
    refine stpL_runs_f (specReact hR (by have : b.sz = b.ports.length := rfl; omega) x) (by rintro _ _ ⟨_, _, _, _, _, _, _, hf, _⟩; exact hf.1) ?_
    rintro _ H2 ⟨_, f8, _, f9, rfl, ⟨a8, rfl, o8⟩, o9, hfr, hdj⟩
    have k12 : Keep [] H1 H2 := hfr.keep
    have c72 := k12.blk c7 (by simp)
    have cz2 := k12.blk cz (by simp)
    have e72 := blkAt_len c72
    have h0 := hK.1
    have h89 := hfr.2
    simp [Bridge.enc, t2, t6, t7, t9, c72, e72, g4]
    have hf8 : ∀ j ∈ f8, H1.length < j + 1 := fun j hj => by have := h89 j (by simp [hj]); omega
    refine hn2 (j - 1) _ _ (by omega) ⟨i + 1, a8, f8, by omega, by simp [t6], by simp [t7], by simp [t2], by simp, ?_, ?_, ?_, fun j hj => by have := hf8 j hj; omega, ?_⟩
    · rw [blkAt_set_ne (by omega)]; exact cz2
    · rw [blkAt_set e72, hst]; rfl
    · rw [hst]
      exact o8.keep (Keep.set _ _) (fun j hj => by have := hf8 j hj; simp; omega)
    · exact (hK.next k12 (by simp)).next (Keep.set _ _) (by simp)
  · simp at hc
    obtain rfl : i = log.length := by omega
    rw [List.take_length] at c7 o7
    simp [t2, t9]
    refine he2 _ _ _ ?_
    simp [t6, t7, c7, e7, cz, ez]
    refine fin _ _ (bridgeOf id ports log) a7 f7 (by simp [t6]) (blkAt_set ez) (o7.keep (Keep.set _ _) (fun j hj => by have := hf7 j hj; simp; omega)) rfl (hK.next (Keep.set _ _) (by simp)) (fun j hj => by have := hf7 j hj; omega)

def saying (id ports : Int) (log : List In) (n : Int) : List Out := if (decide (0 ≤ n) && decide (n ≤ (log.length : Int) - 1)) = true then (reactB (bridgeOf id ports (log.take n.toNat)) (log.getD n.toNat default)).2 else []
theorem saying_len (id ports : Int) (log : List In) (n : Int) : (saying id ports log n).length ≤ 8 := by
  unfold saying
  split
  · have h1 := reactB_outs (bridgeOf id ports (log.take n.toNat)) (log.getD n.toNat default)
    have h2 := bridgeOf_len id ports (log.take n.toNat)
    omega
  · simp
theorem saying_sz0 {id ports : Int} {log : List In} {n : Int} (_ : log.length ≤ 1048576) : (saying id ports log n).length ≤ 1048576 := by
  have := saying_len id ports log n; omega

theorem implSaying_is {H : Heap} {q : Lf} {log : List In} (h : RdInS H q log) (hn : log.length ≤ 1048576) (id : Int) (hid_ : I64 id) (ports : Int) (hpo_ : I64 ports) (n : Int) (_ : I64 n) :
    Runs env 38 [.int id, .int ports, .w (.lf q), .int n] H fun v H' => ∃ q' fp, v = .w (.lf q') ∧ IsOutS H' q' (saying id ports log n) fp ∧ Fresh H H' fp := by
  obtain ⟨a, rfl, hs⟩ := h
  have g : IntKind.i64.wrap ((log.length : Int) - 1) = (log.length : Int) - 1 := wrap64 (by omega) (by omega)
  refine Runs.walk ok38 Try.func38 rfl (by simp [Try.f38]) fun Q hQ => ?_
  simp only [Try.f38, strip, stripL, stripI, stripG, chkT, tagsB, tagsL, tagD, addT, tagA, lookN, tagOp, elmT, ty22, ty23, ty28, ty29, ty37, ty38, ty39, ty40, ty41, ty50, ty51, ty52, ty53, ty72, ty81, ty141, ty189, Nat.reduceEqDiff, if_false, reduceIte, Option.getD_some, Option.getD_none, dstAt, dstOk, Nat.reduceLT, decide_true, if_true]
  simp [builtinV, pureB, lenV, g]
  by_cases hc : 0 ≤ n ∧ n ≤ (log.length : Int) - 1
  · obtain ⟨k, rfl⟩ : ∃ k : Nat, n = k := ⟨n.toNat, by omega⟩
    have hk : k < log.length := by omega
    obtain ⟨id2, r, bl, rfl, hbl, hbe, hrow⟩ := hs k _ (by simp [hk]; rfl)
    have hid := blkAt_len hbl
    have hsy : saying id ports log k = (reactB (bridgeOf id ports (log.take k)) log[k]).2 := by
      unfold saying
      rw [if_pos (by simp; omega)]
      simp [List.getD, List.getElem?_eq_getElem hk]
    obtain ⟨x, hx⟩ : ∃ x, x = log[k] := ⟨_, rfl⟩
    rw [← hx] at hsy hrow
    simp only [In.enc] at hrow
    rw [hsy] at hQ
    have hkl : (k : Int) ≤ (log.length : Int) - 1 := by omega
    have hkl2 : k ≤ log.length := by omega
    simp [inRange, hkl, sliceV, elemIs, hid, hbl, hbe, bnd, hkl2]
    have hR : RdInS H (.sl (some (id2, r)) k) (log.take k) := ⟨some (id2, r), by simp; omega, by rw [List.map_take]; exact sl_take hs k⟩
    refine stpL_runs_f (implBridgeOf_is hR (by simp; omega) id hid_ ports hpo_) (by rintro _ _ ⟨_, _, _, _, hf⟩; exact hf.1) ?_
    rintro _ _ ⟨_, f1, rfl, ⟨a1, rfl, o1⟩, ⟨⟨G1, rfl⟩, hf1⟩⟩
    have hbl4 := bridgeOf_len id ports (log.take k)
    obtain ⟨b, hb⟩ : ∃ b, b = bridgeOf id ports (log.take k) := ⟨_, rfl⟩
    rw [← hb] at o1 hbl4 hQ ⊢
    have hRb : RdBridge (H ++ G1) (b.enc a1) b := ⟨a1, rfl, o1.sl⟩
    simp [indexAddrV, elemIs, hid, hbl, hbe, hk, hrow]
    refine stpL_runs_f (implReact hRb (by have : b.sz = b.ports.length := rfl; omega) x) (by rintro _ _ ⟨_, _, _, _, _, _, _, hf, _⟩; exact hf.1) ?_
    rintro _ _ ⟨_, f8, q9, f9, rfl, ⟨a8, rfl, o8⟩, o9, ⟨⟨G2, rfl⟩, hf2⟩, hdj⟩
    simp [Bridge.enc]
    refine hQ _ _ _ (by simp) ?_
    simp [Try.f38]
    have o9' := o9.app [some ⟨74, .wr, [[.i .i64 (reactB b x).1.id, .sl a8 (reactB b x).1.ports.length]]⟩]
    simp only [List.append_assoc] at o9'
    obtain ⟨fp, h1, h2⟩ := o9'.leave (H := H) (ws := [W.lf q9]) (Fresh.app H _ fun i hi => by have := hf2 i (by simp [hi]); rw [List.length_append] at this; omega) (by simp)
    exact ⟨fp, h1, h2⟩
  · have hcf : (decide (0 ≤ n) && decide (n ≤ (log.length : Int) - 1)) = false := by
      rw [Bool.and_eq_false_iff]; simp; omega
    have hsy : saying id ports log n = [] := by unfold saying; rw [hcf]; rfl
    simp [inRange, hcf]
    refine hQ _ _ _ (by simp) ?_
    simp [Try.f38, hsy]
    exact ⟨[], ⟨none, rfl, Own.nil _ _⟩, Fresh.refl _⟩

theorem specSaying_is {H : Heap} {q : Lf} {log : List In} (h : RdInS H q log) (hn : log.length ≤ 1048576) (id : Int) (hid_ : I64 id) (ports : Int) (hpo_ : I64 ports) (n : Int) (_ : I64 n) :
    Runs env 36 [.int id, .int ports, .w (.lf q), .int n] H fun v H' => ∃ q' fp, v = .w (.lf q') ∧ IsOutS H' q' (saying id ports log n) fp ∧ Fresh H H' fp := by
  obtain ⟨a, rfl, hs⟩ := h
  have g : IntKind.i64.wrap ((log.length : Int) - 1) = (log.length : Int) - 1 := wrap64 (by omega) (by omega)
  refine Runs.walk ok36 Try.func36 rfl (by simp [Try.f36]) fun Q hQ => ?_
  simp only [Try.f36, strip, stripL, stripI, stripG, chkT, tagsB, tagsL, tagD, addT, tagA, lookN, tagOp, elmT, ty22, ty23, ty28, ty29, ty37, ty38, ty39, ty40, ty41, ty50, ty51, ty52, ty53, ty72, ty81, ty141, ty189, Nat.reduceEqDiff, if_false, reduceIte, Option.getD_some, Option.getD_none, dstAt, dstOk, Nat.reduceLT, decide_true, if_true]
  simp [builtinV, pureB, lenV, g]
  by_cases hc : 0 ≤ n ∧ n ≤ (log.length : Int) - 1
  · obtain ⟨k, rfl⟩ : ∃ k : Nat, n = k := ⟨n.toNat, by omega⟩
    have hk : k < log.length := by omega
    obtain ⟨id2, r, bl, rfl, hbl, hbe, hrow⟩ := hs k _ (by simp [hk]; rfl)
    have hid := blkAt_len hbl
    have hsy : saying id ports log k = (reactB (bridgeOf id ports (log.take k)) log[k]).2 := by
      unfold saying
      rw [if_pos (by simp; omega)]
      simp [List.getD, List.getElem?_eq_getElem hk]
    obtain ⟨x, hx⟩ : ∃ x, x = log[k] := ⟨_, rfl⟩
    rw [← hx] at hsy hrow
    simp only [In.enc] at hrow
    rw [hsy] at hQ
    have hkl : (k : Int) ≤ (log.length : Int) - 1 := by omega
    have hkl2 : k ≤ log.length := by omega
    simp [l1In, hkl, sliceV, elemIs, hid, hbl, hbe, bnd, hkl2]
    have hR : RdInS H (.sl (some (id2, r)) k) (log.take k) := ⟨some (id2, r), by simp; omega, by rw [List.map_take]; exact sl_take hs k⟩
    refine stpL_runs_f (specBridgeOf_is hR (by simp; omega) id hid_ ports hpo_) (by rintro _ _ ⟨_, _, _, _, hf⟩; exact hf.1) ?_
    rintro _ _ ⟨_, f1, rfl, ⟨a1, rfl, o1⟩, ⟨⟨G1, rfl⟩, hf1⟩⟩
    have hbl4 := bridgeOf_len id ports (log.take k)
    obtain ⟨b, hb⟩ : ∃ b, b = bridgeOf id ports (log.take k) := ⟨_, rfl⟩
    rw [← hb] at o1 hbl4 hQ ⊢
    have hRb : RdBridge (H ++ G1) (b.enc a1) b := ⟨a1, rfl, o1.sl⟩
    simp [indexAddrV, elemIs, hid, hbl, hbe, hk, hrow]
    refine stpL_runs_f (specReact hRb (by have : b.sz = b.ports.length := rfl; omega) x) (by rintro _ _ ⟨_, _, _, _, _, _, _, hf, _⟩; exact hf.1) ?_
    rintro _ _ ⟨_, f8, q9, f9, rfl, ⟨a8, rfl, o8⟩, o9, ⟨⟨G2, rfl⟩, hf2⟩, hdj⟩
    simp [Bridge.enc]
    refine hQ _ _ _ (by simp) ?_
    simp [Try.f36]
    have o9' := o9.app [some ⟨74, .wr, [[.i .i64 (reactB b x).1.id, .sl a8 (reactB b x).1.ports.length]]⟩]
    simp only [List.append_assoc] at o9'
    obtain ⟨fp, h1, h2⟩ := o9'.leave (H := H) (ws := [W.lf q9]) (Fresh.app H _ fun i hi => by have := hf2 i (by simp [hi]); rw [List.length_append] at this; omega) (by simp)
    exact ⟨fp, h1, h2⟩
  · have hcf : (decide (0 ≤ n) && decide (n ≤ (log.length : Int) - 1)) = false := by
      rw [Bool.and_eq_false_iff]; simp; omega
    have hsy : saying id ports log n = [] := by unfold saying; rw [hcf]; rfl
    simp [l1In, hcf]
    refine hQ _ _ _ (by simp) ?_
    simp [Try.f36, hsy]
    have hI : IsOutS (H ++ [some ⟨113, .wr, []⟩]) (.sl (some (H.length, 0)) 0) [] [H.length] := ⟨_, rfl, Own.of (by simp)⟩
    obtain ⟨fp, h1, h2⟩ := hI.leave (H := H) (ws := [W.lf (.sl (some (H.length, 0)) 0)]) (Fresh.app H _ (by simp)) (by simp)
    exact ⟨fp, h1, h2⟩
end W
end Go.Proofs.Ytjbjpdifgfnaeaa
