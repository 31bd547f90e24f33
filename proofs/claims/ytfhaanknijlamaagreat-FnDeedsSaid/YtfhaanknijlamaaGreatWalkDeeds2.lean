/- The functions that this law reaches: what each computes. Conditions: those that each theorem names. -/
import Derived.Test.YtfhaanknijlamaaGreatWalkDeeds1
set_option maxRecDepth 100000
set_option maxHeartbeats 4000000
set_option linter.unusedSimpArgs false
set_option linter.unusedVariables false
set_option linter.unnecessarySimpa false
namespace Go.Proofs.YtfhaanknijlamaaGreat
open Go Go.Ab Go.ChangeShapes Go.WideShapes Go.ChangeAt Go.RowKit
namespace W
/-- From H to H' the box behind id, in memory of its own (fp), has come to y. -/
def BoxTo (H H' : Heap) (id : Nat) (fp : List Nat) (y : Box) : Prop := ∃ l' fp', blkAt H' id = some ⟨32, .wr, [l']⟩ ∧ IsBox H' l' y fp' ∧ id ∉ fp' ∧ Keep (id :: fp) H H' ∧ ∀ i ∈ fp', i ∈ fp ∨ H.length ≤ i
theorem BoxTo.leave {H HF : Heap} {id : Nat} {l : List Lf} {x y : Box} {fp : List Nat} (hb : blkAt H id = some ⟨32, .wr, [l]⟩) (hI : IsBox H l x fp) (hid : id ∉ fp) (h : BoxTo H HF id fp y) (ws : List W) : BoxTo H (Go.Ab.leave H HF ws) id fp y := by
  obtain ⟨l', fp', h1, h2, h3, h4, h5⟩ := h
  rcases leave_or H HF ws with e | ⟨e, G, rfl⟩ <;> rw [e]
  · exact ⟨l', fp', h1, h2, h3, h4, h5⟩
  · rw [blkAt_app hb] at h1
    injection h1 with h1
    simp at h1
    subst h1
    have := rdBox_uniq (hI.rd.app G) h2.rd
    subst this
    exact ⟨l, fp, hb, hI, hid, Keep.refl _ _, fun i hi => .inl hi⟩
theorem BoxTo.refl {H : Heap} {id : Nat} {l : List Lf} {x : Box} {fp : List Nat} (hb : blkAt H id = some ⟨32, .wr, [l]⟩) (hI : IsBox H l x fp) (hid : id ∉ fp) : BoxTo H H id fp x := ⟨l, fp, hb, hI, hid, Keep.refl _ _, fun i hi => .inl hi⟩
theorem BoxTo.app {H : Heap} {id : Nat} {l : List Lf} {x : Box} {fp : List Nat} (hb : blkAt H id = some ⟨32, .wr, [l]⟩) (hI : IsBox H l x fp) (hid : id ∉ fp) (G : Heap) : BoxTo H (H ++ G) id fp x := ⟨l, fp, blkAt_app hb G, hI.app G, hid, Keep.app _ _ _, fun i hi => .inl hi⟩
theorem BoxTo.trans {H H1 H2 : Heap} {id : Nat} {fp f1 : List Nat} {y : Box} (hk : Keep (id :: fp) H H1) (hf : ∀ i ∈ f1, i ∈ fp ∨ H.length ≤ i) (h : BoxTo H1 H2 id f1 y) : BoxTo H H2 id fp y := by
  obtain ⟨l', fp', h1, h2, h3, h4, h5⟩ := h
  have hl := hk.1
  refine ⟨l', fp', h1, h2, h3, hk.trans h4 (fun _ h _ => h) (fun i hi hlt => ?_), fun i hi => ?_⟩
  · rcases List.mem_cons.1 hi with rfl | hi
    · simp
    · rcases hf i hi with h | h
      · simp [h]
      · omega
  · rcases h5 i hi with h | h
    · exact hf i h
    · exact .inr (by omega)

/-- Other wires put into a box that is one's own. -/
theorem boxNet {H H2 : Heap} {id : Nat} {x : Box} {q0 q1' q2 q3 q4 : Lf} {f0 f1 f2 f3 f4 f1' : List Nat} {ws : List Wire} (hidl : id < H.length) (hid : id ∉ f0 ++ (f1 ++ (f2 ++ (f3 ++ f4)))) (i0 : IsMinderS H q0 x.two f0) (i2 : IsBoolS H q2 x.gates f2) (i3 : IsInS H q3 x.line f3) (i4 : IsOutS H q4 x.said f4)
    (hnd : (f0 ++ (f1 ++ (f2 ++ (f3 ++ f4)))).Nodup) (k : Keep f1 H H2) (o : IsWireS H2 q1' ws f1') (hf : ∀ i ∈ f1', i ∈ f1 ∨ H.length ≤ i) :
    BoxTo H (H2.set id (some ⟨32, .wr, [x.enc q0 q1' q2 q3 q4]⟩)) id (f0 ++ (f1 ++ (f2 ++ (f3 ++ f4)))) (setNet x ws) := by
  have ks := Keep.set (id := id) H2 (some ⟨32, .wr, [x.enc q0 q1' q2 q3 q4]⟩)
  have hlen := k.1
  have n0 := List.nodup_append.1 hnd
  have n1 := List.nodup_append.1 n0.2.1
  have n2 := List.nodup_append.1 n1.2.1
  have n3 := List.nodup_append.1 n2.2.1
  have x0 : ∀ i ∈ f0, i ∉ f1 := fun i hi hj => n0.2.2 i hi i (List.mem_append.2 (.inl hj)) rfl
  have x2 : ∀ i ∈ f2 ++ (f3 ++ f4), i ∉ f1 := fun i hi hj => n1.2.2 i hj i hi rfl
  have d0 : ∀ i ∈ f0, i ∉ [id] := fun i hi hj => by simp at hj; subst hj; exact hid (by simp [hi])
  have d2 : ∀ i ∈ f2 ++ (f3 ++ f4), i ∉ [id] := fun i hi hj => by simp at hj; subst hj; exact hid (by simp only [List.mem_append] at hi ⊢; exact .inr (.inr hi))
  have d1 : ∀ i ∈ f1', i ∉ [id] := fun i hi hj => by
    simp at hj
    subst hj
    rcases hf i hi with h | h
    · exact hid (by simp [h])
    · omega
  have l0 := i0.lt okMinder
  have l2 : ∀ i ∈ f2 ++ (f3 ++ f4), i < H.length := fun i hi => by
    simp only [List.mem_append] at hi
    rcases hi with h | h | h
    · exact i2.lt i h
    · exact i3.lt i h
    · exact i4.lt i h
  refine ⟨_, f0 ++ (f1' ++ (f2 ++ (f3 ++ f4))), blkAt_set (by omega), ⟨q0, q1', q2, q3, q4, f0, f1', f2, f3, f4, rfl, (i0.keep okMinder k x0).keep okMinder ks d0, o.keep ks d1, (i2.keep k (fun i hi => x2 i (by simp [hi]))).keep ks (fun i hi => d2 i (by simp [hi])), (i3.keep k (fun i hi => x2 i (by simp [hi]))).keep ks (fun i hi => d2 i (by simp [hi])), (i4.keep k (fun i hi => x2 i (by simp [hi]))).keep ks (fun i hi => d2 i (by simp [hi])), rfl, ?_⟩, ?_, ?_, ?_⟩
  · refine nodup_app n0.1 (nodup_app o.nodup n1.2.1 fun i hi hj => ?_) fun i hi hj => ?_
    · rcases hf i hi with h | h
      · exact x2 i hj h
      · have := l2 i hj; omega
    · rcases List.mem_append.1 hj with hj | hj
      · rcases hf i hj with h | h
        · exact x0 i hi h
        · have := l0 i hi; omega
      · exact n0.2.2 i hi i (List.mem_append.2 (.inr hj)) rfl
  · intro h
    simp only [List.mem_append] at h
    rcases h with h | h | h
    · exact d0 id h (by simp)
    · exact d1 id h (by simp)
    · exact d2 id (by simp only [List.mem_append]; exact h) (by simp)
  · exact k.trans ks (fun i hi _ => by simp [hi]) (fun i hi _ => by simp at hi; simp [hi])
  · intro i hi
    simp only [List.mem_append] at hi ⊢
    rcases hi with h | h | h
    · exact .inl (.inl h)
    · rcases hf i h with h | h
      · exact .inl (.inr (.inl h))
      · exact .inr h
    · exact .inl (.inr (.inr h))

theorem sendM {H : Heap} {id : Nat} {l : List Lf} {x : Box} {fp : List Nat} (hb : blkAt H id = some ⟨32, .wr, [l]⟩) (hI : IsBox H l x fp) (hid : id ∉ fp) (hn : x.net.length ≤ 1048576) (w : Wire) :
    Runs env 167 [.ptr id 0 0, .agg w.enc] H fun v H' => v = .int (sendD x w).2 ∧ BoxTo H H' id fp (sendD x w).1 := by
  have hb0 := hb
  have hI0 := hI
  obtain ⟨q0, q1, q2, q3, q4, f0, f1, f2, f3, f4, rfl, i0, ⟨a1, rfl, o1⟩, i2, i3, i4, rfl, hnd⟩ := hI
  have hidl := blkAt_len hb
  have fin : ∀ (HF : Heap) (tm : Ab.T), BoxTo H HF id (f0 ++ (f1 ++ (f2 ++ (f3 ++ f4)))) (sendD x w).1 → tm 4 = .int (sendD x w).2 → (∀ Q : Ex → Ab.T → Heap → Prop, (∀ e tm H', (∀ j, e ≠ .exit j) → (optK (resT env.τ tm H' (Tryz.f167.results.toList)) fun ws => resV ws = .int (sendD x w).2 ∧ BoxTo H (Go.Ab.leave H H' ws) id (f0 ++ (f1 ++ (f2 ++ (f3 ++ f4)))) (sendD x w).1) → Q e tm H') → Q .ret tm HF) := by
    intro HF tm h t4 Q hQ
    refine hQ _ _ _ (by simp) ?_
    simp [Tryz.f167, t4]
    exact h.leave hb0 hI0 hid _
  simp only [Box.enc] at hb
  have hbA := fun G => blkAt_app hb G
  refine Runs.walk ok167 Tryz.func167 rfl (by simp [Tryz.f167]) fun Q hQ => ?_
  simp only [Tryz.f167, strip, stripL, stripI, stripG, chkT, tagsB, tagsL, tagD, addT, tagA, lookN, tagOp, elmT, ty22, ty26, ty27, ty28, ty29, ty30, ty41, ty53, ty56, Nat.reduceEqDiff, if_false, reduceIte, Option.getD_some, Option.getD_none, dstAt, dstOk, Nat.reduceLT, decide_true, if_true]
  simp [hbA, builtinV, pureB, lenV, Wire.enc]
  have hid2 : id < H.length + 1 := by omega
  refine selS_intro (fun hc => ?_) (fun hc => ?_)
  · simp at hc
    have hs : sendD x w = (x, 4) := by rw [sendD, if_pos (by omega)]
    simp
    rw [hs] at fin hQ
    exact fin _ _ (BoxTo.app hb0 hI0 hid _) (by simp) _ hQ
  · simp at hc
    have hs : sendD x w = (setNet x (x.net ++ [w]), 0) := by rw [sendD, if_neg (by omega)]
    simp [hbA, hid2]
    refine stpL_append (e := 91) (rows := x.net.map Wire.enc) (ys := [w.enc]) (o1.app _) (Sl.of (by simp [Wire.enc])) rfl rfl rfl (by simp) (by simp; omega) (by simp) rfl fun a'' H'' fp'' ho'' hk'' hf'' => ?_
    have k1 : Keep f1 H H'' := hk''.base
    have hi1 : id ∉ f1 := fun h => hid (by simp [h])
    have b2 := k1.blk hb hi1
    have d2 := blkAt_len b2
    simp [b2, d2]
    rw [hs] at fin hQ
    refine fin _ _ ?_ (by simp) _ hQ
    have hf9 : ∀ i ∈ fp'', i ∈ f1 ∨ H.length ≤ i := fun i hi => (hf'' i hi).imp (fun h => h) (fun h => by rw [List.length_append] at h; omega)
    have hq : IsWireS H'' (.sl a'' (x.net.length + 1)) (x.net ++ [w]) fp'' := ⟨a'', by simp, by simpa using ho''⟩
    exact boxNet hidl hid i0 i2 i3 i4 hnd k1 hq hf9

theorem deleteM {H : Heap} {a : Option (Nat × Nat)} {xs : List Wire} {fp : List Nat} (ho : Own H 91 a (xs.map Wire.enc) fp) {i : Nat} (hi : i < xs.length) (hn : xs.length ≤ 1048576) :
    Runs env 166 [.w (.lf (.sl a xs.length)), .int i, .int ((i : Int) + 1)] H fun v H' => ∃ q, v = .w (.lf q) ∧ IsWireS H' q (xs.eraseIdx i) fp ∧ Keep fp H H' := by
  have hne : xs.map Wire.enc ≠ [] := by rintro h; have := congrArg List.length h; simp at this; subst this; simp at hi
  obtain ⟨id, b, rfl, rfl, hb, hbe, hbm, hpre⟩ := ho.blk hne
  obtain ⟨tl, htl⟩ := hpre
  have hid := blkAt_len hb
  have hbl : b.rows.length = xs.length + tl.length := by rw [← htl]; simp
  have g1 : ((i : Int) + 1).toNat = i + 1 := by omega
  have g2 : (0 : Int) ≤ (i : Int) + 1 := by omega
  have g3 : (i : Int) + 1 ≤ xs.length := by omega
  have g4 : ¬ (i : Int) = (i : Int) + 1 := by omega
  have g5 : (i : Int) ≤ xs.length := by omega
  have g6 : (i : Int) ≤ (i : Int) + 1 := by omega
  have hcase : ¬ (xs.length : Int) = 0 := by omega
  have hS1 : sliceW env.τ false H 27 (.w (.lf (.sl (some (id, 0)) xs.length))) (some (.int i)) (some (.int ((i : Int) + 1))) (some (.int xs.length)) = some (.bad, H) := by
    have h1 : sliceV env.τ H 27 (.w (.lf (.sl (some (id, 0)) xs.length))) (some (.int i)) (some (.int ((i : Int) + 1))) (some (.int xs.length)) = none := by
      unfold sliceV
      simp only [ty27]
      split
      all_goals first
        | rfl
        | (exfalso; rename_i h; injection h with h; injection h with h; injection h with h; injection h with h1 h2; omega)
        | (exfalso; simp_all; done)
    rw [sliceW, h1]
    simp [sliceX, bnd, g1, g2, g3, g5, g6]
  have hS2 : sliceW env.τ true H 27 (.w (.lf (.sl (some (id, 0)) xs.length))) none (some (.int i)) none = some (.sl id 0 i, H) := by
    refine sliceW_of ?_
    simp [sliceV, bnd, elemIs, hb, hbe, g5]
  have hS3 : sliceW env.τ true H 27 (.w (.lf (.sl (some (id, 0)) xs.length))) (some (.int ((i : Int) + 1))) none none = some (.sl id (i + 1) (xs.length - (i + 1)), H) := by
    refine sliceW_of ?_
    simp [sliceV, bnd, elemIs, hb, hbe, g1, g2, g3]
  obtain ⟨R1, hR1⟩ : ∃ R1, R1 = b.rows.take i ++ (b.rows.drop (i + 1)).take (xs.length - (i + 1)) ++ b.rows.drop (xs.length - 1) := ⟨_, rfl⟩
  have hA : appendB env.τ H [27, 27] [.sl id 0 i, .sl id (i + 1) (xs.length - (i + 1))] = some (.sl id 0 (xs.length - 1), H.set id (some ⟨91, .wr, R1⟩)) := by
    have hys : rowsOf H (some (id, i + 1)) (xs.length - (i + 1)) = some ((b.rows.drop (i + 1)).take (xs.length - (i + 1))) := by
      have h1 := sl_drop ho.sl (i + 1)
      have h2 := rowsOf_sl h1 (n := xs.length - (i + 1)) (by simp)
      rw [Nat.zero_add] at h2
      rw [h2]
      congr 1
      rw [← htl, List.drop_append_of_le_length (by simp; omega), List.take_append_of_le_length (by simp)]
      rw [List.take_of_length_le (by simp)]
    unfold appendB
    simp only [ty27]
    rw [hys]
    simp only []
    unfold appendV
    by_cases hlast : i + 1 = xs.length
    · have h0 : xs.length - (i + 1) = 0 := by omega
      have h1 : xs.length - 1 = i := by omega
      have h2 : R1 = b.rows := by rw [hR1, h0, h1]; simp
      have h3 : H.set id (some ⟨91, .wr, b.rows⟩) = H := by
        have h4 := blkAt_some hb
        have h5 : (some ⟨91, .wr, b.rows⟩ : Option Blk) = some b := by rw [← hbe, ← hbm]
        rw [h5]
        refine List.ext_getElem? fun j => ?_
        by_cases hj : id = j
        · subst hj; rw [List.getElem?_set_self hid, h4]
        · rw [List.getElem?_set_ne hj]
      rw [h0, h2, h3, h1]
      simp
    · have h1 : ((b.rows.drop (i + 1)).take (xs.length - (i + 1))).length = xs.length - (i + 1) := by rw [List.length_take, List.length_drop, hbl]; omega
      have h2 : ¬ (b.rows.drop (i + 1)).take (xs.length - (i + 1)) = [] := by intro h; have := congrArg List.length h; rw [h1] at this; simp at this; omega
      have h3 : i + (xs.length - (i + 1)) = xs.length - 1 := by omega
      simp only [ty91, if_neg h2, h1, h3, hb, hbe, hbm, Nat.zero_add, elemIs, beq_self_eq_true, or_true, reduceIte]
      rw [if_pos (by constructor <;> omega), if_pos (by omega), ← hR1]
  have b1 : blkAt (H.set id (some ⟨91, .wr, R1⟩)) id = some ⟨91, .wr, R1⟩ := blkAt_set hid
  have hR1l : R1.length = b.rows.length := by rw [hR1]; simp; omega
  have g7 : ((xs.length : Int) - 1) = ((xs.length - 1 : Nat) : Int) := by omega
  have hS4 : sliceW env.τ false (H.set id (some ⟨91, .wr, R1⟩)) 27 (.sl id 0 (xs.length - 1)) (some (.int ((xs.length - 1 : Nat) : Int))) (some (.int xs.length)) none = some (.sl id (xs.length - 1) 1, H.set id (some ⟨91, .wr, R1⟩)) := by
    have g8 : ¬ (xs.length : Int) ≤ ((xs.length - 1 : Nat) : Int) := by omega
    have g9 : (xs.length : Int) ≤ (R1.length : Int) := by omega
    have g10 : xs.length - (xs.length - 1) = 1 := by omega
    simp [sliceV, sliceX, bnd, elemIs, b1, g8, g9, g10]
  have hC : clearB env.τ (H.set id (some ⟨91, .wr, R1⟩)) [27] [.sl id (xs.length - 1) 1] = some (.tup [], H.set id (some ⟨91, .wr, R1.take (xs.length - 1) ++ [Wire.z] ++ R1.drop (xs.length - 1 + 1)⟩)) := by
    have g8 : xs.length - 1 + 1 ≤ R1.length := by omega
    simp [clearB, clearV, b1, g8, hid]
  refine Runs.walk ok166 Tryz.func166 rfl (by simp [Tryz.f166]) fun Q hQ => ?_
  simp only [Tryz.f166, strip, stripL, stripI, stripG, chkT, tagsB, tagsL, tagD, addT, tagA, lookN, tagOp, elmT, ty22, ty26, ty27, ty28, ty29, ty30, ty41, ty53, ty56, Nat.reduceEqDiff, if_false, reduceIte, Option.getD_some, Option.getD_none, dstAt, dstOk, Nat.reduceLT, decide_true, if_true]
  simp [-sliceW_eq, builtinV, pureB, lenV, hS1, g4, hS2, hS3, hA, hS4, hC]
  refine hQ _ _ _ (by simp) ?_
  have e1 : b.rows.take i = (xs.take i).map Wire.enc := by rw [← htl, List.take_append_of_le_length (by simp; omega), List.map_take]
  have e2 : (b.rows.drop (i + 1)).take (xs.length - (i + 1)) = (xs.drop (i + 1)).map Wire.enc := by rw [← htl, List.drop_append_of_le_length (by simp; omega), List.take_append_of_le_length (by simp), List.take_of_length_le (by simp), List.map_drop]
  have hlen : (xs.eraseIdx i).length = xs.length - 1 := List.length_eraseIdx_of_lt hi
  have hrows : R1.take (xs.length - 1) = (xs.eraseIdx i).map Wire.enc := by
    have h1 : ((xs.eraseIdx i).map Wire.enc).length = xs.length - 1 := by rw [List.length_map, hlen]
    have h2 : R1 = (xs.eraseIdx i).map Wire.enc ++ b.rows.drop (xs.length - 1) := by rw [hR1, e1, e2, List.eraseIdx_eq_take_drop_succ, List.map_append]
    rw [h2, ← h1, List.take_left]
  obtain ⟨HF, hHF⟩ : ∃ HF : Heap, HF = H.set id (some ⟨91, .wr, R1.take (xs.length - 1) ++ Wire.z :: R1.drop (xs.length - 1 + 1)⟩) := ⟨_, rfl⟩
  have hIF : IsWireS HF (.sl (some (id, 0)) (xs.length - 1)) (xs.eraseIdx i) [id] := ⟨some (id, 0), by rw [hlen], by rw [hHF]; exact .inr ⟨id, _, rfl, rfl, blkAt_set hid, rfl, .inl ⟨rfl, Wire.z :: R1.drop (xs.length - 1 + 1), by rw [hrows]⟩⟩⟩
  have hKF : Keep [id] H HF := by rw [hHF]; exact Keep.set _ _
  simp [Tryz.f166]
  rw [← hHF]
  rcases leave_or H HF [W.lf (.sl (some (id, 0)) (xs.length - 1))] with e | ⟨e, G, hG⟩ <;> rw [e]
  · exact ⟨hIF, hKF⟩
  · have hl : HF.length = H.length := by rw [hHF]; simp
    have hG0 : G = [] := by
      rw [hG, List.length_append] at hl
      exact List.length_eq_zero_iff.1 (by omega)
    rw [hG0, List.append_nil] at hG
    rw [hG] at hIF
    exact ⟨hIF, Keep.refl _ _⟩

theorem noteM {H : Heap} {id : Nat} {l : List Lf} {x : Box} {fp : List Nat} (hb : blkAt H id = some ⟨32, .wr, [l]⟩) (hI : IsBox H l x fp) (hid : id ∉ fp) (hok : x.ok = true) (hn : x.sz ≤ 1048576) (i : In) :
    Runs env 142 [.ptr id 0 0, .agg i.enc] H fun v H' => v = .int (inD x i).2 ∧ BoxTo H H' id fp (inD x i).1 := by
  have h2 := (Box.right hok).two
  have hidl := blkAt_len hb
  obtain ⟨B, hB⟩ : ∃ B : Option Blk, B = some ⟨64, .wr, [i.enc]⟩ := ⟨_, rfl⟩
  have e1 : run env 54 [.ptr id 0 0] (H ++ [B]) = some (.int (whoM x), H ++ [B]) := minderM (blkAt_app hb _) (hI.app _).rd h2 hn
  have e2 := fun H => implInOk H i
  simp only [In.enc] at hB e2
  refine Runs.walk ok142 Tryz.func142 rfl (by simp [Tryz.f142]) fun Q hQ => ?_
  simp only [Tryz.f142, strip, stripL, stripI, stripG, chkT, tagsB, tagsL, tagD, addT, tagA, lookN, tagOp, elmT, ty22, ty26, ty27, ty28, ty29, ty30, ty41, ty53, ty56, Nat.reduceEqDiff, if_false, reduceIte, Option.getD_some, Option.getD_none, dstAt, dstOk, Nat.reduceLT, decide_true, if_true]
  have fin : ∀ (HF : Heap) (tm : Ab.T) (c : Int) (y : Box), inD x i = (y, c) → BoxTo H HF id fp y → tm 4 = .int c → Q .ret tm HF := by
    intro HF tm c y h1 h t4
    refine hQ _ _ _ (by simp) ?_
    simp [Tryz.f142, t4, h1]
    exact h.leave hb hI hid _
  simp [In.enc, ← hB, e1]
  by_cases hneg : whoM x < 0
  · simp [hneg]
    exact fin _ _ 3 x (by rw [inD, if_pos (.inl hneg)]) (BoxTo.app hb hI hid _) (by simp)
  obtain ⟨s, hs2, hw⟩ : ∃ s : Nat, s < 2 ∧ whoM x = (s : Int) := by
    rcases whoM_cases x with ⟨h, -⟩ | ⟨h, -⟩ | ⟨h, -⟩
    · exact ⟨0, by omega, h⟩
    · exact ⟨1, by omega, h⟩
    · omega
  have hs : s < x.two.length := by omega
  rw [hw] at hneg ⊢
  obtain ⟨bid, blo, q1, q2, q3, q4, row, rfl, hbne, hbl, hbb, hbe, hbm, hrow, hrd, hput⟩ := boxTwo hb hI hid hs
  have hb0 := hb
  simp only [Box.enc] at hb
  have hbA := fun G => blkAt_app hb G
  have hbbA := fun G => blkAt_app hbb G
  have hidG := fun G => blkAt_len (hbA G)
  have hblG := fun G => blkAt_len (hbbA G)
  simp only [List.length_append, List.length_cons, List.length_nil] at hidG hblG
  cases hio : i.ok
  · simp [hneg, hB, e2, hio]
    exact fin _ _ 3 x (by rw [inD, if_pos (.inr (.inl hio))]) (BoxTo.app hb0 hI hid _) (by simp)
  have hid1 : id < H.length + 1 := by omega
  have hbl1 : bid < H.length + 1 := by omega
  by_cases hpo : x.ports ≤ i.port
  · simp [hneg, hB, e2, hio, hbA, hid1, hpo]
    exact fin _ _ 3 x (by rw [inD, if_pos (.inr (.inr hpo))]) (BoxTo.app hb0 hI hid _) (by simp)
  have hin : inD x i = if (note (mAt x (s : Int)) i).2 = true then (setTwo x s (note (mAt x (s : Int)) i).1, 0) else (x, 4) := by
    rw [inD, if_neg (by rw [hw, hio]; intro h; simp at h; omega), hw, Int.toNat_natCast]
  have hmA : mAt x (s : Int) = x.two[s] := by simp [mAt, List.getD, List.getElem?_eq_getElem hs]
  rw [hmA] at hin
  have hL := hrd.len
  have hT : row.take row.length = row := List.take_length
  rw [hL] at hT
  have hmsz : x.two[s].sz ≤ 1048576 := by
    have := MinderS.sz_at (List.getElem_mem hs)
    unfold Box.sz at hn
    omega
  have hrun := implNote_is (hrd.app [B]) hmsz i
  rw [hB] at hrun
  simp only [In.enc] at hrun
  have hs0 : (0 : Int) ≤ s := by omega
  have hsl : (s : Int) < x.two.length := by omega
  simp [hneg, hB, e2, hio, hbA, hid1, hpo, indexAddrV, elemIs, hbbA, hbl1, hbe, hs, hs0, hsl, hrow, hL, hT]
  refine stpL_runs_f hrun (by rintro _ _ ⟨_, _, _, _, hf⟩; exact hf.1) ?_
  rintro _ _ ⟨l2, f2, rfl, o2, ⟨⟨G2, rfl⟩, hf2⟩⟩
  have hL2 := o2.len
  have hT2 : l2.take l2.length = l2 := List.take_length
  rw [hL2] at hT2
  have hid2 : id < H.length + (1 + (G2.length + 1)) := by omega
  have hbl2 : bid < H.length + (1 + (G2.length + 1)) := by omega
  have hid3 : id < H.length + (G2.length + 1 + 1) := by omega
  have hbl3 : bid < H.length + (G2.length + 1 + 1) := by omega
  simp [hL2, hT2]
  cases hnote : (note x.two[s] i).2
  · rw [hnote] at hin
    simp
    exact fin _ _ 4 x hin (BoxTo.app hb0 hI hid _) (by simp)
  · rw [hnote] at hin
    have hDr : row.drop 7 = [] := by rw [← hL]; exact List.drop_length
    simp [hbA, hid2, hid3, indexAddrV, elemIs, hbbA, hbl2, hbl3, hbe, hs, hs0, hsl, hL2, hT2, hbm, hrow, hL, hDr]
    refine fin _ _ 0 _ hin ?_ (by simp)
    have o2' := o2.app [some ⟨52, .wr, [l2]⟩]
    simp only [List.append_assoc, List.cons_append, List.nil_append] at o2'
    obtain ⟨fp', z1, z2, z3, z4, z5⟩ := hput _ l2 _ f2 (Keep.app [] H _) o2' (fun i hi => by have := hf2 i hi; simp at this; omega)
    exact ⟨_, fp', z1, z2, z3, z4, z5⟩

theorem boxRow {H : Heap} {id : Nat} {l : List Lf} {x : Box} {fp : List Nat} (hb : blkAt H id = some ⟨32, .wr, [l]⟩) (hI : IsBox H l x fp) (hid : id ∉ fp) {bid : Nat} {blo : Blk} {q1 q2 q3 q4 : Lf} (hl : l = x.enc (.sl (some (bid, 0)) x.two.length) q1 q2 q3 q4) (hbb : blkAt H bid = some blo) {t : Nat} (ht : t < x.two.length) :
    ∃ row, blo.rows[t]? = some row ∧ RdMinder H row x.two[t] := by
  obtain ⟨bid2, blo2, r1, r2, r3, r4, row, e, -, -, hbb2, -, -, hrow, hrd, -⟩ := boxTwo hb hI hid ht
  rw [hl] at e
  simp only [Box.enc, List.cons.injEq, Lf.sl.injEq, Option.some.injEq, Prod.mk.injEq, and_true, true_and] at e
  obtain ⟨rfl, -⟩ := e
  rw [hbb] at hbb2
  injection hbb2 with hbb2
  subst hbb2
  exact ⟨row, hrow, hrd⟩

theorem riseM {H : Heap} {id : Nat} {l : List Lf} {x : Box} {fp : List Nat} (hb : blkAt H id = some ⟨32, .wr, [l]⟩) (hI : IsBox H l x fp) (hid : id ∉ fp) (hok : x.ok = true) {s : Nat} (hs2 : s < 2) :
    Runs env 172 [.ptr id 0 0, .int s] H fun v H' => v = .tup [] ∧ BoxTo H H' id fp (setTwo x s (newLife x)) := by
  have h2 := (Box.right hok).two
  have hidl := blkAt_len hb
  have hs : s < x.two.length := by omega
  obtain ⟨bid, blo, q1, q2, q3, q4, row, hl, hbne, hbl, hbb, hbe, hbm, hrow, hrd, hput⟩ := boxTwo hb hI hid hs
  obtain ⟨row0, hrow0, hrd0⟩ := boxRow hb hI hid hl hbb (t := 0) (by omega)
  obtain ⟨row1, hrow1, hrd1⟩ := boxRow hb hI hid hl hbb (t := 1) (by omega)
  subst hl
  obtain ⟨a0, rfl, -⟩ := hrd0
  obtain ⟨a1, rfl, -⟩ := hrd1
  have hb0 := hb
  simp only [Box.enc] at hb
  have hL := hrd.len
  have hDr : row.drop 7 = [] := by rw [← hL]; exact List.drop_length
  have m0 := (Box.right hok).ok _ (List.getElem_mem (show 0 < x.two.length by omega))
  have m1 := (Box.right hok).ok _ (List.getElem_mem (show 1 < x.two.length by omega))
  have l0 : 0 ≤ x.two[0].life ∧ x.two[0].life ≤ 100000 := by simp [Minder.ok] at m0; omega
  have l1 : 0 ≤ x.two[1].life ∧ x.two[1].life ≤ 100000 := by simp [Minder.ok] at m1; omega
  have hs0 : (0 : Int) ≤ s := by omega
  have hsl : (s : Int) < x.two.length := by omega
  have e0 : mAt x 0 = x.two[0] := by simp [mAt, List.getD, List.getElem?_eq_getElem (show 0 < x.two.length by omega)]
  have e1 : mAt x 1 = x.two[1] := by simp [mAt, List.getD, List.getElem?_eq_getElem (show 1 < x.two.length by omega)]
  obtain ⟨M, hM⟩ : ∃ M, M = max x.two[0].life x.two[1].life := ⟨_, rfl⟩
  have hMx : (if x.two[0].life < x.two[1].life then x.two[1].life else x.two[0].life) = M := by rw [hM]; split <;> omega
  have hw : IntKind.i64.wrap (M + 1) = M + 1 := wrap64 (by omega) (by omega)
  have hnl : newLife x = ⟨true, M + 1, 0, [], 0, 0, 0⟩ := by rw [newLife, e0, e1, hM]
  have hsl2 : (s : Int) < 2 := by omega
  have g0 : (0 : Int) < x.two.length := by omega
  have g1 : (1 : Int) < x.two.length := by omega
  refine Runs.walk ok172 Tryz.func172 rfl (by simp [Tryz.f172]) fun Q hQ => ?_
  simp only [Tryz.f172, strip, stripL, stripI, stripG, chkT, tagsB, tagsL, tagD, addT, tagA, lookN, tagOp, elmT, ty22, ty26, ty27, ty28, ty29, ty30, ty41, ty53, ty56, Nat.reduceEqDiff, if_false, reduceIte, Option.getD_some, Option.getD_none, dstAt, dstOk, Nat.reduceLT, decide_true, if_true]
  simp [hb, hidl, indexAddrV, elemIs, hbb, hbe, hbl, hs, hs0, hsl, h2, hrow0, hrow1, Minder.enc, builtinV, pureB, foldI, hMx, hw, hbm, hrow, hL, hDr, hs2, hsl2]
  refine hQ _ _ _ (by simp) ?_
  simp [Tryz.f172]
  refine BoxTo.leave hb0 hI hid ?_ _
  obtain ⟨fp', z1, z2, z3, z4, z5⟩ := hput H [.b true, .i .i64 (M + 1), .i .i64 0, .sl none 0, .i .i64 0, .i .i64 0, .i .i64 0] (newLife x) [] (Keep.refl _ _) (by rw [hnl]; exact ⟨none, rfl, Own.nil _ _⟩) (by simp)
  exact ⟨_, fp', z1, z2, z3, z4, z5⟩

/-- Another register put into a box that is one's own. -/
theorem boxReg {H H1 : Heap} {id : Nat} {x : Box} {q0 q1 q2 q3 q4 : Lf} {fp : List Nat} (hidl : id < H.length) (hI : IsBox H (x.enc q0 q1 q2 q3 q4) x fp) (hid : id ∉ fp) (k : Keep [] H H1) (r : Reg) :
    BoxTo H (H1.set id (some ⟨32, .wr, [(setReg x r).enc q0 q1 q2 q3 q4]⟩)) id fp (setReg x r) := by
  have ks := Keep.set (id := id) H1 (some ⟨32, .wr, [(setReg x r).enc q0 q1 q2 q3 q4]⟩)
  have hl := k.1
  have h2 := (hI.keep k (by simp)).keep ks (fun i hi hj => by simp at hj; subst hj; exact hid hi)
  obtain ⟨r0, r1, r2, r3, r4, f0, f1, f2, f3, f4, e, i0, i1, i2, i3, i4, hf, hnd⟩ := h2
  simp only [Box.enc, List.cons.injEq, and_true, true_and] at e
  obtain ⟨rfl, rfl, rfl, rfl, rfl⟩ := e
  exact ⟨_, fp, blkAt_set (by omega), ⟨q0, q1, q2, q3, q4, f0, f1, f2, f3, f4, rfl, i0, i1, i2, i3, i4, hf, hnd⟩, hid, k.trans ks (by simp) (fun i hi _ => by simp at hi; simp [hi]), fun i hi => .inl hi⟩

theorem pairM {H : Heap} {id : Nat} {l : List Lf} {x : Box} {fp : List Nat} (hb : blkAt H id = some ⟨32, .wr, [l]⟩) (hI : IsBox H l x fp) (hid : id ∉ fp) (hok : x.ok = true) (hn : x.sz ≤ 1048576) {s : Nat} (hs2 : s < 2) (p : Int) (hp : I64 p) :
    Runs env 171 [.ptr id 0 0, .int s, .int p] H fun v H' => v = .int (pairD x s p).2 ∧ BoxTo H H' id fp (pairD x s p).1 := by
  have h2 := (Box.right hok).two
  have hidl := blkAt_len hb
  have hs : s < x.two.length := by omega
  obtain ⟨bid, blo, q1, q2, q3, q4, row, rfl, hbne, hbl, hbb, hbe, hbm, hrow, hrd, -⟩ := boxTwo hb hI hid hs
  have hb0 := hb
  simp only [Box.enc] at hb
  have hL := hrd.len
  have hT : row.take row.length = row := List.take_length
  rw [hL] at hT
  have hmsz : x.two[s].sz ≤ 1048576 := by
    have := MinderS.sz_at (List.getElem_mem hs)
    unfold Box.sz at hn
    omega
  have e1 := implPairs_is hrd hmsz x.reg s (by unfold I64; omega) p hp
  simp only [Reg.enc] at e1
  have hmA : mAt x (s : Int) = x.two[s] := by simp [mAt, List.getD, List.getElem?_eq_getElem hs]
  have hpD : pairD x s p = if (pairs x.reg s x.two[s] p).2 = true then (setReg x (pairs x.reg s x.two[s] p).1, 0) else (x, 3) := by rw [pairD, hmA]
  have hs0 : (0 : Int) ≤ s := by omega
  have hsl : (s : Int) < x.two.length := by omega
  have hsl2 : (s : Int) < 2 := by omega
  refine Runs.walk ok171 Tryz.func171 rfl (by simp [Tryz.f171]) fun Q hQ => ?_
  simp only [Tryz.f171, strip, stripL, stripI, stripG, chkT, tagsB, tagsL, tagD, addT, tagA, lookN, tagOp, elmT, ty22, ty26, ty27, ty28, ty29, ty30, ty41, ty53, ty56, Nat.reduceEqDiff, if_false, reduceIte, Option.getD_some, Option.getD_none, dstAt, dstOk, Nat.reduceLT, decide_true, if_true]
  have fin : ∀ (HF : Heap) (tm : Ab.T) (c : Int) (y : Box), pairD x s p = (y, c) → BoxTo H HF id fp y → tm 6 = .int c → Q .ret tm HF := by
    intro HF tm c y h1 h t4
    refine hQ _ _ _ (by simp) ?_
    simp [Tryz.f171, t4, h1]
    exact h.leave hb0 hI hid _
  have hbA := fun G => blkAt_app hb G
  have hid1 : id < H.length + 1 := by omega
  simp [hb, hidl, indexAddrV, elemIs, hbb, hbe, hbl, hs, hs0, hsl, hsl2, h2, hrow, hL, hT, e1]
  cases hpr : (pairs x.reg s x.two[s] p).2
  · rw [hpr] at hpD
    simp
    exact fin _ _ 3 x hpD (BoxTo.app hb0 hI hid _) (by simp)
  · rw [hpr] at hpD
    simp [hbA, hid1]
    exact fin _ _ 0 _ hpD (boxReg hidl hI hid (Keep.app [] H _) (pairs x.reg s x.two[s] p).1) (by simp)

theorem takeM {H : Heap} {id : Nat} {l : List Lf} {x : Box} {fp : List Nat} (hb : blkAt H id = some ⟨32, .wr, [l]⟩) (hI : IsBox H l x fp) (hid : id ∉ fp) (hok : x.ok = true) (hn : x.sz ≤ 1048576) {s : Nat} (hs2 : s < 2) :
    Runs env 170 [.ptr id 0 0, .int s] H fun v H' => v = .int (takeD x s).2 ∧ BoxTo H H' id fp (takeD x s).1 := by
  have h2 := (Box.right hok).two
  have hidl := blkAt_len hb
  have hs : s < x.two.length := by omega
  obtain ⟨bid, blo, q1, q2, q3, q4, row, rfl, hbne, hbl, hbb, hbe, hbm, hrow, hrd, hput⟩ := boxTwo hb hI hid hs
  have hb0 := hb
  simp only [Box.enc] at hb
  have hL := hrd.len
  have hT : row.take row.length = row := List.take_length
  have hDr : row.drop 7 = [] := by rw [← hL]; exact List.drop_length
  rw [hL] at hT
  have hmsz : x.two[s].sz ≤ 1048576 := by
    have := MinderS.sz_at (List.getElem_mem hs)
    unfold Box.sz at hn
    omega
  have hrun := implTake_is hrd hmsz x.reg s (by unfold I64; omega)
  simp only [Reg.enc] at hrun
  have e2 := fun G => implReleased_is (hI.rd.app G) hn
  simp only [Box.enc, h2] at e2
  have hmA : mAt x (s : Int) = x.two[s] := by simp [mAt, List.getD, List.getElem?_eq_getElem hs]
  obtain ⟨t, htt⟩ : ∃ t, t = takeR x.reg s x.two[s] := ⟨_, rfl⟩
  have htD : takeD x s = if t.2.2 = false then (x, 3) else if t.2.1.log.length < x.line.length then (x, 4) else (setTwo (setReg x t.1) s ⟨t.2.1.up, t.2.1.life, t.2.1.epoch, t.2.1.log, x.line.length, t.2.1.acked, t.2.1.ackLife⟩, 0) := by rw [takeD, hmA, ← htt]; rfl
  rw [← htt] at hrun
  have hs0 : (0 : Int) ≤ s := by omega
  have hsl : (s : Int) < x.two.length := by omega
  have hsl2 : (s : Int) < 2 := by omega
  refine Runs.walk ok170 Tryz.func170 rfl (by simp [Tryz.f170]) fun Q hQ => ?_
  simp only [Tryz.f170, strip, stripL, stripI, stripG, chkT, tagsB, tagsL, tagD, addT, tagA, lookN, tagOp, elmT, ty22, ty26, ty27, ty28, ty29, ty30, ty41, ty53, ty56, Nat.reduceEqDiff, if_false, reduceIte, Option.getD_some, Option.getD_none, dstAt, dstOk, Nat.reduceLT, decide_true, if_true]
  have fin : ∀ (HF : Heap) (tm : Ab.T) (c : Int) (y : Box), takeD x s = (y, c) → BoxTo H HF id fp y → tm 4 = .int c → Q .ret tm HF := by
    intro HF tm c y h1 h t4
    refine hQ _ _ _ (by simp) ?_
    simp [Tryz.f170, t4, h1]
    exact h.leave hb0 hI hid _
  have hbA := fun G => blkAt_app hb G
  have hbbA := fun G => blkAt_app hbb G
  have hid1 : id < H.length + 1 := by omega
  simp [hb, hidl, indexAddrV, elemIs, hbb, hbe, hbl, hs, hs0, hsl, hsl2, h2, hrow, hL, hT]
  refine stpL_runs_f hrun (by rintro _ _ ⟨_, _, _, _, hf⟩; exact hf.1) ?_
  rintro _ _ ⟨l2, f2, rfl, o2, ⟨⟨G2, rfl⟩, hf2⟩⟩
  have hL2 := o2.len
  have hT2 : l2.take l2.length = l2 := List.take_length
  rw [hL2] at hT2
  simp [hL2, hT2]
  cases htk : t.2.2
  · rw [if_pos htk] at htD
    simp
    exact fin _ _ 3 x htD (BoxTo.app hb0 hI hid _) (by simp)
  rw [if_neg (by simp [htk])] at htD
  have o2c := o2
  obtain ⟨a2, rfl, o2x⟩ := o2
  have hid2 : id < H.length + (G2.length + (1 + 1)) := by omega
  have hid3 : id < H.length + (G2.length + 1 + 1) := by omega
  have hid4 : id < H.length + (G2.length + 2) := by omega
  simp [Minder.enc, hbA, hid2, hid3, hid4, builtinV, pureB, lenV, h2, e2]
  have hbl2 : bid < H.length + (G2.length + 2) := by omega
  have hbl3 : bid < H.length + (G2.length + (1 + 1)) := by omega
  refine selS_intro (fun hc => ?_) (fun hc => ?_)
  · simp at hc
    rw [if_pos hc] at htD
    simp
    exact fin _ _ 4 x htD (BoxTo.app hb0 hI hid _) (by simp)
  · simp at hc
    rw [if_neg (by omega)] at htD
    have hset : ∀ (X : Heap) (y : Option Blk), blkAt (X.set id y) bid = blkAt X bid := fun X y => blkAt_set_ne (Ne.symm hbne)
    simp [hset, hbA, hid2, hid3, hid4, h2, e2, hbbA, hbl2, hbl3, indexAddrV, elemIs, hbe, hs, hs0, hsl, hsl2, hbm, hrow, hL, hDr]
    refine fin _ _ 0 _ htD ?_ (by simp)
    have om := o2c.app [some ⟨25, .wr, [[.i .i64 t.1.epoch, .i .i64 t.1.owner, .i .i64 t.1.pair]]⟩, some ⟨52, .wr, [[.b t.2.1.up, .i .i64 t.2.1.life, .i .i64 t.2.1.epoch, .sl a2 t.2.1.log.length, .i .i64 x.line.length, .i .i64 t.2.1.acked, .i .i64 t.2.1.ackLife]]⟩]
    obtain ⟨b2, hb2e, ob2⟩ := om
    simp only [Minder.enc, List.cons.injEq, Lf.sl.injEq, and_true, true_and] at hb2e
    subst hb2e
    simp only [List.append_assoc] at ob2
    obtain ⟨X, hX⟩ : ∃ X : Heap, X = H ++ (G2 ++ [some ⟨25, .wr, [[.i .i64 t.1.epoch, .i .i64 t.1.owner, .i .i64 t.1.pair]]⟩, some ⟨52, .wr, [[.b t.2.1.up, .i .i64 t.2.1.life, .i .i64 t.2.1.epoch, .sl a2 t.2.1.log.length, .i .i64 x.line.length, .i .i64 t.2.1.acked, .i .i64 t.2.1.ackLife]]⟩]) := ⟨_, rfl⟩
    have kX : Keep [] H X := by rw [hX]; exact Keep.app _ _ _
    rw [← hX] at ob2 ⊢
    clear hX
    obtain ⟨fp', z1, z2, z3, z4, z5⟩ := hput X _ ⟨t.2.1.up, t.2.1.life, t.2.1.epoch, t.2.1.log, x.line.length, t.2.1.acked, t.2.1.ackLife⟩ f2 kX ⟨a2, rfl, ob2⟩ (fun i hi => by have := hf2 i hi; simpa using this)
    have hcomm : ∀ A B : Option Blk, (X.set id A).set bid B = (X.set bid B).set id A := fun A B => List.set_comm A B (Ne.symm hbne)
    rw [hcomm]
    rw [← h2]
    have z2' : IsBox _ ((setTwo x s ⟨t.2.1.up, t.2.1.life, t.2.1.epoch, t.2.1.log, x.line.length, t.2.1.acked, t.2.1.ackLife⟩).enc (.sl (some (bid, 0)) x.two.length) q1 q2 q3 q4) _ fp' := z2
    have z := boxReg (blkAt_len z1) z2' z3 (Keep.refl [] _) t.1
    exact BoxTo.trans z4 z5 z

theorem shipM {H : Heap} {id : Nat} {l : List Lf} {x : Box} {fp : List Nat} (hb : blkAt H id = some ⟨32, .wr, [l]⟩) (hI : IsBox H l x fp) (hid : id ∉ fp) (hok : x.ok = true) (hn : x.sz ≤ 1048576) {s : Nat} (hs2 : s < 2) :
    Runs env 169 [.ptr id 0 0, .int s] H fun v H' => v = .int (shipD x s).2 ∧ BoxTo H H' id fp (shipD x s).1 := by
  have h2 := (Box.right hok).two
  have hidl := blkAt_len hb
  have hs : s < x.two.length := by omega
  obtain ⟨o, ho⟩ : ∃ o : Nat, o = 1 - s := ⟨_, rfl⟩
  have hol : o < x.two.length := by omega
  obtain ⟨bid, blo, q1, q2, q3, q4, row, hl, hbne, hbl, hbb, hbe, hbm, hrow, hrd, -⟩ := boxTwo hb hI hid hs
  obtain ⟨row2, hrow2, hrd2⟩ := boxRow hb hI hid hl hbb hol
  subst hl
  have hb0 := hb
  simp only [Box.enc] at hb
  have hmsz : x.two[s].sz ≤ 1048576 := by
    have := MinderS.sz_at (List.getElem_mem hs)
    unfold Box.sz at hn
    omega
  have mok := (Box.right hok).ok _ (List.getElem_mem hs)
  obtain ⟨m, hm⟩ : ∃ m, m = x.two[s] := ⟨_, rfl⟩
  obtain ⟨n, hnn⟩ : ∃ n, n = x.two[o] := ⟨_, rfl⟩
  rw [← hm] at hrd hmsz mok
  rw [← hnn] at hrd2
  have e1 := fun G => implMinds_is (hrd.app G) hmsz x.reg s (by unfold I64; omega)
  have hmA : mAt x (s : Int) = m := by simp [mAt, List.getD, List.getElem?_eq_getElem hs, hm]
  have hos : (1 : Int) - s = (o : Int) := by omega
  have hnA : mAt x (1 - (s : Int)) = n := by rw [hos]; simp [mAt, List.getD, List.getElem?_eq_getElem hol, hnn]
  obtain ⟨a, rfl, hsl⟩ := hrd
  obtain ⟨a2, rfl, -⟩ := hrd2
  simp only [Reg.enc, Minder.enc] at e1
  have hsD : shipD x s = if minds x.reg s m = false ∨ (m.log.length : Int) ≤ nextN m n.life then (x, 3) else sendD x ⟨s, false, n.life, nextN m n.life, m.log.getD (nextN m n.life).toNat default⟩ := by rw [shipD, hmA, hnA]
  have hw : IntKind.i64.wrap (1 - (s : Int)) = (o : Int) := by rw [hos]; exact wrap64 (by omega) (by omega)
  have hs0 : (0 : Int) ≤ s := by omega
  have hsl2 : (s : Int) < 2 := by omega
  have ho0 : (0 : Int) ≤ o := by omega
  have hol2 : (o : Int) < 2 := by omega
  have hot : o < 2 := by omega
  have hac : 0 ≤ m.acked ∧ m.acked ≤ m.log.length := by simp [Minder.ok] at mok; omega
  refine Runs.walk ok169 Tryz.func169 rfl (by simp [Tryz.f169]) fun Q hQ => ?_
  simp only [Tryz.f169, strip, stripL, stripI, stripG, chkT, tagsB, tagsL, tagD, addT, tagA, lookN, tagOp, elmT, ty22, ty26, ty27, ty28, ty29, ty30, ty41, ty53, ty56, Nat.reduceEqDiff, if_false, reduceIte, Option.getD_some, Option.getD_none, dstAt, dstOk, Nat.reduceLT, decide_true, if_true]
  have fin : ∀ (HF : Heap) (tm : Ab.T) (c : Int) (y : Box), shipD x s = (y, c) → BoxTo H HF id fp y → tm 4 = .int c → Q .ret tm HF := by
    intro HF tm c y h1 h t4
    refine hQ _ _ _ (by simp) ?_
    simp [Tryz.f169, t4, h1]
    exact h.leave hb0 hI hid _
  have hbA := fun G => blkAt_app hb G
  have hbbA := fun G => blkAt_app hbb G
  have hid2 : id < H.length + 2 := by omega
  have hbl2 : bid < H.length + 2 := by omega
  simp [hb, hidl, indexAddrV, elemIs, hbb, hbe, hbl, hs2, hs0, hsl2, h2, hrow, hrow2, hw, ho0, hol2, hot, Minder.enc]
  have e1' := fun G => e1 G
  simp only [h2] at hbA
  have hca : ∀ c : Int, nextN m n.life = c → 0 ≤ c ∧ c ≤ m.log.length := by intro c h; rw [← h, nextN]; split <;> omega
  by_cases hal : m.ackLife = n.life
  · have hN : nextN m n.life = m.acked := by rw [nextN, if_pos hal]
    rw [hN] at hsD
    simp only [hal] at e1
    simp [hal, hbA, hid2, e1]
    cases hmi : minds x.reg s m
    · simp [hmi]
      exact fin _ _ 3 x (by rw [hsD, if_pos (.inl hmi)]) (BoxTo.app hb0 hI hid _) (by simp)
    · obtain ⟨c, hc⟩ : ∃ c : Nat, m.acked = (c : Int) := ⟨m.acked.toNat, by omega⟩
      by_cases hle : (m.log.length : Int) ≤ m.acked
      · have hle' : m.log.length ≤ c := by omega
        simp [hmi, hc, hle', builtinV, pureB, lenV]
        exact fin _ _ 3 x (by rw [hsD, if_pos (.inr hle)]) (BoxTo.app hb0 hI hid _) (by simp)
      · have hcl : c < m.log.length := by omega
        have hle' : ¬ m.log.length ≤ c := by omega
        rw [if_neg (by rw [hmi]; simp; omega)] at hsD
        obtain ⟨id3, r3, bl3, rfl, hbl3, hbe3, hrow3⟩ := hsl c _ (by simp [hcl]; rfl)
        have hgd : m.log.getD m.acked.toNat default = m.log[c] := by rw [hc, Int.toNat_natCast]; simp [List.getD, List.getElem?_eq_getElem hcl]
        rw [hgd] at hsD
        have hid3 := blkAt_len hbl3
        have hbA3 := fun G => blkAt_app hbl3 G
        have hid4 : id3 < H.length + 2 := by omega
        have hrun := fun G => sendM (blkAt_app hb0 G) (hI.app G) hid (by unfold Box.sz at hn; omega) ⟨s, false, n.life, m.acked, m.log[c]⟩
        simp only [Wire.enc, hc] at hrun
        simp only [hc] at hsD
        simp [hmi, hc, hle', hcl, builtinV, pureB, lenV, indexAddrV, elemIs, hbA3, hid4, hbe3, hrow3, In.enc]
        refine stpL_runs_w (hrun _) rfl (by rintro _ _ ⟨_, _, _, _, _, _, hk, _⟩; exact hk.1) ?_
        rintro _ H' ⟨rfl, hto⟩
        simp
        exact fin _ _ (sendD x ⟨s, false, n.life, c, m.log[c]⟩).2 (sendD x ⟨s, false, n.life, c, m.log[c]⟩).1 hsD (BoxTo.trans (Keep.app _ _ _) (fun i hi => .inl hi) hto) (by simp)
  · have hN : nextN m n.life = 0 := by rw [nextN, if_neg hal]
    rw [hN] at hsD
    simp [hal, hbA, hid2, e1]
    cases hmi : minds x.reg s m
    · simp [hmi]
      exact fin _ _ 3 x (by rw [hsD, if_pos (.inl hmi)]) (BoxTo.app hb0 hI hid _) (by simp)
    · by_cases hle : (m.log.length : Int) ≤ 0
      · have hle' : m.log = [] := List.length_eq_zero_iff.1 (by omega)
        simp [hmi, hle', builtinV, pureB, lenV]
        exact fin _ _ 3 x (by rw [hsD, if_pos (.inr hle)]) (BoxTo.app hb0 hI hid _) (by simp)
      · have hcl : 0 < m.log.length := by omega
        have hle' : ¬ m.log = [] := by intro h; rw [h] at hcl; simp at hcl
        rw [if_neg (by rw [hmi]; simp; exact hle')] at hsD
        obtain ⟨id3, r3, bl3, rfl, hbl3, hbe3, hrow3⟩ := hsl 0 _ (by simp [hcl]; rfl)
        rw [Nat.add_zero] at hrow3
        have hgd : m.log.getD (0 : Int).toNat default = m.log[0] := by simp [List.getD, List.getElem?_eq_getElem hcl]
        rw [hgd] at hsD
        have hid3 := blkAt_len hbl3
        have hbA3 := fun G => blkAt_app hbl3 G
        have hid4 : id3 < H.length + 2 := by omega
        have hcl' : (0 : Int) < m.log.length := by omega
        have hrun := fun G => sendM (blkAt_app hb0 G) (hI.app G) hid (by unfold Box.sz at hn; omega) ⟨s, false, n.life, 0, m.log[0]⟩
        simp only [Wire.enc] at hrun
        simp [hmi, hle', hcl, hcl', builtinV, pureB, lenV, indexAddrV, elemIs, hbA3, hid4, hbe3, hrow3, In.enc]
        refine stpL_runs_w (hrun _) rfl (by rintro _ _ ⟨_, _, _, _, _, _, hk, _⟩; exact hk.1) ?_
        rintro _ H' ⟨rfl, hto⟩
        simp
        exact fin _ _ (sendD x ⟨s, false, n.life, 0, m.log[0]⟩).2 (sendD x ⟨s, false, n.life, 0, m.log[0]⟩).1 hsD (BoxTo.trans (Keep.app _ _ _) (fun i hi => .inl hi) hto) (by simp)

/-- The same, where the minder put there may keep the other's memory. -/
theorem boxTwoOwn {H : Heap} {id : Nat} {l : List Lf} {x : Box} {fp : List Nat} (hb : blkAt H id = some ⟨32, .wr, [l]⟩) (hI : IsBox H l x fp) (hid : id ∉ fp) {s : Nat} (hs : s < x.two.length) :
    ∃ (bid : Nat) (blo : Blk) (q1 q2 q3 q4 : Lf) (row : List Lf) (fs : List Nat), l = x.enc (.sl (some (bid, 0)) x.two.length) q1 q2 q3 q4 ∧ bid ≠ id ∧ bid < H.length ∧ blkAt H bid = some blo ∧ blo.elem = 52 ∧ blo.md = .wr ∧ blo.rows[s]? = some row ∧ IsMinder H row x.two[s] fs ∧ bid ∉ fs ∧ id ∉ fs ∧
      ∀ (H1 : Heap) (l2 : List Lf) (m : Minder) (f2 : List Nat), Keep [] H H1 → IsMinder H1 l2 m f2 → (∀ i ∈ f2, i ∈ fs ∨ H.length ≤ i) →
        ∃ fp', blkAt (H1.set bid (some ⟨52, .wr, blo.rows.set s l2⟩)) id = some ⟨32, .wr, [l]⟩ ∧ IsBox (H1.set bid (some ⟨52, .wr, blo.rows.set s l2⟩)) l (setTwo x s m) fp' ∧ id ∉ fp' ∧ Keep (id :: fp) H (H1.set bid (some ⟨52, .wr, blo.rows.set s l2⟩)) ∧ ∀ i ∈ fp', i ∈ fp ∨ H.length ≤ i := by
  obtain ⟨q0, q1, q2, q3, q4, f0, f1, f2', f3, f4, rfl, ⟨a, rows, fp0, fps, rfl, ho, hp, rfl, hnd0⟩, i1, i2, i3, i4, rfl, hnd⟩ := hI
  obtain ⟨h1, h2, h3⟩ := hp.get hs
  obtain ⟨bid, blo, rfl, hf0, hbb, hbe, hbm, hpre⟩ := ho.blk (by rintro rfl; simp at h1)
  obtain ⟨tl, htl⟩ := hpre
  have hbi : bid ∈ fp0 := ho.ids bid 0 rfl
  have hdis : ∀ i ∈ fp0, i ∉ fps.flatten := fun i hi hj => (List.nodup_append.1 hnd0).2.2 i hi i hj rfl
  have hbid : bid ≠ id := fun h => hid (by simp [← h, hbi])
  have hltR : ∀ i ∈ f1 ++ (f2' ++ (f3 ++ f4)), i < H.length := by
    intro i hi
    simp only [List.mem_append] at hi
    rcases hi with h | h | h | h
    · exact i1.lt i h
    · exact i2.lt i h
    · exact i3.lt i h
    · exact i4.lt i h
  have hnR : ∀ i ∈ f1 ++ (f2' ++ (f3 ++ f4)), i ∉ fp0 ++ fps.flatten := fun i hi hj => (List.nodup_append.1 hnd).2.2 i hj i hi rfl
  have hfs : ∀ i ∈ fps[s], i ∈ fps.flatten := fun i hi => flat_mem (List.getElem?_eq_getElem h2) hi
  have hget : fps[s]?.getD [] = fps[s] := by rw [List.getElem?_eq_getElem h2]; rfl
  refine ⟨bid, blo, q1, q2, q3, q4, rows[s], fps[s], rfl, hbid, blkAt_len hbb, hbb, hbe, hbm, ?_, h3, fun h => hdis bid hbi (hfs _ h), fun h => hid (by simp only [List.mem_append]; exact .inl (.inr (hfs _ h))), ?_⟩
  · rw [← htl, List.getElem?_append_left h1, List.getElem?_eq_getElem h1]
  · intro H1 l2 m f2 hk hm hf2
    have hb1 := hk.blk hbb (by simp)
    have hlb := blkAt_len hbb
    have o1 := (ho.keep hk (by simp)).set (row := l2) hb1 h1
    rw [hbe, hbm] at o1
    have hp1 := hp.turn okMinder (H' := H1) (i := s) (row := l2) (x := m) (g := f2) (hk.more (by simp)) hs hm (fun j hj => by rw [hget]; exact hf2 j hj)
    have hfl : ∀ k ∈ (fps.set s f2).flatten, k ∈ fps.flatten ∨ H.length ≤ k := fun k hk => by
      obtain ⟨f, hf, hkf⟩ := List.mem_flatten.1 hk
      rcases List.mem_or_eq_of_mem_set hf with hf | rfl
      · exact .inl (List.mem_flatten.2 ⟨f, hf, hkf⟩)
      · exact (hf2 k hkf).imp (hfs k) (fun h => h)
    have ks := Keep.set (id := bid) H1 (some ⟨52, .wr, blo.rows.set s l2⟩)
    have hp2 := hp1.keep okMinder ks (fun j hj hj' => by
      simp at hj'
      rcases hfl j hj with h | h
      · exact hdis bid hbi (hj' ▸ h)
      · omega)
    have kR : Keep [bid] H (H1.set bid (some ⟨52, .wr, blo.rows.set s l2⟩)) := hk.trans ks (by simp) (fun _ h _ => h)
    have nR : ∀ i ∈ f1 ++ (f2' ++ (f3 ++ f4)), i ∉ [bid] := fun i hi hj => by simp at hj; subst hj; exact hnR i hi (by simp [hbi])
    have hd2 : ∀ i ∈ fp0, i ∉ (fps.set s f2).flatten := fun i hi hj => by
      rcases hfl i hj with h | h
      · exact hdis i hi h
      · have := ho.lt i hi; omega
    have hnd1 : (fp0 ++ (fps.set s f2).flatten).Nodup := nodup_app ho.nodup hp1.nodup hd2
    have hidH := blkAt_len hb
    have hfp : ∀ i ∈ (fp0 ++ (fps.set s f2).flatten) ++ (f1 ++ (f2' ++ (f3 ++ f4))), i ∈ (fp0 ++ fps.flatten) ++ (f1 ++ (f2' ++ (f3 ++ f4))) ∨ H.length ≤ i := by
      intro i hi
      rcases List.mem_append.1 hi with hi | hi
      · rcases List.mem_append.1 hi with hi | hi
        · exact .inl (by simp [hi])
        · rcases hfl i hi with h | h
          · exact .inl (by simp only [List.mem_append]; exact .inl (.inr h))
          · exact .inr h
      · exact .inl (List.mem_append.2 (.inr hi))
    refine ⟨(fp0 ++ (fps.set s f2).flatten) ++ (f1 ++ (f2' ++ (f3 ++ f4))), kR.blk hb (by simp; exact fun h => hbid h.symm), ⟨.sl (some (bid, 0)) x.two.length, q1, q2, q3, q4, fp0 ++ (fps.set s f2).flatten, f1, f2', f3, f4, by simp [Box.enc, setTwo], ⟨some (bid, 0), rows.set s l2, fp0, fps.set s f2, by simp [setTwo], o1, hp2, rfl, hnd1⟩, i1.keep kR (fun i hi => nR i (by simp [hi])), i2.keep kR (fun i hi => nR i (by simp [hi])), i3.keep kR (fun i hi => nR i (by simp [hi])), i4.keep kR (fun i hi => nR i (by simp [hi])), rfl, ?_⟩, ?_, ?_, hfp⟩
    · refine nodup_app hnd1 (List.nodup_append.1 hnd).2.1 fun i hi hj => ?_
      rcases List.mem_append.1 hi with hi | hi
      · exact hnR i hj (by simp [hi])
      · rcases hfl i hi with h | h
        · exact hnR i hj (List.mem_append.2 (.inr h))
        · have := hltR i hj; omega
    · intro h
      rcases hfp id h with h | h
      · exact hid h
      · omega
    · exact kR.more fun i hi _ => by simp at hi; subst hi; simp [hbi]

/-- Another line put into a box that is one's own. -/
theorem boxLine {H H2 : Heap} {id : Nat} {x : Box} {q0 q1 q2 q3' q4 : Lf} {f0 f1 f2 f3 f4 f3' : List Nat} {ls : List In} (hidl : id < H.length) (hid : id ∉ f0 ++ (f1 ++ (f2 ++ (f3 ++ f4)))) (i0 : IsMinderS H q0 x.two f0) (i1 : IsWireS H q1 x.net f1) (i2 : IsBoolS H q2 x.gates f2) (i4 : IsOutS H q4 x.said f4)
    (hnd : (f0 ++ (f1 ++ (f2 ++ (f3 ++ f4)))).Nodup) (k : Keep f3 H H2) (o : IsInS H2 q3' ls f3') (hf : ∀ i ∈ f3', i ∈ f3 ∨ H.length ≤ i) :
    BoxTo H (H2.set id (some ⟨32, .wr, [x.enc q0 q1 q2 q3' q4]⟩)) id (f0 ++ (f1 ++ (f2 ++ (f3 ++ f4)))) (setLine x ls) := by
  have ks := Keep.set (id := id) H2 (some ⟨32, .wr, [x.enc q0 q1 q2 q3' q4]⟩)
  have hlen := k.1
  have n0 := List.nodup_append.1 hnd
  have n1 := List.nodup_append.1 n0.2.1
  have n2 := List.nodup_append.1 n1.2.1
  have n3 := List.nodup_append.1 n2.2.1
  have x0 : ∀ i ∈ f0, i ∉ f3 := fun i hi hj => n0.2.2 i hi i (by simp [hj]) rfl
  have x1 : ∀ i ∈ f1, i ∉ f3 := fun i hi hj => n1.2.2 i hi i (by simp [hj]) rfl
  have x2 : ∀ i ∈ f2, i ∉ f3 := fun i hi hj => n2.2.2 i hi i (by simp [hj]) rfl
  have x4 : ∀ i ∈ f4, i ∉ f3 := fun i hi hj => n3.2.2 i hj i hi rfl
  have l0 := i0.lt okMinder
  have l1 := i1.lt
  have l2 := i2.lt
  have l4 := i4.lt
  have dd : ∀ f : List Nat, (∀ i ∈ f, i ∈ f0 ++ (f1 ++ (f2 ++ (f3 ++ f4)))) → ∀ i ∈ f, i ∉ [id] := fun f h i hi hj => by simp at hj; subst hj; exact hid (h i hi)
  have d3 : ∀ i ∈ f3', i ∉ [id] := fun i hi hj => by
    simp at hj
    subst hj
    rcases hf i hi with h | h
    · exact hid (by simp [h])
    · omega
  have m0 : ∀ i ∈ f0, i ∉ [id] := dd f0 (fun i hi => by simp [hi])
  have m1 : ∀ i ∈ f1, i ∉ [id] := dd f1 (fun i hi => by simp [hi])
  have m2 : ∀ i ∈ f2, i ∉ [id] := dd f2 (fun i hi => by simp [hi])
  have m4 : ∀ i ∈ f4, i ∉ [id] := dd f4 (fun i hi => by simp [hi])
  have y0 : ∀ i ∈ f0, i ∉ f3' := fun i hi hj => by
    rcases hf i hj with h | h
    · exact x0 i hi h
    · have := l0 i hi; omega
  have y1 : ∀ i ∈ f1, i ∉ f3' := fun i hi hj => by
    rcases hf i hj with h | h
    · exact x1 i hi h
    · have := l1 i hi; omega
  have y2 : ∀ i ∈ f2, i ∉ f3' := fun i hi hj => by
    rcases hf i hj with h | h
    · exact x2 i hi h
    · have := l2 i hi; omega
  have y4 : ∀ i ∈ f3', i ∉ f4 := fun i hi hj => by
    rcases hf i hi with h | h
    · exact x4 i hj h
    · have := l4 i hj; omega
  have z34 : ∀ i ∈ f2, i ∉ f4 := fun i hi hj => n2.2.2 i hi i (by simp [hj]) rfl
  refine ⟨_, f0 ++ (f1 ++ (f2 ++ (f3' ++ f4))), blkAt_set (by omega), ⟨q0, q1, q2, q3', q4, f0, f1, f2, f3', f4, rfl, (i0.keep okMinder k x0).keep okMinder ks m0, (i1.keep k x1).keep ks m1, (i2.keep k x2).keep ks m2, o.keep ks d3, (i4.keep k x4).keep ks m4, rfl, ?_⟩, ?_, ?_, ?_⟩
  · refine nodup_app n0.1 (nodup_app n1.1 (nodup_app n2.1 (nodup_app o.nodup n3.2.1 y4) fun i hi hj => ?_) fun i hi hj => ?_) fun i hi hj => ?_
    · rcases List.mem_append.1 hj with hj | hj
      · exact y2 i hi hj
      · exact z34 i hi hj
    · rcases List.mem_append.1 hj with hj | hj
      · exact n1.2.2 i hi i (by simp [hj]) rfl
      · rcases List.mem_append.1 hj with hj | hj
        · exact y1 i hi hj
        · exact n1.2.2 i hi i (by simp [hj]) rfl
    · rcases List.mem_append.1 hj with hj | hj
      · exact n0.2.2 i hi i (by simp [hj]) rfl
      · rcases List.mem_append.1 hj with hj | hj
        · exact n0.2.2 i hi i (by simp [hj]) rfl
        · rcases List.mem_append.1 hj with hj | hj
          · exact y0 i hi hj
          · exact n0.2.2 i hi i (by simp [hj]) rfl
  · intro h
    simp only [List.mem_append] at h
    rcases h with h | h | h | h | h
    · exact m0 id h (by simp)
    · exact m1 id h (by simp)
    · exact m2 id h (by simp)
    · exact d3 id h (by simp)
    · exact m4 id h (by simp)
  · exact k.trans ks (fun i hi _ => by simp [hi]) (fun i hi _ => by simp at hi; simp [hi])
  · intro i hi
    simp only [List.mem_append] at hi ⊢
    rcases hi with h | h | h | h | h
    · exact .inl (.inl h)
    · exact .inl (.inr (.inl h))
    · exact .inl (.inr (.inr (.inl h)))
    · rcases hf i h with h | h
      · exact .inl (.inr (.inr (.inr (.inl h))))
      · exact .inr h
    · exact .inl (.inr (.inr (.inr (.inr h))))

theorem sayM {H : Heap} {id : Nat} {l : List Lf} {x : Box} {fp : List Nat} (hb : blkAt H id = some ⟨32, .wr, [l]⟩) (hI : IsBox H l x fp) (hid : id ∉ fp) (hok : x.ok = true) (hn : x.sz ≤ 1048000) :
    Runs env 143 [.ptr id 0 0] H fun v H' => v = .int (sayD x).2 ∧ BoxTo H H' id fp (sayD x).1 := by
  have h2 := (Box.right hok).two
  have hidl := blkAt_len hb
  have e1 : run env 54 [.ptr id 0 0] H = some (.int (whoM x), H) := minderM hb hI.rd h2 (by omega)
  refine Runs.walk ok143 Tryz.func143 rfl (by simp [Tryz.f143]) fun Q hQ => ?_
  simp only [Tryz.f143, strip, stripL, stripI, stripG, chkT, tagsB, tagsL, tagD, addT, tagA, lookN, tagOp, elmT, ty22, ty26, ty27, ty28, ty29, ty30, ty41, ty53, ty56, Nat.reduceEqDiff, if_false, reduceIte, Option.getD_some, Option.getD_none, dstAt, dstOk, Nat.reduceLT, decide_true, if_true]
  have fin : ∀ (HF : Heap) (tm : Ab.T) (c : Int) (y : Box), sayD x = (y, c) → BoxTo H HF id fp y → tm 2 = .int c → Q .ret tm HF := by
    intro HF tm c y h1 h t4
    refine hQ _ _ _ (by simp) ?_
    simp [Tryz.f143, t4, h1]
    exact h.leave hb hI hid _
  simp [e1]
  by_cases hneg : whoM x < 0
  · simp [hneg]
    exact fin _ _ 3 x (by rw [sayD, if_pos (.inl hneg)]) (BoxTo.refl hb hI hid) (by simp)
  obtain ⟨s, hs2, hw⟩ : ∃ s : Nat, s < 2 ∧ whoM x = (s : Int) := by
    rcases whoM_cases x with ⟨h, -⟩ | ⟨h, -⟩ | ⟨h, -⟩
    · exact ⟨0, by omega, h⟩
    · exact ⟨1, by omega, h⟩
    · omega
  have hs : s < x.two.length := by omega
  rw [hw] at hneg ⊢
  obtain ⟨bid, blo, q1, q2, q3, q4, row, fs, rfl, hbne, hbl, hbb, hbe, hbm, hrow, hrd, hbfs, hidfs, hput⟩ := boxTwoOwn hb hI hid hs
  have hb0 := hb
  simp only [Box.enc] at hb
  obtain ⟨m, hm⟩ : ∃ m, m = x.two[s] := ⟨_, rfl⟩
  rw [← hm] at hrd
  have hmsz : m.sz ≤ 1048576 := by
    have := MinderS.sz_at (List.getElem_mem hs)
    unfold Box.sz at hn
    rw [hm]
    omega
  have mok := (Box.right hok).ok _ (List.getElem_mem hs)
  rw [← hm] at mok
  have hmA : mAt x (s : Int) = m := by simp [mAt, List.getD, List.getElem?_eq_getElem hs, hm]
  have hrd1 := hrd.rd
  obtain ⟨a, rfl, oa⟩ := hrd
  have hs0 : (0 : Int) ≤ s := by omega
  have hsl2 : (s : Int) < 2 := by omega
  have hrok : x.reg.ok = true := by simp only [Box.ok, Bool.and_eq_true] at hok; exact hok.1.1.1.1.1.1.1.2
  have hp64 : I64 x.reg.pair := by simp [Reg.ok] at hrok; unfold I64; omega
  have e2 := implReady_is hrd1 hmsz x.reg.pair hp64
  simp only [Minder.enc] at e2
  simp [hneg, hb, hidl, h2, indexAddrV, elemIs, hbb, hbe, hbl, hs2, hs0, hsl2, hrow, Minder.enc]
  simp [e2]
  cases hrdy : ready m x.reg.pair
  · simp
    exact fin _ _ 3 x (by rw [sayD, hw, if_pos (.inr (by rw [hmA]; exact hrdy))]) (BoxTo.refl hb0 hI hid) (by simp)
  simp [hb, hidl, h2, indexAddrV, elemIs, hbb, hbe, hbl, hs2, hs0, hsl2, hrow, Minder.enc]
  obtain ⟨k, hk⟩ : ∃ k : Nat, m.said = (k : Int) := ⟨m.said.toNat, by simp [Minder.ok] at mok; omega⟩
  have hkl : k < m.log.length := by simp [ready] at hrdy; omega
  have hm64 : I64 m.said := by unfold I64; rw [hk]; unfold Minder.sz at hmsz; omega
  have hbr : (bridgeNew x.id x.ports).2 = true := by simp only [Box.ok, Bool.and_eq_true] at hok; exact hok.1.1.1.1.1.1.1.1
  have hbn := bridgeNew_yes hbr
  refine stpL_runs_f (implSaying_is (log := m.log) ⟨a, rfl, oa.sl⟩ hmsz x.id (by unfold I64; omega) x.ports (by unfold I64; omega) m.said hm64) (by rintro _ _ ⟨_, _, _, _, hf⟩; exact hf.1) ?_
  rintro _ _ ⟨_, fq, rfl, ⟨aq, rfl, oq⟩, ⟨⟨G2, rfl⟩, hfq⟩⟩
  have hsl8 := saying_len x.id x.ports m.log m.said
  obtain ⟨L, hL⟩ : ∃ L, L = saying x.id x.ports m.log m.said := ⟨_, rfl⟩
  rw [← hL] at oq hsl8 ⊢
  simp
  refine stpL_runs_w (acceptMq (blkAt_app hb0 G2) (hI.app G2) hid (by omega) oq.sl ?_ (by omega)) rfl (by rintro _ _ ⟨_, _, _, _, _, hk, _⟩; exact hk.1) ?_
  · intro i r hi _
    have h1 := hfq i (oq.ids i r hi)
    exact ⟨fun h2 => by have := hI.lt i h2; omega, by omega⟩
  rintro _ H1 ⟨rfl, l1, g1, b1, o1, k1, hg1, hl1⟩
  obtain ⟨bid2, blo2, r1, r2, r3, r4, row2, fs2, hl2, hbne2, hbl2, hbb2, hbe2, hbm2, hrow2, hrd2, hbfs2, hidfs2, hput2⟩ := boxTwoOwn b1 o1 (fun h => by rcases hg1 id h with h | h; exact hid h; simp at h; omega) (s := s) hs
  have hq0 : bid2 = bid := by
    rw [hl2] at hl1
    simp [Box.enc] at hl1
    exact hl1.1
  obtain rfl := hq0.symm
  subst hl2
  have hm2 : (acceptB x L).two[s]'(by exact hs) = m := by rw [hm]; rfl
  rw [hm2] at hrd2
  obtain ⟨a2, rfl, oa2⟩ := hrd2
  have b1' := b1
  have hbe3 : (acceptB x L).two.length = 2 := h2
  simp only [Box.enc, hbe3] at b1'
  have hid1 := blkAt_len b1
  have hw1 : IntKind.i64.wrap ((k : Int) + 1) = (k : Int) + 1 := wrap64 (by omega) (by unfold Minder.sz at hmsz; omega)
  simp [hbb2, hbl2, hbe2, hbm2, hrow2, Minder.enc, hk, hw1]
  have hl0 : (acceptB x L).line.length ≤ 60 := by
    have : logOk x.line = true := by simp only [Box.ok, Bool.and_eq_true] at hok; exact hok.1.2
    simp [logOk] at this
    show x.line.length ≤ 60
    omega
  obtain ⟨H2, hH2⟩ : ∃ H2, H2 = H1.set bid (some ⟨52, .wr, blo2.rows.set s [.b m.up, .i .i64 m.life, .i .i64 m.epoch, .sl a2 m.log.length, .i .i64 (k + 1), .i .i64 m.acked, .i .i64 m.ackLife]⟩) := ⟨_, rfl⟩
  obtain ⟨g2, y1, y2, y3, y4, y5⟩ := hput2 H1 [.b m.up, .i .i64 m.life, .i .i64 m.epoch, .sl a2 m.log.length, .i .i64 (k + 1), .i .i64 m.acked, .i .i64 m.ackLife] ⟨m.up, m.life, m.epoch, m.log, k + 1, m.acked, m.ackLife⟩ fs2 (Keep.refl _ _) ⟨a2, rfl, oa2⟩ (fun i hi => .inl hi)
  rw [← hH2] at y1 y2 y4
  have hbbF : blkAt H2 bid = some ⟨52, .wr, blo2.rows.set s [.b m.up, .i .i64 m.life, .i .i64 m.epoch, .sl a2 m.log.length, .i .i64 (k + 1), .i .i64 m.acked, .i .i64 m.ackLife]⟩ := by rw [hH2]; exact blkAt_set hbl2
  have hrl : s < blo2.rows.length := (List.getElem?_eq_some_iff.1 hrow2).1
  have hrow3 : (blo2.rows.set s [.b m.up, .i .i64 m.life, .i .i64 m.epoch, .sl a2 m.log.length, .i .i64 (k + 1), .i .i64 m.acked, .i .i64 m.ackLife])[s]? = some [.b m.up, .i .i64 m.life, .i .i64 m.epoch, .sl a2 m.log.length, .i .i64 (k + 1), .i .i64 m.acked, .i .i64 m.ackLife] := by simp [hrl]
  have y1' := y1
  simp only [Box.enc, hbe3] at y1'
  have hid2 := blkAt_len y1
  have hbl3 := blkAt_len hbbF
  have hsD : sayD x = (if (x.line.length : Int) < m.said + 1 then setLine (setTwo (acceptB x L) s ⟨m.up, m.life, m.epoch, m.log, k + 1, m.acked, m.ackLife⟩) (x.line ++ [m.log.getD m.said.toNat default]) else setTwo (acceptB x L) s ⟨m.up, m.life, m.epoch, m.log, k + 1, m.acked, m.ackLife⟩, 0) := by
    rw [sayD, if_neg (by rw [hw, hmA, hrdy]; simp)]
    have hL' : saying x.id x.ports m.log k = L := by rw [hL, hk]
    simp only [hw, hmA, hk, hL', Int.toNat_natCast]
  have hto : BoxTo H H2 id fp (setTwo (acceptB x L) s ⟨m.up, m.life, m.epoch, m.log, k + 1, m.acked, m.ackLife⟩) := by
    refine BoxTo.trans (H1 := H1) (f1 := g1) ((Keep.app [] H G2).trans k1 (by simp) (fun i hi _ => hi)) (fun i hi => ?_) ⟨_, g2, y1, y2, y3, y4, y5⟩
    rcases hg1 i hi with h | h
    · exact .inl h
    · exact .inr (by simp at h; omega)
  obtain ⟨p0, p1, p2, p3, p4, e0, e1, e2, e3, e4, hle, j0, j1, j2, ⟨a3, hp3, o3⟩, j4, rfl, hnd⟩ := y2
  simp only [Box.enc, setTwo, List.cons.injEq, and_true, true_and] at hle
  obtain ⟨rfl, rfl, rfl, rfl, rfl⟩ := hle
  have hln : (setTwo (acceptB x L) s ⟨m.up, m.life, m.epoch, m.log, k + 1, m.acked, m.ackLife⟩).line = x.line := rfl
  rw [hln] at hp3 o3
  subst hp3
  have hlx : x.line.length ≤ 60 := hl0
  have hH12 : H1.length = H2.length := by rw [hH2]; simp
  rw [← hH2]
  simp [y1', hbbF, hrow3, hid2, hbl3, builtinV, pureB, lenV]
  refine selS_intro (fun hc => ?_) (fun hc => ?_)
  · simp at hc
    have kk : Keep [bid] H1 H2 := by rw [hH2]; exact Keep.set _ _
    obtain ⟨id3, r3, bl3, rfl, hb3, hbe4, hrw3⟩ := (oa2.keep kk (fun i hi hj => by simp at hj; subst hj; exact hbfs2 hi)).sl k _ (by simp [hkl]; rfl)
    have hid3 := blkAt_len hb3
    have hw2 : IntKind.i64.wrap (k : Int) = (k : Int) := wrap64 (by omega) (by unfold Minder.sz at hmsz; omega)
    have hgd : m.log.getD m.said.toNat default = m.log[k] := by rw [hk, Int.toNat_natCast]; simp [List.getD, List.getElem?_eq_getElem hkl]
    rw [if_pos (by rw [hk]; omega), hgd] at hsD
    have hgl : (k : Int) < m.log.length := by omega
    simp [y1', hbbF, hrow3, hid2, hbl3, builtinV, pureB, lenV, hw2, indexAddrV, elemIs, hb3, hbe4, hid3, hrw3, hkl, hgl, In.enc]
    refine stpL_append (e := 64) (rows := x.line.map In.enc) (ys := [m.log[k].enc]) (o3.app _) (Sl.of (by simp [In.enc])) rfl rfl rfl (by simp) (by simp; omega) (by simp) rfl fun a'' H'' fp'' ho'' hk'' hf'' => ?_
    have k2 : Keep e3 H2 H'' := hk''.base
    have hi3 : id ∉ e3 := fun h => y3 (by simp [h])
    have b2 := k2.blk y1' hi3
    have d2 := blkAt_len b2
    simp [b2, d2]
    refine fin _ _ 0 _ hsD ?_ (by simp)
    have hf9 : ∀ i ∈ fp'', i ∈ e3 ∨ H2.length ≤ i := fun i hi => (hf'' i hi).imp (fun h => h) (fun h => by rw [List.length_append] at h; omega)
    have hq : IsInS H'' (.sl a'' (x.line.length + 1)) (x.line ++ [m.log[k]]) fp'' := ⟨a'', by simp, by simpa using ho''⟩
    have hbx := boxLine (x := setTwo (acceptB x L) s ⟨m.up, m.life, m.epoch, m.log, k + 1, m.acked, m.ackLife⟩) hid2 y3 j0 j1 j2 j4 hnd k2 hq hf9
    rw [hbe3] at hbx
    obtain ⟨_, _, -, -, -, zk, -⟩ := hto
    refine BoxTo.trans zk (f1 := e0 ++ (e1 ++ (e2 ++ (e3 ++ e4)))) (fun i hi => ?_) hbx
    rcases y5 i hi with h | h
    · rcases hg1 i h with h | h
      · exact .inl h
      · exact .inr (by simp at h; omega)
    · have := k1.1
      simp at this
      exact .inr (by omega)
  · simp at hc
    simp
    exact fin _ _ 0 _ (by rw [hsD, if_neg (by rw [hk]; omega)]) hto (by simp)

theorem giveM {H : Heap} {id : Nat} {l : List Lf} {x : Box} {fp : List Nat} (hb : blkAt H id = some ⟨32, .wr, [l]⟩) (hI : IsBox H l x fp) (hid : id ∉ fp) (hok : x.ok = true) (hn : x.sz ≤ 1048000) {i : Nat} (hi : i < x.net.length) :
    Runs env 168 [.ptr id 0 0, .int i] H fun v H' => v = .tup [] ∧ BoxTo H H' id fp (heardD (setNet x (x.net.eraseIdx i)) x.net[i]) := by
  have h2 := (Box.right hok).two
  have hidl := blkAt_len hb
  have hnet : x.net.length ≤ 20 ∧ ∀ w ∈ x.net, w.ok = true := by
    simp only [Box.ok, Bool.and_eq_true, List.all_eq_true, decide_eq_true_eq] at hok
    exact ⟨hok.1.1.1.1.1.2, hok.1.1.1.2⟩
  obtain ⟨w, hw⟩ : ∃ w, w = x.net[i] := ⟨_, rfl⟩
  have hwok := hnet.2 w (by rw [hw]; exact List.getElem_mem hi)
  have hfrm : 0 ≤ w.frm ∧ w.frm ≤ 1 := by simp [Wire.ok] at hwok; omega
  obtain ⟨s, hs⟩ : ∃ s : Nat, 1 - w.frm = (s : Int) := ⟨(1 - w.frm).toNat, by omega⟩
  have hs2 : s < 2 := by omega
  have hb0 := hb
  have hI0 := hI
  obtain ⟨q0, q1, q2, q3, q4, f0, f1, f2, f3, f4, rfl, i0, ⟨a1, rfl, o1⟩, i2, i3, i4, rfl, hnd⟩ := hI
  have hi1 : id ∉ f1 := fun h => hid (by simp [h])
  simp only [Box.enc] at hb
  have hbA := fun G => blkAt_app hb G
  have hid2 : id < H.length + 1 := by omega
  have hi20 : (i : Int) < x.net.length := by omega
  have hwr : IntKind.i64.wrap ((i : Int) + 1) = (i : Int) + 1 := wrap64 (by omega) (by omega)
  have hws : IntKind.i64.wrap (1 - w.frm) = (s : Int) := by rw [hs]; exact wrap64 (by omega) (by omega)
  obtain ⟨id3, r3, bl3, rfl, hb3, hbe3, hrow3⟩ := o1.sl i w.enc (by rw [List.getElem?_map, List.getElem?_eq_getElem hi, hw]; rfl)
  have hid3 := blkAt_len hb3
  have hbA3 := fun G => blkAt_app hb3 G
  rw [← hw]
  simp only [Wire.enc] at hrow3
  refine Runs.walk ok168 Tryz.func168 rfl (by simp [Tryz.f168]) fun Q hQ => ?_
  simp only [Tryz.f168, strip, stripL, stripI, stripG, chkT, tagsB, tagsL, tagD, addT, tagA, lookN, tagOp, elmT, ty22, ty26, ty27, ty28, ty29, ty30, ty41, ty53, ty56, Nat.reduceEqDiff, if_false, reduceIte, Option.getD_some, Option.getD_none, dstAt, dstOk, Nat.reduceLT, decide_true, if_true]
  simp [hb, hidl, hbA, hid2, indexAddrV, elemIs, hi, hi20, hb3, hid3, hbe3, hrow3, hwr]
  have hdel := deleteM (H := H ++ [some ⟨91, .wr, [w.enc]⟩]) (o1.app _) hi (by omega)
  simp only [Wire.enc, In.enc] at hdel
  refine stpL_runs hdel ?_
  rintro _ H1 ⟨q', rfl, oq, k1⟩
  have k1' : Keep f1 H H1 := k1.base
  have b1 := k1'.blk hb hi1
  have d1 := blkAt_len b1
  have hW : blkAt H1 H.length = some ⟨91, .wr, [w.enc]⟩ := k1.blk (by simp [Wire.enc, In.enc]) (fun h => by have := o1.lt _ h; omega)
  have dW := blkAt_len hW
  simp only [Wire.enc, In.enc] at hW
  have hx0 := boxNet (x := x) hidl hid i0 i2 i3 i4 hnd k1' oq (fun i hi => .inl hi)
  obtain ⟨H2, hH2⟩ : ∃ H2, H2 = H1.set id (some ⟨32, .wr, [x.enc q0 q' q2 q3 q4]⟩) := ⟨_, rfl⟩
  rw [← hH2] at hx0
  have hW2 : blkAt H2 H.length = some ⟨91, .wr, [[.i .i64 w.frm, .b w.ack, .i .i64 w.life, .i .i64 w.n, .i .i64 w.inn.kind, .i .i64 w.inn.port, .i .i64 w.inn.vec.root, .i .i64 w.inn.vec.cost, .i .i64 w.inn.vec.bridge, .i .i64 w.inn.vec.port, .i .i64 w.inn.hops, .b w.inn.up]]⟩ := by
    rw [hH2, blkAt_set_ne (by omega)]; exact hW
  have dW2 := blkAt_len hW2
  have hst : H1.set id (some ⟨32, .wr, [[.i .i64 x.id, .i .i64 x.ports, .i .i64 x.reg.epoch, .i .i64 x.reg.owner, .i .i64 x.reg.pair, q0, q', q2, q3, q4]]⟩) = H2 := by rw [hH2]; rfl
  simp [b1, d1, hst]
  obtain ⟨y, hy⟩ : ∃ y, y = setNet x (x.net.eraseIdx i) := ⟨_, rfl⟩
  rw [← hy] at hx0
  have hy2 : y.two.length = 2 := by rw [hy]; exact h2
  have hys : s < y.two.length := by omega
  obtain ⟨l2, fp2, b2, o2, hidf2, k2, hf2⟩ := hx0
  obtain ⟨bid, blo, r1, r2, r3, r4, row, fs, rfl, hbne, hbl, hbb, hbe, hbm, hrow, hrd, hbfs, hidfs, hput⟩ := boxTwoOwn b2 o2 hidf2 hys
  have b2' := b2
  simp only [Box.enc, hy2] at b2'
  have hid2' := blkAt_len b2
  have hs0 : (0 : Int) ≤ s := by omega
  have hsl2 : (s : Int) < 2 := by omega
  obtain ⟨m, hm⟩ : ∃ m, m = y.two[s] := ⟨_, rfl⟩
  rw [← hm] at hrd
  have hmA : mAt y (s : Int) = m := by simp [mAt, List.getD, List.getElem?_eq_getElem hys, hm]
  have hty : y.two = x.two := by rw [hy]; rfl
  have hmx : m ∈ x.two := by rw [hm, ← hty]; exact List.getElem_mem hys
  have mok := (Box.right hok).ok m hmx
  have hmsz : m.sz ≤ 1048576 := by
    have := MinderS.sz_at hmx
    unfold Box.sz at hn
    omega
  have hrdR := hrd.rd
  have e1 := fun G => implMinds_is (hrdR.app G) hmsz y.reg s (by unfold I64; omega)
  have hnote := implNote_is hrdR hmsz w.inn
  have hH := heardD.eq_1 y w
  simp only [hs, hmA, Int.toNat_natCast] at hH
  obtain ⟨a, rfl, oa⟩ := hrd
  simp only [Minder.enc, Reg.enc] at e1 hnote hrow
  simp only [In.enc] at hnote
  rw [← hy] at hQ
  have fin : ∀ (HF : Heap) (tm : Ab.T) (z : Box), heardD y w = z → BoxTo H HF id (f0 ++ (f1 ++ (f2 ++ (f3 ++ f4)))) z → Q .normal tm HF := by
    intro HF tm z h1 h
    refine hQ _ _ _ (by simp) ?_
    simp [Tryz.f168, h1]
    exact h.leave hb0 hI0 hid _
  have to0 : BoxTo H H2 id (f0 ++ (f1 ++ (f2 ++ (f3 ++ f4)))) y := ⟨_, fp2, b2, o2, hidf2, k2, hf2⟩
  simp [hW2, dW2, hws, b2', hid2', indexAddrV, elemIs, hbb, hbe, hbl, hs2, hs0, hsl2, hrow]
  cases hup : m.up
  · rw [if_pos hup] at hH
    simp
    exact fin _ _ y hH to0
  rw [if_neg (by simp [hup])] at hH
  cases hack : w.ack
  · simp [hack, hW2, dW2, b2', hid2', indexAddrV, elemIs, hbb, hbe, hbl, hs2, hs0, hsl2, hrow]
    rw [if_neg (by simp [hack])] at hH
    by_cases hlf : w.life = m.life
    · rw [if_neg (by simp [hlf])] at hH
      have hyn : y.net.length ≤ 1048576 := by rw [hy]; show (x.net.eraseIdx i).length ≤ _; have := List.length_eraseIdx_le x.net i; omega
      by_cases hnt : m.epoch = 0 ∧ w.n = (m.log.length : Int)
      · rw [if_pos hnt] at hH
        have hn1 := hnt.1
        have hn2 := hnt.2
        simp [hn1, hn2, hlf, hW2, dW2, b2', hid2', indexAddrV, elemIs, hbb, hbe, hbl, hs2, hs0, hsl2, hrow, builtinV, pureB, lenV]
        rw [hn1] at hnote
        refine stpL_runs_f hnote (by rintro _ _ ⟨_, _, _, _, hf⟩; exact hf.1) ?_
        rintro _ _ ⟨ln, fn, rfl, on, ⟨⟨G2, rfl⟩, hfn⟩⟩
        have hfn' : ∀ i ∈ fn, i ∈ fs ∨ H2.length ≤ i := fun i hi => .inr (hfn i hi)
        obtain ⟨an, rfl, oan⟩ := on
        have hbbA := fun G => blkAt_app hbb G
        have hbl4 : bid < H2.length + G2.length := by omega
        have hrl : s < blo.rows.length := (List.getElem?_eq_some_iff.1 hrow).1
        have hrow3 : ∀ r : List Lf, (blo.rows.set s r)[s]? = some r := fun r => by simp [hrl]
        have hset : ∀ y : Blk, blkAt ((H2 ++ G2).set bid (some y)) bid = some y := fun y => blkAt_set (by simp; omega)
        obtain ⟨g2, y1, y2, y3, y4, y5⟩ := hput (H2 ++ G2) _ (note m w.inn).1 fn (Keep.app _ _ _) ⟨an, rfl, oan⟩ hfn'
        have hlife : (note m w.inn).1.life = m.life := by unfold note; split <;> rfl
        have hmA2 : mAt (setTwo y s (note m w.inn).1) (s : Int) = (note m w.inn).1 := by simp [mAt, List.getD, setTwo, hys]
        rw [hmA2] at hH
        have hsd := sendM y1 y2 y3 (by exact hyn) ⟨s, true, m.life, (note m w.inn).1.log.length, ⟨0, 0, ⟨0, 0, 0, 0⟩, 0, false⟩⟩
        simp only [Wire.enc, Minder.enc, hlife] at hsd y4
        simp [Minder.enc, hbbA, hbl4, hbe, hbm, hrow, hset, hrow3, hlife, builtinV, pureB, lenV]
        refine stpL_runs_w hsd rfl (by rintro _ _ ⟨_, _, _, _, _, _, hk, _⟩; exact hk.1) ?_
        rintro _ HF ⟨rfl, hto⟩
        simp
        exact fin _ _ _ hH (BoxTo.trans k2 hf2 (BoxTo.trans y4 y5 hto))
      · rw [if_neg hnt, hmA] at hH
        have hsd := sendM b2 o2 hidf2 hyn ⟨s, true, m.life, m.log.length, ⟨0, 0, ⟨0, 0, 0, 0⟩, 0, false⟩⟩
        simp only [Wire.enc] at hsd
        by_cases hn1 : m.epoch = 0
        · have hn2 : ¬ w.n = (m.log.length : Int) := fun h => hnt ⟨hn1, h⟩
          simp [hn1, hn2, hlf, hW2, dW2, b2', hid2', indexAddrV, elemIs, hbb, hbe, hbl, hs2, hs0, hsl2, hrow, builtinV, pureB, lenV]
          refine stpL_runs_w hsd rfl (by rintro _ _ ⟨_, _, _, _, _, _, hk, _⟩; exact hk.1) ?_
          rintro _ HF ⟨rfl, hto⟩
          simp
          exact fin _ _ _ hH (BoxTo.trans k2 hf2 hto)
        · simp [hn1, hlf, hW2, dW2, b2', hid2', indexAddrV, elemIs, hbb, hbe, hbl, hs2, hs0, hsl2, hrow, builtinV, pureB, lenV]
          refine stpL_runs_w hsd rfl (by rintro _ _ ⟨_, _, _, _, _, _, hk, _⟩; exact hk.1) ?_
          rintro _ HF ⟨rfl, hto⟩
          simp
          exact fin _ _ _ hH (BoxTo.trans k2 hf2 hto)
    · rw [if_pos hlf] at hH
      simp [hlf]
      exact fin _ _ y hH to0
  · rw [if_pos hack] at hH
    simp [hup, hack, hW2, dW2, b2', hid2', indexAddrV, elemIs, hbb, hbe, hbl, hs2, hs0, hsl2, hrow]
    have e10 := implMinds_is hrdR hmsz y.reg s (by unfold I64; omega)
    simp only [Minder.enc, Reg.enc] at e10
    have hrl : s < blo.rows.length := (List.getElem?_eq_some_iff.1 hrow).1
    have upd : ∀ tm : Ab.T, minds y.reg s m = true → (m.ackLife < w.life ∨ (w.life = m.ackLife ∧ m.acked < w.n)) → ∀ k : Int, min w.n (m.log.length : Int) = k → Q .normal tm (H2.set bid (some ⟨52, .wr, blo.rows.set s [.b m.up, .i .i64 m.life, .i .i64 m.epoch, .sl a m.log.length, .i .i64 m.said, .i .i64 k, .i .i64 w.life]⟩)) := by
      intro tm hmi hnew k hk
      rw [if_pos ⟨hmi, hnew⟩, hk] at hH
      obtain ⟨g2, y1, y2, y3, y4, y5⟩ := hput H2 [.b m.up, .i .i64 m.life, .i .i64 m.epoch, .sl a m.log.length, .i .i64 m.said, .i .i64 k, .i .i64 w.life] ⟨m.up, m.life, m.epoch, m.log, m.said, k, w.life⟩ fs (Keep.refl _ _) ⟨a, rfl, oa⟩ (fun i hi => .inl hi)
      exact fin _ _ _ hH (BoxTo.trans k2 hf2 ⟨_, g2, y1, y2, y3, y4, y5⟩)
    have skp : ∀ tm : Ab.T, ¬ (minds y.reg s m = true ∧ (m.ackLife < w.life ∨ (w.life = m.ackLife ∧ m.acked < w.n))) → Q .normal tm H2 := by
      intro tm h
      rw [if_neg h] at hH
      exact fin _ _ y hH to0
    cases hmi : minds y.reg s m
    · by_cases c1 : m.ackLife < w.life
      · simp [hmi, c1, hW2, dW2, b2', hid2', indexAddrV, elemIs, hbb, hbe, hbl, hs2, hs0, hsl2, hrow, e10]
        exact skp _ (by simp [hmi])
      · by_cases c2 : w.life = m.ackLife
        · simp [hmi, c1, c2, hW2, dW2, b2', hid2', indexAddrV, elemIs, hbb, hbe, hbl, hs2, hs0, hsl2, hrow, e10]
          exact skp _ (by simp [hmi])
        · simp [hmi, c1, c2, hW2, dW2, b2', hid2', indexAddrV, elemIs, hbb, hbe, hbl, hs2, hs0, hsl2, hrow, e10]
          exact skp _ (by simp [hmi])
    · have hmn : ∀ k : Int, k = min w.n (m.log.length : Int) → (if (m.log.length : Int) < w.n then (m.log.length : Int) else w.n) = k := by intro k hk; rw [hk]; split <;> omega
      have hrow3 : ∀ r : List Lf, (blo.rows.set s r)[s]? = some r := fun r => by simp [hrl]
      by_cases c1 : m.ackLife < w.life
      · simp [hmi, c1, hW2, dW2, b2', hid2', indexAddrV, elemIs, hbb, hbe, hbl, hs2, hs0, hsl2, hrow, e10, builtinV, pureB, lenV, foldI, hbm, hrow3, blkAt_set]
        exact upd _ hmi (.inl c1) _ (by split <;> omega)
      · by_cases c2 : w.life = m.ackLife
        · rw [c2] at upd
          by_cases c3 : m.acked < w.n
          · simp [hmi, c1, c2, c3, hW2, dW2, b2', hid2', indexAddrV, elemIs, hbb, hbe, hbl, hs2, hs0, hsl2, hrow, e10, builtinV, pureB, lenV, foldI, hbm, hrow3, blkAt_set]
            exact upd _ hmi (.inr ⟨rfl, c3⟩) _ (by split <;> omega)
          · simp [hmi, c1, c2, c3, hW2, dW2, b2', hid2', indexAddrV, elemIs, hbb, hbe, hbl, hs2, hs0, hsl2, hrow, e10]
            exact skp _ (by simp [hmi, c2]; omega)
        · simp [hmi, c1, c2, hW2, dW2, b2', hid2', indexAddrV, elemIs, hbb, hbe, hbl, hs2, hs0, hsl2, hrow, e10]
          exact skp _ (by simp [hmi]; omega)

theorem onWireM {H : Heap} {id : Nat} {l : List Lf} {x : Box} {fp : List Nat} (hb : blkAt H id = some ⟨32, .wr, [l]⟩) (hI : IsBox H l x fp) (hid : id ∉ fp) (hok : x.ok = true) (hn : x.sz ≤ 1048000) (d : Deed) :
    Runs env 144 [.ptr id 0 0, .agg d.enc] H fun v H' => v = .int (onWireD x d).2 ∧ BoxTo H H' id fp (onWireD x d).1 := by
  have hidl := blkAt_len hb
  have hnet : x.net.length ≤ 20 := by
    simp only [Box.ok, Bool.and_eq_true, List.all_eq_true, decide_eq_true_eq] at hok
    exact hok.1.1.1.1.1.2
  have hb0 := hb
  have hI0 := hI
  obtain ⟨q0, q1, q2, q3, q4, f0, f1, f2, f3, f4, rfl, i0, ⟨a1, rfl, o1⟩, i2, i3, i4, rfl, hnd⟩ := hI
  have hi1 : id ∉ f1 := fun h => hid (by simp [h])
  simp only [Box.enc] at hb
  have hbA := fun G => blkAt_app hb G
  have hid2 : id < H.length + 1 := by omega
  have hws : IntKind.i64.wrap ((x.net.length : Int) - 1) = (x.net.length : Int) - 1 := wrap64 (by omega) (by omega)
  refine Runs.walk ok144 Tryz.func144 rfl (by simp [Tryz.f144]) fun Q hQ => ?_
  simp only [Tryz.f144, strip, stripL, stripI, stripG, chkT, tagsB, tagsL, tagD, addT, tagA, lookN, tagOp, elmT, ty22, ty26, ty27, ty28, ty29, ty30, ty41, ty53, ty56, Nat.reduceEqDiff, if_false, reduceIte, Option.getD_some, Option.getD_none, dstAt, dstOk, Nat.reduceLT, decide_true, if_true]
  have fin : ∀ (HF : Heap) (tm : Ab.T) (c : Int) (z : Box), onWireD x d = (z, c) → BoxTo H HF id (f0 ++ (f1 ++ (f2 ++ (f3 ++ f4)))) z → tm 4 = .int c → Q .ret tm HF := by
    intro HF tm c z h1 h t4
    refine hQ _ _ _ (by simp) ?_
    simp [Tryz.f144, h1, t4]
    exact h.leave hb0 hI0 hid _
  simp [hbA, hidl, hid2, Deed.enc, builtinV, pureB, lenV, hws, inRange]
  by_cases hin : 0 ≤ d.a ∧ d.a ≤ (x.net.length : Int) - 1
  · obtain ⟨i, hi⟩ : ∃ i : Nat, d.a = (i : Int) := ⟨d.a.toNat, by omega⟩
    have hil : i < x.net.length := by omega
    have hi20 : (i : Int) < x.net.length := by omega
    have hwr : IntKind.i64.wrap ((i : Int) + 1) = (i : Int) + 1 := wrap64 (by omega) (by omega)
    have hle : (i : Int) ≤ (x.net.length : Int) - 1 := by omega
    have hD : onWireD x d = if d.kind = 5 then sendD x x.net[i] else if d.kind = 4 then (setNet x (x.net.eraseIdx i), 0) else (heardD (setNet x (x.net.eraseIdx i)) x.net[i], 0) := by
      rw [onWireD, if_neg (by omega), hi, Int.toNat_natCast]
      simp [List.getD, List.getElem?_eq_getElem hil]
    simp [hi, hle]
    by_cases h4 : d.kind = 4
    · rw [if_neg (by omega), if_pos h4] at hD
      simp [h4, hi, hwr, hbA, hid2]
      refine stpL_runs_w (deleteM (o1.app _) hil (by omega)) rfl (by rintro _ _ ⟨_, _, _, hk⟩; exact hk.1) ?_
      rintro _ H1 ⟨q', rfl, oq, k1⟩
      have k1' : Keep f1 H H1 := k1.base
      have b1 := k1'.blk hb hi1
      have d1 := blkAt_len b1
      simp [b1, d1]
      exact fin _ _ 0 _ hD (boxNet (x := x) hidl hid i0 i2 i3 i4 hnd k1' oq (fun i hi => .inl hi)) (by simp)
    · by_cases h5 : d.kind = 5
      · rw [if_pos h5] at hD
        obtain ⟨id3, r3, bl3, rfl, hb3, hbe3, hrow3⟩ := o1.sl i x.net[i].enc (by rw [List.getElem?_map, List.getElem?_eq_getElem hil]; rfl)
        have hid3 := blkAt_len hb3
        have hbA3 := fun G => blkAt_app hb3 G
        have hid4 : id3 < H.length + 1 := by omega
        have hsd := fun G => sendM (blkAt_app hb0 G) (hI0.app G) hid (by omega) x.net[i]
        simp only [Wire.enc] at hrow3 hsd
        simp [h5, hi, hbA, hid2, hbA3, hid4, hbe3, indexAddrV, elemIs, hi20, hil, hrow3]
        refine stpL_runs_w (hsd _) rfl (by rintro _ _ ⟨_, _, _, _, _, _, hk, _⟩; exact hk.1) ?_
        rintro _ HF ⟨rfl, hto⟩
        simp
        refine fin _ _ (sendD x x.net[i]).2 (sendD x x.net[i]).1 hD (BoxTo.trans (Keep.app _ _ _) (fun i hi => .inl hi) hto) ?_
        simp
      · rw [if_neg h5, if_neg h4] at hD
        simp [h4, h5, hi]
        refine stpL_runs (giveM (blkAt_app hb0 _) (hI0.app _) hid hok hn hil) ?_
        rintro _ HF ⟨rfl, hto⟩
        simp
        refine fin _ _ 0 _ hD (BoxTo.trans (Keep.app _ _ _) (fun i hi => .inl hi) hto) ?_
        simp
  · have hf : (!decide (0 ≤ d.a) || !decide (d.a ≤ (x.net.length : Int) - 1)) = true := by
      rcases Int.lt_or_le d.a 0 with h | h
      · simp [show ¬ 0 ≤ d.a by omega]
      · simp [show ¬ d.a ≤ (x.net.length : Int) - 1 by omega]
    rw [hf]
    simp
    refine fin _ _ 2 x (by rw [onWireD, if_pos (by omega)]) (BoxTo.app hb0 hI0 hid _) ?_
    simp

theorem setTwo_ok {x : Box} (h : x.ok = true) {s : Nat} {m : Minder} (hm : m.ok = true) : (setTwo x s m).ok = true := by
  have hall : (x.two.set s m).all Minder.ok = true := by
    rw [List.all_eq_true]
    intro k hk
    rcases List.mem_or_eq_of_mem_set hk with hk | rfl
    · exact (List.all_eq_true.1 (by simp only [Box.ok, Bool.and_eq_true] at h; exact h.1.1.1.1.2)) k hk
    · exact hm
  simp only [Box.ok, setTwo, Bool.and_eq_true] at h ⊢
  obtain ⟨⟨⟨⟨⟨⟨⟨⟨h1, h2⟩, h3⟩, h4⟩, h5⟩, h6⟩, h7⟩, h8⟩, h9⟩ := h
  exact ⟨⟨⟨⟨⟨⟨⟨⟨h1, h2⟩, decide_eq_true ((List.length_set).trans (of_decide_eq_true h3))⟩, h4⟩, hall⟩, h6⟩, h7⟩, h8⟩, h9⟩
theorem newLife_set {x : Box} (h2 : x.two.length = 2) {s : Nat} (hs : s < 2) {m : Minder} (hm : m.life = (mAt x (s : Int)).life) : setTwo (setTwo x s m) s (newLife (setTwo x s m)) = setTwo x s (newLife x) := by
  obtain ⟨id, ports, reg, two, net, gates, line, said⟩ := x
  match two, h2 with
  | [p, q], _ =>
    obtain rfl | rfl : s = 0 ∨ s = 1 := by omega
    · simp [mAt] at hm
      simp [setTwo, newLife, mAt, hm]
    · simp [mAt] at hm
      simp [setTwo, newLife, mAt, hm]

theorem onMinderM {H : Heap} {id : Nat} {l : List Lf} {x : Box} {fp : List Nat} (hb : blkAt H id = some ⟨32, .wr, [l]⟩) (hI : IsBox H l x fp) (hid : id ∉ fp) (hok : x.ok = true) (hn : x.sz ≤ 1048000) (d : Deed) {s : Nat} (hs2 : s < 2) (hda : d.a = (s : Int)) :
    Runs env 145 [.ptr id 0 0, .agg d.enc] H fun v H' => v = .int (onMinderD x d).2 ∧ BoxTo H H' id fp (onMinderD x d).1 := by
  have h2 := (Box.right hok).two
  have hidl := blkAt_len hb
  have hs : s < x.two.length := by omega
  have hb0 := hb
  obtain ⟨bid, blo, q1, q2, q3, q4, row, fs, rfl, hbne, hbl, hbb, hbe, hbm, hrow, hrd, hbfs, hidfs, hput⟩ := boxTwoOwn hb hI hid hs
  simp only [Box.enc, h2] at hb
  have hmx := List.getElem_mem hs
  obtain ⟨m, hm⟩ : ∃ m, m = x.two[s] := ⟨_, rfl⟩
  rw [← hm] at hrd hmx
  have mok := (Box.right hok).ok m hmx
  have hmsz : m.sz ≤ 1048576 := by
    have := MinderS.sz_at hmx
    unfold Box.sz at hn
    omega
  have hmA : mAt x (s : Int) = m := by simp [mAt, List.getD, List.getElem?_eq_getElem hs, hm]
  have hrdR := hrd.rd
  have e1 := fun G => implMinds_is (hrdR.app G) hmsz x.reg s (by unfold I64; omega)
  obtain ⟨a, rfl, oa⟩ := hrd
  simp only [Minder.enc, Reg.enc] at e1
  have hrow' := hrow
  simp only [Minder.enc] at hrow
  have hal : I64 m.ackLife := by simp [Minder.ok] at mok; unfold I64; omega
  have hs0 : (0 : Int) ≤ s := by omega
  have hsl2 : (s : Int) < 2 := by omega
  have hbA := fun G => blkAt_app hb G
  have hbbA := fun G => blkAt_app hbb G
  have hid1 : id < H.length + 1 := by omega
  have hid2 : id < H.length + 2 := by omega
  have hbl1 : bid < H.length + 1 := by omega
  have hbl2 : bid < H.length + 2 := by omega
  have hD := onMinderD.eq_1 x d
  simp only [hda, hmA, Int.toNat_natCast] at hD
  refine Runs.walk ok145 Tryz.func145 rfl (by simp [Tryz.f145]) fun Q hQ => ?_
  simp only [Tryz.f145, strip, stripL, stripI, stripG, chkT, tagsB, tagsL, tagD, addT, tagA, lookN, tagOp, elmT, ty22, ty26, ty27, ty28, ty29, ty30, ty41, ty53, ty56, Nat.reduceEqDiff, if_false, reduceIte, Option.getD_some, Option.getD_none, dstAt, dstOk, Nat.reduceLT, decide_true, if_true]
  have fin : ∀ (HF : Heap) (tm : Ab.T) (c : Int) (z : Box), onMinderD x d = (z, c) → BoxTo H HF id fp z → tm 4 = .int c → Q .ret tm HF := by
    intro HF tm c z h1 h t4
    refine hQ _ _ _ (by simp) ?_
    simp [Tryz.f145, h1, t4]
    exact h.leave hb0 hI hid _
  simp [Deed.enc, hda, hbA, hid1, indexAddrV, elemIs, hbbA, hbl1, hbe, hs2, hs0, hsl2, hrow]
  have tr : ∀ {G HF : Heap} {z : Box}, BoxTo (H ++ G) HF id fp z → BoxTo H HF id fp z := fun h => BoxTo.trans (Keep.app _ _ _) (fun i hi => .inl hi) h
  by_cases c2 : d.kind = 2
  · rw [if_pos c2] at hD
    simp [c2]
    refine stpL_runs (shipM (blkAt_app hb0 _) (hI.app _) hid hok (by omega) hs2) ?_
    rintro _ HF ⟨rfl, hto⟩
    simp
    refine fin _ _ (shipD x s).2 (shipD x s).1 hD (tr hto) ?_
    simp
  rw [if_neg c2] at hD
  by_cases c9 : d.kind = 9
  · rw [if_pos c9] at hD
    simp [c9]
    refine stpL_runs (takeM (blkAt_app hb0 _) (hI.app _) hid hok (by omega) hs2) ?_
    rintro _ HF ⟨rfl, hto⟩
    simp
    refine fin _ _ (takeD x s).2 (takeD x s).1 hD (tr hto) ?_
    simp
  rw [if_neg c9] at hD
  by_cases c10 : d.kind = 10
  · rw [if_pos c10] at hD
    simp [c10]
    refine stpL_runs (pairM (blkAt_app hb0 _) (hI.app _) hid hok (by omega) hs2 m.ackLife hal) ?_
    rintro _ HF ⟨rfl, hto⟩
    simp
    refine fin _ _ (pairD x s m.ackLife).2 (pairD x s m.ackLife).1 hD (tr hto) ?_
    simp
  rw [if_neg c10] at hD
  by_cases c11 : d.kind = 11
  · rw [if_pos c11] at hD
    simp [c11]
    refine stpL_runs (pairM (blkAt_app hb0 _) (hI.app _) hid hok (by omega) hs2 0 (by unfold I64; omega)) ?_
    rintro _ HF ⟨rfl, hto⟩
    simp
    refine fin _ _ (pairD x s 0).2 (pairD x s 0).1 hD (tr hto) ?_
    simp
  rw [if_neg c11] at hD
  by_cases c8 : d.kind = 8
  · rw [if_pos c8] at hD
    cases hup : m.up
    · rw [if_neg (by simp [hup])] at hD
      simp [c8, hup]
      refine stpL_runs (riseM (blkAt_app hb0 _) (hI.app _) hid hok hs2) ?_
      rintro _ HF ⟨rfl, hto⟩
      simp
      refine fin _ _ 0 _ hD (tr hto) ?_
      simp
    · rw [if_pos hup] at hD
      simp [c8, hup]
      refine fin _ _ 3 x hD (BoxTo.app hb0 hI hid _) ?_
      simp
  rw [if_neg c8] at hD
  simp [c2, c9, c10, c11, c8]
  cases hup : m.up
  · rw [if_pos hup] at hD
    simp
    refine fin _ _ 3 x hD (BoxTo.app hb0 hI hid _) ?_
    simp
  rw [if_neg (by simp [hup])] at hD
  rw [hup] at e1
  have hrl : s < blo.rows.length := (List.getElem?_eq_some_iff.1 hrow).1
  have hLr : ([.b true, .i .i64 m.life, .i .i64 m.epoch, .sl a m.log.length, .i .i64 m.said, .i .i64 m.acked, .i .i64 m.ackLife] : List Lf).drop 7 = [] := rfl
  obtain ⟨fp9, y1, y2, y3, y4, y5⟩ := hput (H ++ [some ⟨66, .wr, [d.enc]⟩, some ⟨52, .wr, [m.enc a]⟩]) [.b false, .i .i64 m.life, .i .i64 0, .sl none 0, .i .i64 0, .i .i64 0, .i .i64 0] ⟨false, m.life, 0, [], 0, 0, 0⟩ [] (Keep.app [] H _) ⟨none, rfl, Own.nil _ _⟩ (by simp)
  have to1 := (⟨_, fp9, y1, y2, y3, y4, y5⟩ : BoxTo H _ id fp (setTwo x s ⟨false, m.life, 0, [], 0, 0, 0⟩))
  have hse : ∀ (X : Heap) (y : Option Blk), blkAt (List.set X bid y) H.length = blkAt X H.length := fun X y => blkAt_set_ne (by omega)
  have hok1 : (setTwo x s ⟨false, m.life, 0, [], 0, 0, 0⟩).ok = true := setTwo_ok hok (by simp [Minder.ok, logOk] at mok ⊢; omega)
  simp only [Deed.enc, Minder.enc, hda, hup] at y1 y2 y4
  simp only [Deed.enc, Minder.enc, hda, hup] at to1
  by_cases c12 : d.kind = 12
  · rw [if_pos c12] at hD
    by_cases hno : m.epoch = 0 ∨ minds x.reg s m = true
    · rw [if_pos hno] at hD
      by_cases he : m.epoch = 0
      · simp [c12, he]
        refine fin _ _ 3 x hD (BoxTo.app hb0 hI hid _) ?_
        simp
      · have hmi := hno.resolve_left he
        simp [c12, he, hbA, hid2, e1, hmi]
        refine fin _ _ 3 x hD (BoxTo.app hb0 hI hid _) ?_
        simp
    · rw [if_neg hno] at hD
      have he : ¬ m.epoch = 0 := fun h => hno (.inl h)
      have hmi : minds x.reg s m = false := by cases h : minds x.reg s m; rfl; exact absurd (.inr h) hno
      rw [c12] at y1 y2 y4
      simp [c12, he, hbA, hid2, e1, hmi, indexAddrV, elemIs, hbbA, hbl2, hbe, hs2, hs0, hsl2, hrow, hbm]
      simp [hse]
      refine stpL_runs (riseM y1 y2 y3 hok1 hs2) ?_
      rintro _ HF ⟨rfl, hto⟩
      simp
      have hnl : setTwo (setTwo x s ⟨false, m.life, 0, [], 0, 0, 0⟩) s (newLife (setTwo x s ⟨false, m.life, 0, [], 0, 0, 0⟩)) = setTwo x s (newLife x) := newLife_set h2 hs2 (by rw [hmA])
      rw [hnl] at hto
      refine fin _ _ 0 _ hD (BoxTo.trans y4 y5 hto) ?_
      simp
  · rw [if_neg c12] at hD
    simp [c12, hbA, hid2, indexAddrV, elemIs, hbbA, hbl2, hbe, hs2, hs0, hsl2, hrow, hbm]
    simp [hse, c12]
    refine fin _ _ 0 _ hD to1 ?_
    simp

theorem deedM {H : Heap} {id : Nat} {l : List Lf} {x : Box} {fp : List Nat} (hb : blkAt H id = some ⟨32, .wr, [l]⟩) (hI : IsBox H l x fp) (hid : id ∉ fp) (hok : x.ok = true) (hn : x.sz ≤ 1048000) (d : Deed) :
    Runs env 117 [.ptr id 0 0, .agg d.enc] H fun v H' => v = .int (deedD x d).2 ∧ BoxTo H H' id fp (deedD x d).1 := by
  have hD := deedD.eq_1 x d
  have tr : ∀ {G HF : Heap} {z : Box}, BoxTo (H ++ G) HF id fp z → BoxTo H HF id fp z := fun h => BoxTo.trans (Keep.app _ _ _) (fun i hi => .inl hi) h
  refine Runs.walk ok117 Tryz.func117 rfl (by simp [Tryz.f117]) fun Q hQ => ?_
  simp only [Tryz.f117, strip, stripL, stripI, stripG, chkT, tagsB, tagsL, tagD, addT, tagA, lookN, tagOp, elmT, ty22, ty26, ty27, ty28, ty29, ty30, ty41, ty53, ty56, Nat.reduceEqDiff, if_false, reduceIte, Option.getD_some, Option.getD_none, dstAt, dstOk, Nat.reduceLT, decide_true, if_true]
  have fin : ∀ (HF : Heap) (tm : Ab.T) (c : Int) (z : Box), deedD x d = (z, c) → BoxTo H HF id fp z → tm 4 = .int c → Q .ret tm HF := by
    intro HF tm c z h1 h t4
    refine hQ _ _ _ (by simp) ?_
    simp [Tryz.f117, h1, t4]
    exact h.leave hb hI hid _
  simp [Deed.enc]
  by_cases c1 : d.kind = 1
  · rw [if_pos c1] at hD
    have hr := fun G => noteM (blkAt_app hb G) (hI.app G) hid hok (by omega) d.inn
    simp only [In.enc] at hr
    simp [c1]
    refine stpL_runs (hr _) ?_
    rintro _ HF ⟨rfl, hto⟩
    simp
    refine fin _ _ (inD x d.inn).2 (inD x d.inn).1 hD (tr hto) ?_
    simp
  rw [if_neg c1] at hD
  by_cases c6 : d.kind = 6
  · rw [if_pos c6] at hD
    simp [c6]
    refine stpL_runs (sayM (blkAt_app hb _) (hI.app _) hid hok hn) ?_
    rintro _ HF ⟨rfl, hto⟩
    simp
    refine fin _ _ (sayD x).2 (sayD x).1 hD (tr hto) ?_
    simp
  rw [if_neg c6] at hD
  have hw := fun G => onWireM (blkAt_app hb G) (hI.app G) hid hok hn d
  have hm := fun G (s : Nat) hs h => onMinderM (blkAt_app hb G) (hI.app G) hid hok hn d (s := s) hs h
  simp only [Deed.enc] at hw hm
  have goW : onWireD x d = onWireD x d := rfl
  by_cases c345 : d.kind = 3 ∨ d.kind = 4 ∨ d.kind = 5
  · rw [if_pos c345] at hD
    rcases c345 with c | c | c
    all_goals
      rw [c] at hw
      simp [c]
      refine stpL_runs (hw _) ?_
      rintro _ HF ⟨rfl, hto⟩
      simp
      refine fin _ _ (onWireD x d).2 (onWireD x d).1 hD (tr hto) ?_
      simp
  rw [if_neg c345] at hD
  have c3 : ¬ d.kind = 3 := fun h => c345 (.inl h)
  have c4 : ¬ d.kind = 4 := fun h => c345 (.inr (.inl h))
  have c5 : ¬ d.kind = 5 := fun h => c345 (.inr (.inr h))
  simp [c1, c6, c3, c4, c5, isSide]
  by_cases hs : 0 ≤ d.a ∧ d.a ≤ 1
  · rw [if_neg (by simpa using hs)] at hD
    obtain ⟨s, hs2, hda⟩ : ∃ s : Nat, s < 2 ∧ d.a = (s : Int) := ⟨d.a.toNat, by omega, by omega⟩
    have h01 : (!decide (d.a = 0) && !decide (d.a = 1)) = false := by
      rcases (show d.a = 0 ∨ d.a = 1 by omega) with h | h <;> simp [h]
    rw [h01]
    simp
    refine stpL_runs (hm _ s hs2 hda) ?_
    rintro _ HF ⟨rfl, hto⟩
    simp
    refine fin _ _ (onMinderD x d).2 (onMinderD x d).1 hD (tr hto) ?_
    simp
  · rw [if_pos hs] at hD
    have h0 : ¬ d.a = 0 := by omega
    have h1 : ¬ d.a = 1 := by omega
    simp [h0, h1]
    refine fin _ _ 2 x hD (BoxTo.app hb hI hid _) ?_
    simp

structure Small (y : Box) : Prop where
  two : y.two.length = 2
  log : ∀ m ∈ y.two, m.log.length ≤ 61
  net : y.net.length ≤ 22
  gates : y.gates.length ≤ 4
  line : y.line.length ≤ 61
  said : y.said.length ≤ 40
theorem Small.sz {y : Box} (h : Small y) : y.sz ≤ 1000 := by
  obtain ⟨h1, h2, h3, h4, h5, h6⟩ := h
  obtain ⟨id, ports, reg, two, net, gates, line, said⟩ := y
  match two, h1 with
  | [m, n], _ =>
    have a := h2 m (by simp)
    have b := h2 n (by simp)
    simp [Box.sz, MinderS.sz, Minder.sz] at *
    omega
theorem Small.setTwo {y : Box} (h : Small y) (s : Nat) {m : Minder} (hm : m.log.length ≤ 61) : Small (setTwo y s m) :=
  ⟨(List.length_set).trans h.two, fun k hk => by
    rcases List.mem_or_eq_of_mem_set hk with hk | rfl
    · exact h.log k hk
    · exact hm, h.net, h.gates, h.line, h.said⟩
theorem Small.setNet {y : Box} (h : Small y) {ws : List Wire} (hw : ws.length ≤ 22) : Small (setNet y ws) := ⟨h.two, h.log, hw, h.gates, h.line, h.said⟩
theorem Small.setReg {y : Box} (h : Small y) (r : Reg) : Small (setReg y r) := ⟨h.two, h.log, h.net, h.gates, h.line, h.said⟩
theorem Small.setLine {y : Box} (h : Small y) {l : List In} (hl : l.length ≤ 61) : Small (setLine y l) := ⟨h.two, h.log, h.net, h.gates, hl, h.said⟩
theorem Small.send {y : Box} (h : Small y) (w : Wire) : Small (sendD y w).1 := by
  unfold sendD
  split
  · exact h
  · exact h.setNet (by simp; omega)
theorem Small.accept {x : Box} (h : Small x) (L : List Out) : Small (acceptB x L) :=
  ⟨h.two, h.log, h.net, Nat.le_trans (Nat.le_of_eq (accGates_len L x.gates)) h.gates, h.line, (lastL_len (x.said ++ L)).1⟩
theorem note_len (m : Minder) (i : In) : (note m i).1.log.length ≤ m.log.length + 1 := by unfold note; split <;> simp
theorem takeR_log (r : Reg) (s : Int) (m : Minder) : (takeR r s m).2.1.log = m.log := by unfold takeR; split <;> rfl
theorem Box.smallOf {x : Box} (h : x.ok = true) : Small x ∧ x.line.length ≤ 60 ∧ x.net.length ≤ 20 ∧ ∀ m ∈ x.two, m.log.length ≤ 60 := by
  simp only [Box.ok, Bool.and_eq_true, decide_eq_true_eq, List.all_eq_true] at h
  obtain ⟨⟨⟨⟨⟨⟨⟨⟨h1, h2⟩, h3⟩, h4⟩, h5⟩, h6⟩, h7⟩, h8⟩, h9⟩ := h
  have hb := bridgeNew_yes h1
  have hl : x.line.length ≤ 60 := by simp [logOk] at h8; omega
  have hm : ∀ m ∈ x.two, m.log.length ≤ 60 := fun m hm => by
    have a := h5 m hm
    simp [Minder.ok, logOk] at a; omega
  exact ⟨⟨h3, fun m h => by have := hm m h; omega, by omega, by omega, by omega, h9⟩, hl, h4, hm⟩
theorem mAt_log {x : Box} {n : Nat} (h : ∀ m ∈ x.two, m.log.length ≤ n) (s : Int) : (mAt x s).log.length ≤ n := by
  unfold mAt
  rcases Nat.lt_or_ge s.toNat x.two.length with hl | hl
  · rw [List.getD_eq_getElem?_getD, List.getElem?_eq_getElem hl]
    exact h _ (List.getElem_mem hl)
  · rw [List.getD_eq_getElem?_getD, List.getElem?_eq_none hl]
    exact Nat.zero_le _
theorem Small.heard {y : Box} (h : Small y) (hl : ∀ m ∈ y.two, m.log.length ≤ 60) (w : Wire) : Small (heardD y w) := by
  unfold heardD
  have hm := mAt_log hl (1 - w.frm)
  have hm61 : (mAt y (1 - w.frm)).log.length ≤ 61 := by omega
  have hn := note_len (mAt y (1 - w.frm)) w.inn
  dsimp only
  split
  · exact h
  · split
    · split
      · exact h.setTwo _ hm61
      · exact h
    · split
      · exact h
      · refine Small.send ?_ _
        split
        · exact h.setTwo _ (by omega)
        · exact h
theorem deedD_small {x : Box} (hok : x.ok = true) (d : Deed) : Small (deedD x d).1 := by
  obtain ⟨h, hl, hw, hm⟩ := Box.smallOf hok
  have hmA := mAt_log hm
  have hE : ∀ i, (x.net.eraseIdx i).length ≤ 22 := fun i => by have := List.length_eraseIdx_le x.net i; omega
  unfold deedD
  split
  · unfold inD
    split
    · exact h
    · split
      · exact h.setTwo _ (by have := note_len (mAt x (whoM x)) d.inn; have := hmA (whoM x); omega)
      · exact h
  split
  · unfold sayD
    split
    · exact h
    · dsimp only
      have hx : Small (setTwo (acceptB x (saying x.id x.ports (mAt x (whoM x)).log (mAt x (whoM x)).said)) (whoM x).toNat ⟨(mAt x (whoM x)).up, (mAt x (whoM x)).life, (mAt x (whoM x)).epoch, (mAt x (whoM x)).log, (mAt x (whoM x)).said + 1, (mAt x (whoM x)).acked, (mAt x (whoM x)).ackLife⟩) := by
        exact Small.setTwo (h.accept _) _ (show (mAt x (whoM x)).log.length ≤ 61 by have := hmA (whoM x); omega)
      split
      · exact hx.setLine (by simp; omega)
      · exact hx
  split
  · unfold onWireD
    split
    · exact h
    · split
      · exact h.send _
      · split
        · exact h.setNet (hE _)
        · exact Small.heard (h.setNet (hE _)) hm _
  split
  · exact h
  unfold onMinderD
  dsimp only
  have hnl : (newLife x).log.length ≤ 61 := Nat.zero_le _
  split
  · unfold shipD
    split
    · exact h
    · exact h.send _
  split
  · unfold takeD
    dsimp only
    split
    · exact h
    · split
      · exact h
      · refine Small.setTwo (h.setReg _) _ ?_
        simp only [takeR_log]
        have := hmA d.a; omega
  split
  · unfold pairD
    split
    · exact h.setReg _
    · exact h
  split
  · unfold pairD
    split
    · exact h.setReg _
    · exact h
  split
  · split
    · exact h
    · exact h.setTwo _ hnl
  split
  · exact h
  split
  · split
    · exact h
    · exact h.setTwo _ hnl
  · exact h.setTwo _ (Nat.zero_le _)

theorem doM {H : Heap} {l : List Lf} {x : Box} (h : RdBox H l x) (hok : x.ok = true) (d : Deed) :
    Runs env 87 [.agg l, .agg d.enc] H fun v H' => ∃ l' fp, v = .tup [.agg l', .lf (.i .i64 (doR x d).2)] ∧ IsBox H' l' (doR x d).1 fp ∧ Fresh H H' fp := by
  have hR := h
  obtain ⟨hsm, -⟩ := Box.smallOf hok
  have hn := hsm.sz
  obtain ⟨y, hy⟩ : ∃ y, y = (deedD x d).1 := ⟨_, rfl⟩
  obtain ⟨c, hc⟩ : ∃ c, c = (deedD x d).2 := ⟨_, rfl⟩
  have hsy := (deedD_small hok d).sz
  rw [← hy] at hsy
  have hD := doR.eq_1 x d
  rw [← hy, ← hc] at hD
  obtain ⟨q0, q1, q2, q3, q4, rfl, r0, r1, r2, r3, r4⟩ := h
  refine Runs.walk ok87 Tryz.func87 rfl (by simp [Tryz.f87]) fun Q hQ => ?_
  simp only [Tryz.f87, strip, stripL, stripI, stripG, chkT, tagsB, tagsL, tagD, addT, tagA, lookN, tagOp, elmT, ty22, ty26, ty27, ty28, ty29, ty30, ty41, ty53, ty56, Nat.reduceEqDiff, if_false, reduceIte, Option.getD_some, Option.getD_none, dstAt, dstOk, Nat.reduceLT, decide_true, if_true]
  simp [Box.enc, Deed.enc]
  refine stpL_runs (copyBox (hR.app _) (by omega)) ?_
  rintro _ _ ⟨l1, f1, rfl, o1, ⟨⟨G1, rfl⟩, hf1⟩⟩
  have hL1 := o1.len
  have hT1 : l1.take l1.length = l1 := List.take_length
  rw [hL1] at hT1
  have hlt1 := o1.lt
  have o1' := o1.app [some ⟨32, .wr, [l1]⟩]
  simp only [List.append_assoc, List.cons_append, List.nil_append, Box.enc] at o1'
  simp [hL1, hT1]
  have hdm := fun (H3 : Heap) id l (hb : blkAt H3 id = some ⟨32, .wr, [l]⟩) f1 (hI : IsBox H3 l x f1) (hid : id ∉ f1) => deedM hb hI hid hok (by omega) d
  simp only [Deed.enc] at hdm
  obtain ⟨H3, hH3⟩ : ∃ H3 : Heap, H3 = H ++ some ⟨32, .wr, [[.i .i64 x.id, .i .i64 x.ports, .i .i64 x.reg.epoch, .i .i64 x.reg.owner, .i .i64 x.reg.pair, q0, q1, q2, q3, q4]]⟩ :: some ⟨66, .wr, [[.i .i64 d.kind, .i .i64 d.a, .i .i64 d.inn.kind, .i .i64 d.inn.port, .i .i64 d.inn.vec.root, .i .i64 d.inn.vec.cost, .i .i64 d.inn.vec.bridge, .i .i64 d.inn.vec.port, .i .i64 d.inn.hops, .b d.inn.up]]⟩ :: some ⟨32, .wr, [[.i .i64 0, .i .i64 0, .i .i64 0, .i .i64 0, .i .i64 0, .sl none 0, .sl none 0, .sl none 0, .sl none 0, .sl none 0]]⟩ :: (G1 ++ [some ⟨32, .wr, [l1]⟩]) := ⟨_, rfl⟩
  have b1 : blkAt H3 H.length = some ⟨32, .wr, [[.i .i64 x.id, .i .i64 x.ports, .i .i64 x.reg.epoch, .i .i64 x.reg.owner, .i .i64 x.reg.pair, q0, q1, q2, q3, q4]]⟩ := by rw [hH3]; simp
  have b2 : blkAt H3 (H.length + 2) = some ⟨32, .wr, [[.i .i64 0, .i .i64 0, .i .i64 0, .i .i64 0, .i .i64 0, .sl none 0, .sl none 0, .sl none 0, .sl none 0, .sl none 0]]⟩ := by rw [hH3]; simp
  obtain ⟨K7, hK7⟩ : ∃ K7, K7 = H.length + (G1.length + 3) := ⟨_, rfl⟩
  have b7 : blkAt H3 K7 = some ⟨32, .wr, [l1]⟩ := by rw [hH3, hK7]; simp
  have o3 : IsBox H3 l1 x f1 := by rw [hH3]; exact o1'
  have k03 : Keep [] H H3 := by rw [hH3]; exact Keep.app _ _ _
  have n7 : ∀ i ∈ f1, H.length + 3 ≤ i ∧ i < K7 := fun i hi => by have h1 := hf1 _ hi; have h2 := hlt1 _ hi; simp only [List.length_append, List.length_cons, List.length_nil] at h1 h2; omega
  have hK7g : H.length + 3 ≤ K7 := by omega
  rw [← hH3, ← hK7]
  clear hH3 o1 o1' hf1 hlt1 hK7
  have fin : ∀ (HF : Heap) (tm : Ab.T) (l' : List Lf) (z : Box) (c' : Int) (f' : List Nat), tm 4 = .ptr (H.length + 2) 0 0 → blkAt HF (H.length + 2) = some ⟨32, .wr, [l']⟩ → IsBox HF l' z f' → tm 5 = .int c' → doR x d = (z, c') → Keep [] H HF → (∀ i ∈ f', H.length ≤ i) → Q .ret tm HF := by
    intro HF tm l' z c' f' t4 hb4 ho4 t5 hz hK hf
    have hL' := ho4.len
    have hT' : l'.take l'.length = l' := List.take_length
    rw [hL'] at hT'
    refine hQ _ _ _ (by simp) ?_
    have hres : resT env.τ tm HF (Tryz.f87.results.toList) = some [W.agg l', W.lf (.i .i64 c')] := by simp [Tryz.f87, t4, t5, hb4, hL', hT']
    rw [hres, optK_some, hz]
    obtain ⟨fp, h1, h2⟩ := ho4.leave (H := H) (ws := [W.agg l', W.lf (.i .i64 c')]) ⟨hK.ext, hf⟩ (by simp)
    exact ⟨_, fp, rfl, h1, h2⟩
  refine stpL_runs (hdm H3 K7 l1 b7 f1 o3 (fun hi => by have := n7 _ hi; omega)) ?_
  rw [← hc, ← hy]
  rintro _ H4 ⟨rfl, l4, f4, b74, o4, hid4, k4, hf4⟩
  have hno : ∀ i, i < H.length + 3 → i ∉ K7 :: f1 := fun i hi hj => by
    rcases List.mem_cons.1 hj with rfl | hj
    · omega
    · have := n7 i hj; omega
  have b14 := k4.blk b1 (hno _ (by omega))
  have b24 := k4.blk b2 (hno _ (by omega))
  have k04 : Keep [] H H4 := k03.next k4 (fun i hi => by
    rcases List.mem_cons.1 hi with rfl | hi
    · omega
    · have := n7 i hi; omega)
  have d14 := blkAt_len b14
  have d24 := blkAt_len b24
  have d74 := blkAt_len b74
  have hL4 := o4.len
  have hT4 : l4.take l4.length = l4 := List.take_length
  rw [hL4] at hT4
  have hf40 : ∀ i ∈ f4, H.length + 3 ≤ i := fun i hi => by
    rcases hf4 i hi with h | h
    · have := n7 i h; omega
    · have := blkAt_len b2; have := k03.1; omega
  have e1 := implBoxOk_is o4.rd (by omega)
  by_cases hc0 : c = 0
  · rw [if_pos hc0] at hD
    cases hyo : y.ok
    · rw [if_neg (by simp [hyo])] at hD
      simp [hc0, b74, d74, hL4, hT4, e1, hyo, b14, d14]
      refine stpL_runs (copyBox (hR.base k04) (by omega)) ?_
      rintro _ _ ⟨l5, f5, rfl, o5, ⟨⟨G5, rfl⟩, hf5⟩⟩
      have hL5 := o5.len
      have hT5 : l5.take l5.length = l5 := List.take_length
      rw [hL5] at hT5
      have hb5 := blkAt_app b24 G5
      have d5 := blkAt_len hb5
      have n5 : ∀ i ∈ f5, i ∉ [H.length + 2] := fun i hi hj => by have := hf5 i hi; simp at hj; omega
      simp [hb5, hL5, hT5]
      refine fin _ _ l5 x 4 f5 ?_ (blkAt_set d5) (o5.keep (Keep.set _ _) n5) ?_ hD ((k04.next (Keep.app [] _ G5) (by simp)).next (Keep.set _ _) (by simp)) (fun i hi => by have := hf5 i hi; have := k04.1; omega)
      · simp
      · simp
    · rw [if_pos hyo] at hD
      simp [hc0, b74, d74, hL4, hT4, e1, hyo, b14, d14, b24, d24]
      exact fin _ _ l4 y 0 f4 (by simp) (blkAt_set d24) (o4.keep (Keep.set _ _) (fun i hi hj => by have := hf40 i hi; simp at hj; omega)) (by simp) hD (k04.next (Keep.set _ _) (by simp)) (fun i hi => by have := hf40 i hi; omega)
  · rw [if_neg hc0] at hD
    simp [hc0, b74, d74, hL4, hT4, e1, b14, d14]
    refine stpL_runs (copyBox (hR.base k04) (by omega)) ?_
    rintro _ _ ⟨l5, f5, rfl, o5, ⟨⟨G5, rfl⟩, hf5⟩⟩
    have hL5 := o5.len
    have hT5 : l5.take l5.length = l5 := List.take_length
    rw [hL5] at hT5
    have hb5 := blkAt_app b24 G5
    have d5 := blkAt_len hb5
    have n5 : ∀ i ∈ f5, i ∉ [H.length + 2] := fun i hi hj => by have := hf5 i hi; simp at hj; omega
    simp [hb5, hL5, hT5]
    refine fin _ _ l5 x c f5 ?_ (blkAt_set d5) (o5.keep (Keep.set _ _) n5) ?_ hD ((k04.next (Keep.app [] _ G5) (by simp)).next (Keep.set _ _) (by simp)) (fun i hi => by have := hf5 i hi; have := k04.1; omega)
    · simp
    · simp

theorem implDo_is {H : Heap} {l : List Lf} {x : Box} (h : RdBox H l x) (hn : x.sz ≤ 1048576) (d : Deed) :
    Runs env 40 [.agg l, .agg d.enc] H fun v H' => ∃ l' fp, v = .tup [.agg l', .lf (.i .i64 (doIt x d).2)] ∧ IsBox H' l' (doIt x d).1 fp ∧ Fresh H H' fp := by
  have hR := h
  have hD := doIt.eq_1 x d
  have e1 := fun G => implBoxOk_is (hR.app G) (by omega)
  have hm := fun G (hok : x.ok = true) => doM (hR.app G) hok d
  obtain ⟨q0, q1, q2, q3, q4, rfl, r0, r1, r2, r3, r4⟩ := h
  simp only [Box.enc] at e1
  simp only [Box.enc, Deed.enc] at hm
  refine Runs.walk ok40 Tryz.func40 rfl (by simp [Tryz.f40]) fun Q hQ => ?_
  simp only [Tryz.f40, strip, stripL, stripI, stripG, chkT, tagsB, tagsL, tagD, addT, tagA, lookN, tagOp, elmT, ty22, ty26, ty27, ty28, ty29, ty30, ty41, ty53, ty56, Nat.reduceEqDiff, if_false, reduceIte, Option.getD_some, Option.getD_none, dstAt, dstOk, Nat.reduceLT, decide_true, if_true]
  have bad : ∀ tm : Ab.T, ¬ ((1 ≤ d.kind ∧ d.kind ≤ 12) ∧ x.ok = true) → tm 4 = .ptr (H.length + 2) 0 0 → tm 5 = .int 1 → ∀ B0 B1 : Option Blk, Q .ret tm (H ++ [B0, B1, some ⟨32, .wr, [[.i .i64 0, .i .i64 0, .i .i64 0, .i .i64 0, .i .i64 0, .sl none 0, .sl none 0, .sl none 0, .sl none 0, .sl none 0]]⟩]) := by
    intro tm hno t4 t5 B0 B1
    rw [if_neg hno] at hD
    refine hQ _ _ _ (by simp) ?_
    simp [Tryz.f40, t4, t5, hD]
    refine ⟨[], ⟨.sl none 0, .sl none 0, .sl none 0, .sl none 0, .sl none 0, [], [], [], [], [], rfl, IsL.emp _ _ _, ⟨none, rfl, Own.nil _ _⟩, ⟨none, rfl, Own.nil _ _⟩, ⟨none, rfl, Own.nil _ _⟩, ⟨none, rfl, Own.nil _ _⟩, rfl, by simp⟩, Fresh.refl _⟩
  simp [Box.enc, Deed.enc, inRange]
  by_cases hk : 1 ≤ d.kind ∧ d.kind ≤ 12
  · have hkb : (!decide (1 ≤ d.kind) || !decide (d.kind ≤ 12)) = false := by simp [hk]
    rw [hkb]
    cases hok : x.ok
    · simp [e1, hok]
      exact bad _ (by simp [hok]) (by simp) (by simp) _ _
    · rw [if_pos ⟨hk, hok⟩] at hD
      simp [e1, hok]
      refine stpL_runs (hm _ hok) ?_
      rintro _ _ ⟨l1, f1, rfl, o1, ⟨⟨G1, rfl⟩, hf1⟩⟩
      have hL1 := o1.len
      have hT1 : l1.take l1.length = l1 := List.take_length
      rw [hL1] at hT1
      simp [hL1, hT1]
      refine hQ _ _ _ (by simp) ?_
      simp [Tryz.f40, hL1, hT1, hD]
      have o2 := o1.keep (Keep.set (id := H.length + 2) _ (some ⟨32, .wr, [l1]⟩)) (fun i hi hj => by have := hf1 i hi; simp at hj; simp at this; omega)
      simp only [List.append_assoc, List.cons_append, List.nil_append, set_appk, List.set_cons_succ, List.set_cons_zero, Box.enc, Deed.enc] at o2
      exact o2.leave (H := H) ⟨⟨_, rfl⟩, fun i hi => by have := hf1 i hi; simp at this; omega⟩ (by simp)
  · have hkb : (!decide (1 ≤ d.kind) || !decide (d.kind ≤ 12)) = true := by
      rcases Int.lt_or_le d.kind 1 with h | h
      · simp [show ¬ 1 ≤ d.kind by omega]
      · simp [show ¬ d.kind ≤ 12 by omega]
    rw [hkb]
    simp
    exact bad _ (fun h => hk h.1) (by simp) (by simp) _ _

/-- A box's value in memory of its own, that was fp's before or is new. -/
def BoxVal (H H' : Heap) (fp : List Nat) (l' : List Lf) (y : Box) : Prop := ∃ fp', IsBox H' l' y fp' ∧ Keep fp H H' ∧ ∀ i ∈ fp', i ∈ fp ∨ H.length ≤ i
theorem BoxVal.len {H H' : Heap} {fp : List Nat} {l' : List Lf} {y : Box} (h : BoxVal H H' fp l' y) : l'.length = 10 := let ⟨_, h1, _⟩ := h; h1.len
theorem BoxVal.leave {H H' : Heap} {fp : List Nat} {l' : List Lf} {y : Box} (h : BoxVal H H' fp l' y) {ws : List W} (hw : ws.all W.free = true → l'.all refFree = true) : BoxVal H (Go.Ab.leave H H' ws) fp l' y := by
  rcases leave_opt H H' ws with e | ⟨e, hf⟩ <;> rw [e]
  · exact h
  · obtain ⟨fp', h1, h2, h3⟩ := h
    exact ⟨[], h1.free (hw hf) H, Keep.refl _ _, by simp⟩
theorem BoxTo.val {H G HX : Heap} {c : Nat} {fp : List Nat} {y : Box} (hfp : ∀ i ∈ fp, i < H.length) (h : BoxTo (H ++ G) HX H.length fp y) (hc : H.length < c) (hc2 : c < (H ++ G).length) :
    ∃ l', blkAt HX H.length = some ⟨32, .wr, [l']⟩ ∧ l'.length = 10 ∧ l'.take 10 = l' ∧ BoxVal H (HX.set c (some ⟨32, .wr, [l']⟩)) fp l' y ∧ Keep (H.length :: fp) (H ++ G) HX := by
  obtain ⟨l', fp', h1, h2, h3, h4, h5⟩ := h
  have hl := h2.len
  have hcf : ∀ i ∈ fp', i ∉ [c] := fun i hi hj => by
    simp at hj
    rcases h5 i hi with h | h
    · have := hfp i h; omega
    · omega
  refine ⟨l', h1, hl, by rw [← hl]; exact List.take_length, ⟨fp', h2.keep (Keep.set _ _) hcf, ?_, fun i hi => ?_⟩, h4⟩
  · refine ((Keep.app [] H G).trans h4 (h := fp) (by simp) (fun i hi hlt => ?_)).trans (Keep.set _ _) (fun _ h _ => h) (fun i hi hlt => ?_)
    · rcases List.mem_cons.1 hi with rfl | hi
      · omega
      · exact hi
    · simp at hi; omega
  · rcases h5 i hi with h | h
    · exact .inl h
    · exact .inr (by simp at h; omega)

theorem l1Max (H : Heap) (a b : Int) : run env 116 [.int a, .int b] H = some (.int (max a b), H) := by
  refine run_walk ok116 Tryz.func116 rfl (by simp [Tryz.f116]) fun Q hQ => ?_
  simp only [Tryz.f116, strip, stripL, stripI, stripG, chkT, tagsB, tagsL, tagD, addT, tagA, lookN, tagOp, elmT, ty22, ty26, ty27, ty28, ty29, ty30, ty41, ty53, ty56, Nat.reduceEqDiff, if_false, reduceIte, Option.getD_some, Option.getD_none, dstAt, dstOk, Nat.reduceLT, decide_true, if_true]
  simp
  refine selS_intro (fun h => ?_) (fun h => ?_)
  · simp at h
    simp
    refine hQ _ _ _ (by simp) ?_
    simp [Tryz.f116, show max a b = a by omega]
  · simp at h
    simp
    refine hQ _ _ _ (by simp) ?_
    simp [Tryz.f116, show max a b = b by omega]

theorem mindsAt_s {x : Box} (h2 : x.two.length = 2) {s : Nat} (hs : s < 2) : mindsAt x s = minds x.reg s (x.two.getD s zM) := by
  unfold mindsAt
  have h1 : (s : Int) ≤ (x.two.length : Int) - 1 := by omega
  simp [h1]
theorem whoM_of {x : Box} (h2 : x.two.length = 2) {s : Nat} (hs : s < 2) (hm : mindsAt x s = true) (hno : ∀ k : Nat, k < s → mindsAt x k = false) : whoM x = s := by
  unfold whoM
  obtain rfl | rfl : s = 0 ∨ s = 1 := by omega
  · rw [mindsAt_s h2 hs] at hm
    exact if_pos hm
  · have h0 := hno 0 (by omega)
    rw [mindsAt_s h2 (by omega)] at h0 hm
    have h0' : ¬ minds x.reg 0 (x.two.getD 0 zM) = true := by intro h; rw [show ((0 : Nat) : Int) = 0 from rfl] at h0; rw [h0] at h; cases h
    rw [if_neg h0']; exact if_pos hm
theorem whoM_no {x : Box} (h2 : x.two.length = 2) (hno : ∀ k : Nat, k < 2 → mindsAt x k = false) : whoM x = -1 := by
  unfold whoM
  have h0 := hno 0 (by omega)
  have h1 := hno 1 (by omega)
  rw [mindsAt_s h2 (by omega)] at h0 h1
  rw [if_neg (by intro h; rw [show ((0 : Nat) : Int) = 0 from rfl] at h0; rw [h0] at h; cases h), if_neg (by intro h; rw [show ((1 : Nat) : Int) = 1 from rfl] at h1; rw [h1] at h; cases h)]
theorem l15Who {H : Heap} {l : List Lf} {x : Box} (h : RdBox H l x) (h2 : x.two.length = 2) (hn : x.sz ≤ 1048576) : run env 146 [.agg l] H = some (.int (whoM x), H) := by
  have e1 := fun G s => l14Minds (h.app G) hn s
  obtain ⟨Q0, Q1, Q2, Q3, Q4, rfl, -⟩ := h
  simp only [Box.enc] at e1 ⊢
  refine run_walk ok146 Tryz.func146 rfl (by simp [Tryz.f146]) fun Q hQ => ?_
  simp only [Tryz.f146, strip, stripL, stripI, stripG, chkT, tagsB, tagsL, tagD, addT, tagA, lookN, tagOp, elmT, ty22, ty26, ty27, ty28, ty29, ty30, ty41, ty53, ty56, Nat.reduceEqDiff, if_false, reduceIte, Option.getD_some, Option.getD_none, dstAt, dstOk, Nat.reduceLT, decide_true, if_true]
  simp
  obtain ⟨B, hB⟩ : ∃ B : Option Blk, B = some ⟨32, .wr, [[.i .i64 x.id, .i .i64 x.ports, .i .i64 x.reg.epoch, .i .i64 x.reg.owner, .i .i64 x.reg.pair, Q0, Q1, Q2, Q3, Q4]]⟩ := ⟨_, rfl⟩
  refine wpS_loop (fun j tm H' => ∃ i, i + j = 2 ∧ tm 1 = .ptr H.length 0 0 ∧ tm 3 = .int i ∧ H' = H ++ [B] ∧ ∀ k : Nat, k < i → mindsAt x k = false) 2 (by rw [env_K]; omega) ⟨0, by simp, by simp, by simp, by simp [hB], by simp⟩ ?_
  rintro j tm H1 hj ⟨i, hij, t1, t3, rfl, hno⟩ Q2 hn2 he2 hr2
  simp [t1, t3]
  refine selS_intro (fun hc => ?_) (fun hc => ?_)
  · simp at hc
    have g4 : IntKind.i64.wrap ((i : Int) + 1) = (i : Int) + 1 := wrap64 (by omega) (by omega)
    simp [t1, t3, hB, e1, g4]
    cases hm : mindsAt x i
    · simp [t1, t3, g4]
      exact hn2 (j - 1) _ _ (by omega) ⟨i + 1, by omega, by simp [t1], by simp, by rw [hB], fun k hk => by
        rcases Nat.lt_or_ge k i with h | h
        · exact hno k h
        · obtain rfl : k = i := by omega
          exact hm⟩
    · simp [t1, t3]
      refine hr2 _ _ ?_
      simp
      refine hQ _ _ _ (by simp) ?_
      simp [Tryz.f146]
      exact (whoM_of h2 (by omega) hm hno).symm
  · simp at hc
    obtain rfl : i = 2 := by omega
    simp [t1, t3]
    refine he2 _ _ _ ?_
    simp
    refine hQ _ _ _ (by simp) ?_
    simp [Tryz.f146]
    exact (whoM_no h2 hno).symm

theorem l15Rise {H : Heap} {l : List Lf} {x : Box} (h : RdBox H l x) (hok : x.ok = true) : run env 151 [.agg l] H = some (.agg [.b true, .i .i64 (newLife x).life, .i .i64 0, .sl none 0, .i .i64 0, .i .i64 0, .i .i64 0], H) := by
  have h2 := (Box.right hok).two
  obtain ⟨Q0, Q1, Q2, Q3, Q4, rfl, ⟨a0, rws, rfl, hs, hlen, hat⟩, -⟩ := h
  have hr0 : 0 < rws.length := by omega
  have hr1 : 1 < rws.length := by omega
  obtain ⟨id, r, bl, rfl, hbl, hbe, hrow0⟩ := hs 0 _ (List.getElem?_eq_getElem hr0)
  obtain ⟨id', r', bl', hx, hbl', -, hrow1⟩ := hs 1 _ (List.getElem?_eq_getElem hr1)
  cases hx
  rw [hbl] at hbl'
  injection hbl' with hbl'
  subst hbl'
  obtain ⟨p0, hp0, -⟩ := hat 0 _ _ (List.getElem?_eq_getElem hr0) (List.getElem?_eq_getElem (by omega))
  obtain ⟨p1, hp1, -⟩ := hat 1 _ _ (List.getElem?_eq_getElem hr1) (List.getElem?_eq_getElem (by omega))
  rw [hp0] at hrow0
  rw [hp1] at hrow1
  have hid := blkAt_len hbl
  have m0 := (Box.right hok).ok _ (List.getElem_mem (show 0 < x.two.length by omega))
  have m1 := (Box.right hok).ok _ (List.getElem_mem (show 1 < x.two.length by omega))
  have l0 : 0 ≤ x.two[0].life ∧ x.two[0].life ≤ 100000 := by simp [Minder.ok] at m0; omega
  have l1 : 0 ≤ x.two[1].life ∧ x.two[1].life ≤ 100000 := by simp [Minder.ok] at m1; omega
  have e0 : mAt x 0 = x.two[0] := by simp [mAt, List.getD, List.getElem?_eq_getElem (show 0 < x.two.length by omega)]
  have e1 : mAt x 1 = x.two[1] := by simp [mAt, List.getD, List.getElem?_eq_getElem (show 1 < x.two.length by omega)]
  have hw : IntKind.i64.wrap (max x.two[0].life x.two[1].life + 1) = max x.two[0].life x.two[1].life + 1 := wrap64 (by omega) (by omega)
  have hnl : (newLife x).life = max x.two[0].life x.two[1].life + 1 := by rw [newLife, e0, e1]
  rw [hnl]
  simp only [Box.enc, h2]
  simp only [Nat.add_zero] at hrow0
  have hbA := fun G => blkAt_app hbl G
  have hid2 : id < H.length + 2 := by omega
  refine run_walk ok151 Tryz.func151 rfl (by simp [Tryz.f151]) fun Q hQ => ?_
  simp only [Tryz.f151, strip, stripL, stripI, stripG, chkT, tagsB, tagsL, tagD, addT, tagA, lookN, tagOp, elmT, ty22, ty26, ty27, ty28, ty29, ty30, ty41, ty53, ty56, Nat.reduceEqDiff, if_false, reduceIte, Option.getD_some, Option.getD_none, dstAt, dstOk, Nat.reduceLT, decide_true, if_true]
  simp [hbA, hid2, indexAddrV, elemIs, hbe, hrow0, hrow1, Minder.enc, l1Max, hw]
  refine hQ _ _ _ (by simp) ?_
  simp [Tryz.f151]

/-- One wire more behind a box's, in memory of its own. -/
theorem boxApp {H : Heap} {id : Nat} {l : List Lf} {y : Box} {g : List Nat} (hb : blkAt H id = some ⟨32, .wr, [l]⟩) (hI : IsBox H l y g) (hid : id ∉ g) :
    ∃ (a1 : Option (Nat × Nat)) (q0 q2 q3 q4 : Lf) (f1 : List Nat), l = y.enc q0 (.sl a1 y.net.length) q2 q3 q4 ∧ Own H 91 a1 (y.net.map Wire.enc) f1 ∧ (∀ i ∈ f1, i ∈ g) ∧
      ∀ (H2 : Heap) (q1' : Lf) (ws : List Wire) (fp'' : List Nat), Keep f1 H H2 → IsWireS H2 q1' ws fp'' → (∀ i ∈ fp'', i ∈ f1 ∨ H.length ≤ i) →
        blkAt H2 id = some ⟨32, .wr, [l]⟩ ∧ BoxTo H (H2.set id (some ⟨32, .wr, [y.enc q0 q1' q2 q3 q4]⟩)) id g (setNet y ws) := by
  obtain ⟨q0, q1, q2, q3, q4, f0, f1, f2, f3, f4, rfl, i0, ⟨a1, rfl, o1⟩, i2, i3, i4, rfl, hnd⟩ := hI
  refine ⟨a1, q0, q2, q3, q4, f1, rfl, o1, fun i hi => by simp [hi], fun H2 q1' ws fp'' k o hf => ⟨k.blk hb (fun h => hid (by simp [h])), ?_⟩⟩
  exact boxNet (blkAt_len hb) hid i0 i2 i3 i4 hnd k o hf

/-- A box's value put back behind the pointer. -/
theorem BoxVal.to {H H' : Heap} {id : Nat} {fp : List Nat} {l' : List Lf} {y : Box} (h : BoxVal H H' fp l' y) (hid : id ∉ fp) (hl : id < H.length) : BoxTo H (H'.set id (some ⟨32, .wr, [l']⟩)) id fp y := by
  obtain ⟨fp', h1, h2, h3⟩ := h
  have hn : id ∉ fp' := fun h => by
    rcases h3 id h with h | h
    · exact hid h
    · omega
  exact ⟨l', fp', blkAt_set (Nat.lt_of_lt_of_le hl h2.1), h1.keep (Keep.set _ _) (fun i hi hj => by simp at hj; subst hj; exact hn hi), hn, h2.trans (Keep.set _ _) (fun i hi _ => by simp [hi]) (fun i hi _ => by simp at hi; simp [hi]), h3⟩

theorem l15In {H : Heap} {l : List Lf} {x : Box} {fp : List Nat} (hI : IsBox H l x fp) (hok : Small x) (d : Deed) :
    Runs env 118 [.agg l, .agg d.enc] H fun v H' => ∃ l', v = .tup [.agg l', .lf (.i .i64 (inD x d.inn).2)] ∧ BoxVal H H' fp l' (inD x d.inn).1 := by
  have hsz := hok.sz
  have h2 := hok.two
  have hlt := hI.lt
  have hid : H.length ∉ fp := fun h => by have := hlt _ h; omega
  obtain ⟨q0, q1, q2, q3, q4, rfl⟩ : ∃ q0 q1 q2 q3 q4, l = x.enc q0 q1 q2 q3 q4 := by
    obtain ⟨q0, q1, q2, q3, q4, _, _, _, _, _, rfl, -⟩ := hI
    exact ⟨q0, q1, q2, q3, q4, rfl⟩
  obtain ⟨R, hR⟩ : ∃ R, R = inD x d.inn := ⟨_, rfl⟩
  rw [← hR]
  refine Runs.walk ok118 Tryz.func118 rfl (by simp [Tryz.f118]) fun Q hQ => ?_
  simp only [Tryz.f118, strip, stripL, stripI, stripG, chkT, tagsB, tagsL, tagD, addT, tagA, lookN, tagOp, elmT, ty22, ty26, ty27, ty28, ty29, ty30, ty41, ty53, ty56, Nat.reduceEqDiff, if_false, reduceIte, Option.getD_some, Option.getD_none, dstAt, dstOk, Nat.reduceLT, decide_true, if_true]
  have fin : ∀ (HX : Heap) (tm : Ab.T) (c : Int) (y : Box) (l' : List Lf), R = (y, c) → BoxVal H HX fp l' y → tm 5 = .int c → tm 4 = .ptr (H.length + 2) 0 0 → blkAt HX (H.length + 2) = some ⟨32, .wr, [l']⟩ → Q .ret tm HX := by
    intro HX tm c y l' h1 hv t5 t4 hb4
    have hL' := hv.len
    have hT' : l'.take l'.length = l' := List.take_length
    rw [hL'] at hT'
    refine hQ _ _ _ (by simp) ?_
    have hres : resT env.τ tm HX (Tryz.f118.results.toList) = some [W.agg l', W.lf (.i .i64 c)] := by simp [Tryz.f118, t4, t5, hb4, hL', hT']
    rw [hres, optK_some, h1]
    exact ⟨_, rfl, hv.leave (by simp)⟩
  simp [Box.enc, Deed.enc, Wire.enc]
  obtain ⟨X, hX⟩ : ∃ X : Heap, X = H ++ [some ⟨32, .wr, [[.i .i64 x.id, .i .i64 x.ports, .i .i64 x.reg.epoch, .i .i64 x.reg.owner, .i .i64 x.reg.pair, q0, q1, q2, q3, q4]]⟩, some ⟨66, .wr, [[.i .i64 d.kind, .i .i64 d.a, .i .i64 d.inn.kind, .i .i64 d.inn.port, .i .i64 d.inn.vec.root, .i .i64 d.inn.vec.cost, .i .i64 d.inn.vec.bridge, .i .i64 d.inn.vec.port, .i .i64 d.inn.hops, .b d.inn.up]]⟩, some ⟨32, .wr, [[.i .i64 0, .i .i64 0, .i .i64 0, .i .i64 0, .i .i64 0, .sl none 0, .sl none 0, .sl none 0, .sl none 0, .sl none 0]]⟩] := ⟨_, rfl⟩
  have b0 : blkAt X H.length = some ⟨32, .wr, [[.i .i64 x.id, .i .i64 x.ports, .i .i64 x.reg.epoch, .i .i64 x.reg.owner, .i .i64 x.reg.pair, q0, q1, q2, q3, q4]]⟩ := by rw [hX]; simp
  have d0 := blkAt_len b0
  have bz : blkAt X (H.length + 2) = some ⟨32, .wr, [[.i .i64 0, .i .i64 0, .i .i64 0, .i .i64 0, .i .i64 0, .sl none 0, .sl none 0, .sl none 0, .sl none 0, .sl none 0]]⟩ := by rw [hX]; simp
  have dz := blkAt_len bz
  have bD : blkAt X (H.length + 1) = some ⟨66, .wr, [[.i .i64 d.kind, .i .i64 d.a, .i .i64 d.inn.kind, .i .i64 d.inn.port, .i .i64 d.inn.vec.root, .i .i64 d.inn.vec.cost, .i .i64 d.inn.vec.bridge, .i .i64 d.inn.vec.port, .i .i64 d.inn.hops, .b d.inn.up]]⟩ := by rw [hX]; simp
  have dD := blkAt_len bD
  rw [← hX]
  have kX : Keep [] H X := by rw [hX]; exact Keep.app _ _ _
  have hI1 : IsBox X (x.enc q0 q1 q2 q3 q4) x fp := hI.keep kX (by simp)
  have val : ∀ (HX : Heap) (y : Box), BoxTo X HX H.length fp y → ∃ l', blkAt HX H.length = some ⟨32, .wr, [l']⟩ ∧ l'.length = 10 ∧ l'.take 10 = l' ∧ BoxVal H (HX.set (H.length + 2) (some ⟨32, .wr, [l']⟩)) fp l' y ∧ Keep (H.length :: fp) X HX := by
    intro HX y h
    rw [hX] at h ⊢
    exact h.val hlt (by omega) (by simp)
  have off : ∀ k : Nat, 0 < k → H.length + k ∉ H.length :: fp := fun k hk h => by
    rcases List.mem_cons.1 h with h | h
    · omega
    · have := hlt _ h; omega
  have done : ∀ (HX : Heap) (y : Box) (c : Int) (_ : R = (y, c)) (_ : BoxTo X HX H.length fp y), ∃ l', blkAt HX H.length = some ⟨32, .wr, [l']⟩ ∧ l'.length = 10 ∧ l'.take 10 = l' ∧ H.length < HX.length ∧ H.length + 2 < HX.length ∧ blkAt HX (H.length + 2) = some ⟨32, .wr, [[.i .i64 0, .i .i64 0, .i .i64 0, .i .i64 0, .i .i64 0, .sl none 0, .sl none 0, .sl none 0, .sl none 0, .sl none 0]]⟩ ∧ ∀ tm : Ab.T, tm 5 = .int c → tm 4 = .ptr (H.length + 2) 0 0 → Q .ret tm (HX.set (H.length + 2) (some ⟨32, .wr, [l']⟩)) := by
    intro HX y c h1 h
    obtain ⟨l', v1, v2, v3, v4, v5⟩ := val HX y h
    have hz := v5.blk bz (off _ (by omega))
    have hzl := blkAt_len hz
    exact ⟨l', v1, v2, v3, blkAt_len v1, hzl, hz, fun tm t5 t4 => fin _ tm c y l' h1 v4 t5 t4 (blkAt_set hzl)⟩
  have doneL : ∀ (HX : Heap) (y : Box) (c : Int) (L : List Lf) (_ : R = (y, c)) (_ : blkAt HX H.length = some ⟨32, .wr, [L]⟩) (_ : BoxTo X HX H.length fp y), H.length < HX.length ∧ H.length + 2 < HX.length ∧ blkAt HX (H.length + 2) = some ⟨32, .wr, [[.i .i64 0, .i .i64 0, .i .i64 0, .i .i64 0, .i .i64 0, .sl none 0, .sl none 0, .sl none 0, .sl none 0, .sl none 0]]⟩ ∧ ∀ tm : Ab.T, tm 5 = .int c → tm 4 = .ptr (H.length + 2) 0 0 → Q .ret tm (HX.set (H.length + 2) (some ⟨32, .wr, [L]⟩)) := by
    intro HX y c L h1 hb h
    obtain ⟨l', w1, w2, w3, w4, w5, w6, w7⟩ := done HX y c h1 h
    rw [hb] at w1
    injection w1 with w1
    simp only [Blk.mk.injEq, List.cons.injEq, and_true, true_and] at w1
    subst w1
    exact ⟨w4, w5, w6, w7⟩
  have same : ∀ (G : Heap) (c : Int) (_ : R = (x, c)) (tm : Ab.T), tm 5 = .int c → tm 4 = .ptr (H.length + 2) 0 0 → Q .ret tm ((X ++ G).set (H.length + 2) (some ⟨32, .wr, [[.i .i64 x.id, .i .i64 x.ports, .i .i64 x.reg.epoch, .i .i64 x.reg.owner, .i .i64 x.reg.pair, q0, q1, q2, q3, q4]]⟩)) := by
    intro G c h1 tm t5 t4
    obtain ⟨l', w1, -, -, -, -, -, w7⟩ := done (X ++ G) x c h1 (BoxTo.app b0 hI1 hid G)
    rw [blkAt_app b0] at w1
    injection w1 with w1
    simp only [Blk.mk.injEq, List.cons.injEq, and_true, true_and] at w1
    subst w1
    exact w7 tm t5 t4
  have same0 : ∀ (c : Int) (_ : R = (x, c)) (tm : Ab.T), tm 5 = .int c → tm 4 = .ptr (H.length + 2) 0 0 → Q .ret tm (X.set (H.length + 2) (some ⟨32, .wr, [[.i .i64 x.id, .i .i64 x.ports, .i .i64 x.reg.epoch, .i .i64 x.reg.owner, .i .i64 x.reg.pair, q0, q1, q2, q3, q4]]⟩)) := by
    intro c h1 tm t5 t4
    have := same [] c h1 tm t5 t4
    rwa [List.append_nil] at this
  have e1 := l15Who (hI1.rd) h2 (by omega)
  simp only [Box.enc] at e1
  have e2 := fun H => specInOk H d.inn
  simp only [In.enc] at e2
  simp [e1]
  by_cases hneg : whoM x < 0
  · simp [hneg, b0, d0, bz, dz]
    exact same0 3 (by rw [hR, inD, if_pos (.inl hneg)]) _ (by simp) (by simp)
  obtain ⟨s, hs2, hw⟩ : ∃ s : Nat, s < 2 ∧ whoM x = (s : Int) := by
    rcases whoM_cases x with ⟨h, -⟩ | ⟨h, -⟩ | ⟨h, -⟩
    · exact ⟨0, by omega, h⟩
    · exact ⟨1, by omega, h⟩
    · omega
  have hs : s < x.two.length := by omega
  rw [hw] at hneg ⊢
  cases hio : d.inn.ok
  · simp [hneg, b0, d0, bz, dz, bD, dD, e2, hio]
    exact same0 3 (by rw [hR, inD, if_pos (.inr (.inl hio))]) _ (by simp) (by simp)
  by_cases hpo : x.ports ≤ d.inn.port
  · simp [hneg, b0, d0, bz, dz, bD, dD, e2, hio, hpo]
    exact same0 3 (by rw [hR, inD, if_pos (.inr (.inr hpo))]) _ (by simp) (by simp)
  obtain ⟨bid, blo, r1, r2, r3, r4, row, fs, hl, hbne, hbl, hbb, hbe, hbm, hrow, hrd, hbfs, hidfs, hput⟩ := boxTwoOwn b0 hI1 hid hs
  simp only [Box.enc, List.cons.injEq, and_true, true_and] at hl
  obtain ⟨rfl, rfl, rfl, rfl, rfl⟩ := hl
  have hbH : bid < H.length := by
    have h1 := hI.rd
    obtain ⟨_, _, _, _, _, e1, ⟨a0, rws, e2, hss, hll, _⟩, -⟩ := h1
    simp only [Box.enc, List.cons.injEq, and_true, true_and] at e1
    obtain ⟨e1, -⟩ := e1
    rw [e2] at e1
    injection e1 with e1
    rw [← e1] at hss
    exact hss.len (by rintro rfl; simp at hll; omega)
  have b0s := b0
  rw [h2] at b0 same same0
  obtain ⟨m, hm⟩ : ∃ m, m = x.two[s] := ⟨_, rfl⟩
  rw [← hm] at hrd
  have hmx : m ∈ x.two := by rw [hm]; exact List.getElem_mem hs
  have hmlog := hok.log m hmx
  have hmsz : m.sz ≤ 1048576 := by unfold Minder.sz; omega
  have hmA : mAt x (s : Int) = m := by simp [mAt, List.getD, List.getElem?_eq_getElem hs, hm]
  have hrdR := hrd.rd
  obtain ⟨a, rfl, oa⟩ := hrd
  have hrow' := hrow
  simp only [Minder.enc] at hrow
  have hs0 : (0 : Int) ≤ s := by omega
  have hsl2 : (s : Int) < 2 := by omega
  have hrl : s < blo.rows.length := (List.getElem?_eq_some_iff.1 hrow).1
  have hse : ∀ (Y : Heap) (y : Option Blk) (k : Nat), blkAt (List.set Y bid y) (H.length + k) = blkAt Y (H.length + k) := fun Y y k => blkAt_set_ne (by omega)
  have hse0 : ∀ (Y : Heap) (y : Option Blk), blkAt (List.set Y bid y) H.length = blkAt Y H.length := fun Y y => blkAt_set_ne (by omega)
  have hin : inD x d.inn = if (note m d.inn).2 = true then (setTwo x s (note m d.inn).1, 0) else (x, 4) := by
    rw [inD, if_neg (by rw [hw, hio]; intro h; simp at h; omega), hw, Int.toNat_natCast, hmA]
  have hrun := specNote_is hrdR hmsz d.inn
  simp only [In.enc, Minder.enc] at hrun
  simp [hneg, b0, d0, bz, dz, bD, dD, e2, hio, hpo, indexAddrV, elemIs, hbb, hbl, hbe, hs2, hs0, hsl2, hrow, h2]
  refine stpL_runs_f hrun (by rintro _ _ ⟨_, _, _, _, hf⟩; exact hf.1) ?_
  rintro _ _ ⟨l2, f2, rfl, o2, ⟨⟨G2, rfl⟩, hf2⟩⟩
  have hL2 := o2.len
  have hT2 : l2.take l2.length = l2 := List.take_length
  rw [hL2] at hT2
  have b0A := fun G => blkAt_app b0 G
  have bzA := fun G => blkAt_app bz G
  have hbbA := fun G => blkAt_app hbb G
  simp [hL2, hT2]
  cases hnote : (note m d.inn).2
  · rw [if_neg (by simp [hnote])] at hin
    simp [b0A, bzA, show H.length < X.length + (G2.length + 1) by omega, show H.length + 2 < X.length + (G2.length + 1) by omega, show H.length < X.length + (G2.length + 1 + 1) by omega, show H.length + 2 < X.length + (G2.length + 1 + 1) by omega]
    exact same _ 4 (by rw [hR, hin]) _ (by simp) (by simp)
  · rw [if_pos hnote] at hin
    have o2' := o2.app [some ⟨52, .wr, [l2]⟩]
    simp only [List.append_assoc] at o2'
    obtain ⟨fp', z1, z2, z3, z4, z5⟩ := hput (X ++ (G2 ++ [some ⟨52, .wr, [l2]⟩])) l2 _ f2 (Keep.app [] X _) o2' (fun i hi => .inr (hf2 i hi))
    obtain ⟨l', w1, w2, w3, w4, w5, w6, w7⟩ := done _ _ 0 (by rw [hR, hin]) ⟨_, fp', z1, z2, z3, z4, z5⟩
    simp only [List.length_set, List.length_append, List.length_cons, List.length_nil] at w4 w5
    have g1 : H.length < X.length + (G2.length + 1) := by omega
    have g2 : bid < X.length + (G2.length + 1) := by omega
    have g3 : H.length + 2 < X.length + (G2.length + 1) := by omega
    simp [b0A, bzA, hbbA, g1, g2, g3, indexAddrV, elemIs, hbe, hbm, hs2, hs0, hsl2, h2, hrow, Minder.enc, hL2, hT2, w1, w2, w3, w6]
    exact w7 _ (by simp) (by simp)

theorem l15Ship {H : Heap} {l : List Lf} {x : Box} {fp : List Nat} (hI : IsBox H l x fp) (hok : Small x) (hxok : x.ok = true) (s : Nat) (hs2 : s < 2) :
    Runs env 121 [.agg l, .int s] H fun v H' => ∃ l', v = .tup [.agg l', .lf (.i .i64 (shipD x s).2)] ∧ BoxVal H H' fp l' (shipD x s).1 := by
  have hsz := hok.sz
  have h2 := hok.two
  have hlt := hI.lt
  have hid : H.length ∉ fp := fun h => by have := hlt _ h; omega
  obtain ⟨q0, q1, q2, q3, q4, rfl⟩ : ∃ q0 q1 q2 q3 q4, l = x.enc q0 q1 q2 q3 q4 := by
    obtain ⟨q0, q1, q2, q3, q4, _, _, _, _, _, rfl, -⟩ := hI
    exact ⟨q0, q1, q2, q3, q4, rfl⟩
  obtain ⟨R, hR⟩ : ∃ R, R = shipD x s := ⟨_, rfl⟩
  rw [← hR]
  refine Runs.walk ok121 Tryz.func121 rfl (by simp [Tryz.f121]) fun Q hQ => ?_
  simp only [Tryz.f121, strip, stripL, stripI, stripG, chkT, tagsB, tagsL, tagD, addT, tagA, lookN, tagOp, elmT, ty22, ty26, ty27, ty28, ty29, ty30, ty41, ty53, ty56, Nat.reduceEqDiff, if_false, reduceIte, Option.getD_some, Option.getD_none, dstAt, dstOk, Nat.reduceLT, decide_true, if_true]
  have fin : ∀ (HX : Heap) (tm : Ab.T) (c : Int) (y : Box) (l' : List Lf), R = (y, c) → BoxVal H HX fp l' y → tm 5 = .int c → tm 4 = .ptr (H.length + 1) 0 0 → blkAt HX (H.length + 1) = some ⟨32, .wr, [l']⟩ → Q .ret tm HX := by
    intro HX tm c y l' h1 hv t5 t4 hb4
    have hL' := hv.len
    have hT' : l'.take l'.length = l' := List.take_length
    rw [hL'] at hT'
    refine hQ _ _ _ (by simp) ?_
    have hres : resT env.τ tm HX (Tryz.f121.results.toList) = some [W.agg l', W.lf (.i .i64 c)] := by simp [Tryz.f121, t4, t5, hb4, hL', hT']
    rw [hres, optK_some, h1]
    exact ⟨_, rfl, hv.leave (by simp)⟩
  simp [Box.enc, Deed.enc, Wire.enc]
  obtain ⟨X, hX⟩ : ∃ X : Heap, X = H ++ [some ⟨32, .wr, [[.i .i64 x.id, .i .i64 x.ports, .i .i64 x.reg.epoch, .i .i64 x.reg.owner, .i .i64 x.reg.pair, q0, q1, q2, q3, q4]]⟩, some ⟨32, .wr, [[.i .i64 0, .i .i64 0, .i .i64 0, .i .i64 0, .i .i64 0, .sl none 0, .sl none 0, .sl none 0, .sl none 0, .sl none 0]]⟩] := ⟨_, rfl⟩
  have b0 : blkAt X H.length = some ⟨32, .wr, [[.i .i64 x.id, .i .i64 x.ports, .i .i64 x.reg.epoch, .i .i64 x.reg.owner, .i .i64 x.reg.pair, q0, q1, q2, q3, q4]]⟩ := by rw [hX]; simp
  have d0 := blkAt_len b0
  have bz : blkAt X (H.length + 1) = some ⟨32, .wr, [[.i .i64 0, .i .i64 0, .i .i64 0, .i .i64 0, .i .i64 0, .sl none 0, .sl none 0, .sl none 0, .sl none 0, .sl none 0]]⟩ := by rw [hX]; simp
  have dz := blkAt_len bz
  rw [← hX]
  have kX : Keep [] H X := by rw [hX]; exact Keep.app _ _ _
  have hI1 : IsBox X (x.enc q0 q1 q2 q3 q4) x fp := hI.keep kX (by simp)
  have val : ∀ (HX : Heap) (y : Box), BoxTo X HX H.length fp y → ∃ l', blkAt HX H.length = some ⟨32, .wr, [l']⟩ ∧ l'.length = 10 ∧ l'.take 10 = l' ∧ BoxVal H (HX.set (H.length + 1) (some ⟨32, .wr, [l']⟩)) fp l' y ∧ Keep (H.length :: fp) X HX := by
    intro HX y h
    rw [hX] at h ⊢
    exact h.val hlt (by omega) (by simp)
  have off : ∀ k : Nat, 0 < k → H.length + k ∉ H.length :: fp := fun k hk h => by
    rcases List.mem_cons.1 h with h | h
    · omega
    · have := hlt _ h; omega
  have done : ∀ (HX : Heap) (y : Box) (c : Int) (_ : R = (y, c)) (_ : BoxTo X HX H.length fp y), ∃ l', blkAt HX H.length = some ⟨32, .wr, [l']⟩ ∧ l'.length = 10 ∧ l'.take 10 = l' ∧ H.length < HX.length ∧ H.length + 1 < HX.length ∧ blkAt HX (H.length + 1) = some ⟨32, .wr, [[.i .i64 0, .i .i64 0, .i .i64 0, .i .i64 0, .i .i64 0, .sl none 0, .sl none 0, .sl none 0, .sl none 0, .sl none 0]]⟩ ∧ ∀ tm : Ab.T, tm 5 = .int c → tm 4 = .ptr (H.length + 1) 0 0 → Q .ret tm (HX.set (H.length + 1) (some ⟨32, .wr, [l']⟩)) := by
    intro HX y c h1 h
    obtain ⟨l', v1, v2, v3, v4, v5⟩ := val HX y h
    have hz := v5.blk bz (off _ (by omega))
    have hzl := blkAt_len hz
    exact ⟨l', v1, v2, v3, blkAt_len v1, hzl, hz, fun tm t5 t4 => fin _ tm c y l' h1 v4 t5 t4 (blkAt_set hzl)⟩
  have doneL : ∀ (HX : Heap) (y : Box) (c : Int) (L : List Lf) (_ : R = (y, c)) (_ : blkAt HX H.length = some ⟨32, .wr, [L]⟩) (_ : BoxTo X HX H.length fp y), H.length < HX.length ∧ H.length + 1 < HX.length ∧ blkAt HX (H.length + 1) = some ⟨32, .wr, [[.i .i64 0, .i .i64 0, .i .i64 0, .i .i64 0, .i .i64 0, .sl none 0, .sl none 0, .sl none 0, .sl none 0, .sl none 0]]⟩ ∧ ∀ tm : Ab.T, tm 5 = .int c → tm 4 = .ptr (H.length + 1) 0 0 → Q .ret tm (HX.set (H.length + 1) (some ⟨32, .wr, [L]⟩)) := by
    intro HX y c L h1 hb h
    obtain ⟨l', w1, w2, w3, w4, w5, w6, w7⟩ := done HX y c h1 h
    rw [hb] at w1
    injection w1 with w1
    simp only [Blk.mk.injEq, List.cons.injEq, and_true, true_and] at w1
    subst w1
    exact ⟨w4, w5, w6, w7⟩
  have same : ∀ (G : Heap) (c : Int) (_ : R = (x, c)) (tm : Ab.T), tm 5 = .int c → tm 4 = .ptr (H.length + 1) 0 0 → Q .ret tm ((X ++ G).set (H.length + 1) (some ⟨32, .wr, [[.i .i64 x.id, .i .i64 x.ports, .i .i64 x.reg.epoch, .i .i64 x.reg.owner, .i .i64 x.reg.pair, q0, q1, q2, q3, q4]]⟩)) := by
    intro G c h1 tm t5 t4
    obtain ⟨l', w1, -, -, -, -, -, w7⟩ := done (X ++ G) x c h1 (BoxTo.app b0 hI1 hid G)
    rw [blkAt_app b0] at w1
    injection w1 with w1
    simp only [Blk.mk.injEq, List.cons.injEq, and_true, true_and] at w1
    subst w1
    exact w7 tm t5 t4
  have same0 : ∀ (c : Int) (_ : R = (x, c)) (tm : Ab.T), tm 5 = .int c → tm 4 = .ptr (H.length + 1) 0 0 → Q .ret tm (X.set (H.length + 1) (some ⟨32, .wr, [[.i .i64 x.id, .i .i64 x.ports, .i .i64 x.reg.epoch, .i .i64 x.reg.owner, .i .i64 x.reg.pair, q0, q1, q2, q3, q4]]⟩)) := by
    intro c h1 tm t5 t4
    have := same [] c h1 tm t5 t4
    rwa [List.append_nil] at this
  have hs : s < x.two.length := by omega
  have hI2 := hI1
  obtain ⟨p0, p1, p2, p3, p4, f0, f1, f2, f3, f4, hle, i0, ⟨a1, hp1, o1⟩, i2, ⟨a3, hp3, o3⟩, i4, rfl, hnd⟩ := hI2
  simp only [Box.enc, List.cons.injEq, and_true, true_and] at hle
  obtain ⟨rfl, rfl, rfl, rfl, rfl⟩ := hle
  subst hp1
  subst hp3
  have i3 : IsInS X (.sl a3 x.line.length) x.line f3 := ⟨a3, rfl, o3⟩
  obtain ⟨bid, blo, r1, r2, r3, r4, row, fs, hl, hbne, hbl, hbb, hbe, hbm, hrow, hrd, hbfs, hidfs, hput⟩ := boxTwoOwn b0 hI1 hid hs
  simp only [Box.enc, List.cons.injEq, and_true, true_and] at hl
  obtain ⟨rfl, rfl, rfl, rfl, rfl⟩ := hl
  have hbH : bid < H.length := by
    have h1 := hI.rd
    obtain ⟨_, _, _, _, _, e1, ⟨a0, rws, e2, hss, hll, _⟩, -⟩ := h1
    simp only [Box.enc, List.cons.injEq, and_true, true_and] at e1
    obtain ⟨e1, -⟩ := e1
    rw [e2] at e1
    injection e1 with e1
    rw [← e1] at hss
    exact hss.len (by rintro rfl; simp at hll; omega)
  have b0s := b0
  rw [h2] at b0 same same0
  obtain ⟨m, hm⟩ : ∃ m, m = x.two[s] := ⟨_, rfl⟩
  rw [← hm] at hrd
  have hmx : m ∈ x.two := by rw [hm]; exact List.getElem_mem hs
  have hmlog := hok.log m hmx
  have hmsz : m.sz ≤ 1048576 := by unfold Minder.sz; omega
  have hmA : mAt x (s : Int) = m := by simp [mAt, List.getD, List.getElem?_eq_getElem hs, hm]
  have hrdR := hrd.rd
  obtain ⟨a, rfl, oa⟩ := hrd
  have hrow' := hrow
  simp only [Minder.enc] at hrow
  have hs0 : (0 : Int) ≤ s := by omega
  have hsl2 : (s : Int) < 2 := by omega
  have hrl : s < blo.rows.length := (List.getElem?_eq_some_iff.1 hrow).1
  have hse : ∀ (Y : Heap) (y : Option Blk) (k : Nat), blkAt (List.set Y bid y) (H.length + k) = blkAt Y (H.length + k) := fun Y y k => blkAt_set_ne (by omega)
  have hse0 : ∀ (Y : Heap) (y : Option Blk), blkAt (List.set Y bid y) H.length = blkAt Y H.length := fun Y y => blkAt_set_ne (by omega)
  have hmi : mindsAt x (s : Int) = minds x.reg s m := by
    rw [mindsAt_s h2 hs2]
    have := hmA
    simp only [mAt, Int.toNat_natCast] at this
    rw [this]
  obtain ⟨o, ho⟩ : ∃ o : Nat, o = 1 - s := ⟨_, rfl⟩
  have hol : o < x.two.length := by omega
  obtain ⟨row2, hrow2, hrd2⟩ := boxRow b0s hI1 hid rfl hbb hol
  obtain ⟨n, hnn⟩ : ∃ n, n = x.two[o] := ⟨_, rfl⟩
  rw [← hnn] at hrd2
  obtain ⟨a2, rfl, -⟩ := hrd2
  simp only [Minder.enc] at hrow2
  have hos : (1 : Int) - s = (o : Int) := by omega
  have hnA : mAt x (1 - (s : Int)) = n := by rw [hos]; simp [mAt, List.getD, List.getElem?_eq_getElem hol, hnn]
  have hw : IntKind.i64.wrap (1 - (s : Int)) = (o : Int) := by rw [hos]; exact wrap64 (by omega) (by omega)
  have ho0 : (0 : Int) ≤ o := by omega
  have hol2 : (o : Int) < 2 := by omega
  have hot : o < 2 := by omega
  have mok := (Box.right hxok).ok m hmx
  have hac : 0 ≤ m.acked ∧ m.acked ≤ m.log.length := by simp [Minder.ok] at mok; omega
  obtain ⟨k, hk⟩ : ∃ k : Nat, nextN m n.life = (k : Int) := ⟨(nextN m n.life).toNat, by unfold nextN; split <;> omega⟩
  have hD : R = if minds x.reg s m = false ∨ m.log.length ≤ k then (x, 3) else sendD x ⟨s, false, n.life, k, m.log.getD k default⟩ := by
    rw [hR, shipD, hmA, hnA, hk]
    simp only [Int.toNat_natCast, Int.ofNat_le]
  have e1 := fun G => l14Minds (hI1.app G).rd (by omega) (s : Int)
  rw [hmi] at e1
  simp only [Box.enc, h2] at e1
  have b0A := fun G => blkAt_app b0 G
  have bzA := fun G => blkAt_app bz G
  have hbbA := fun G => blkAt_app hbb G
  have g1 : H.length < X.length + 1 := by omega
  have g2 : bid < X.length + 1 := by omega
  have g3 : H.length + 1 < X.length + 1 := by omega
  simp [b0, d0, indexAddrV, elemIs, hbb, hbl, hbe, hs2, hs0, hsl2, hrow, h2, hw, ho0, hol2, hot, hrow2, b0A, bzA, hbbA, g1, g2, g3]
  by_cases hal : m.ackLife = n.life
  · have hal' : decide (m.ackLife = n.life) = true := by simp [hal]
    have hka : m.acked = (k : Int) := by rw [← hk, nextN, if_pos hal]
    rw [hal']
    simp [b0A, g1, e1, hka]
    have hjn : ((k : Nat) : Int) = (k : Int) := rfl
    cases hmm : minds x.reg s m
    · rw [if_pos (.inl hmm)] at hD
      simp [hmm, b0A, g1, bzA, g3]
      exact same _ 3 hD _ (by simp) (by simp)
    simp [hmm, builtinV, pureB, lenV]
    refine selS_intro (fun hc => ?_) (fun hc => ?_)
    · have hle : m.log.length ≤ k := by simp at hc; first | exact hc | (rw [hc]; simp)
      rw [if_pos (.inr hle)] at hD
      simp [b0A, g1, bzA, g3]
      exact same _ 3 hD _ (by simp) (by simp)
    have hkl : k < m.log.length := by simp at hc; first | exact hc | exact List.length_pos_iff.2 hc
    rw [if_neg (by rw [hmm]; simp; first | omega | (intro h; rw [h] at hkl; simp at hkl))] at hD
    simp [b0A, g1, builtinV, pureB, lenV]
    refine selS_intro (fun hc2 => ?_) (fun hc2 => ?_)
    · simp at hc2
      rw [sendD, if_pos (by omega)] at hD
      simp [b0A, g1, bzA, g3]
      exact same _ 4 hD _ (by simp) (by simp)
    simp at hc2
    rw [sendD, if_neg (by omega)] at hD
    obtain ⟨id3, r3, bl3, rfl, hb3, hbe3, hrw3⟩ := oa.sl k _ (by simp [hkl]; rfl)
    have hid3 := blkAt_len hb3
    have hgd : m.log.getD k default = m.log[k] := by simp [List.getD, List.getElem?_eq_getElem hkl]
    rw [hgd] at hD
    have hbA3 := fun G => blkAt_app hb3 G
    have g4 : id3 < X.length + 1 := by omega
    have hklI : (k : Int) < m.log.length := by omega
    try simp only [Nat.add_zero] at hrw3
    simp [b0A, g1, indexAddrV, elemIs, hbA3, g4, hbe3, hrw3, hkl, hklI, In.enc]
    refine stpL_append (e := 91) (rows := x.net.map Wire.enc) (ys := [(⟨s, false, n.life, (k : Nat), m.log[k]⟩ : Wire).enc]) (o1.app _) (Sl.of (by simp [Wire.enc])) rfl rfl rfl (by simp) (by simp; omega) (by simp) rfl fun a'' H'' fp'' ho'' hk'' hf'' => ?_
    have k1 : Keep f1 X H'' := hk''.base
    have hi1 : H.length ∉ f1 := fun h => hid (by simp [h])
    have hz1 : H.length + 1 ∉ f1 := fun h => by have := hlt (H.length + 1) (by simp [h]); omega
    have b2 := k1.blk b0 hi1
    have d2 := blkAt_len b2
    have hf9 : ∀ i ∈ fp'', i ∈ f1 ∨ X.length ≤ i := fun i hi => (hf'' i hi).imp (fun h => h) (fun h => by rw [List.length_append] at h; omega)
    have hq : IsWireS H'' (.sl a'' (x.net.length + 1)) (x.net ++ [⟨s, false, n.life, (k : Nat), m.log[k]⟩]) fp'' := ⟨a'', by simp, by simpa using ho''⟩
    have hbn := boxNet (x := x) d0 hid i0 i2 i3 i4 hnd k1 hq hf9
    rw [h2] at hbn
    obtain ⟨l', w1, w2, w3, w4, w5, w6, w7⟩ := done _ _ 0 hD hbn
    simp only [Box.enc] at w1 w4 w5 w6 w7
    simp [b2, d2, w1, w2, w3, w4, w5, w6]
    exact w7 _ (by simp) (by simp)
  · have hka : (0 : Int) = (k : Int) := by rw [← hk, nextN, if_neg hal]
    obtain rfl : k = 0 := by omega
    simp [hal, b0A, g1, e1]
    have hjn : ((0 : Nat) : Int) = (0 : Int) := rfl
    cases hmm : minds x.reg s m
    · rw [if_pos (.inl hmm)] at hD
      simp [hmm, b0A, g1, bzA, g3]
      exact same _ 3 hD _ (by simp) (by simp)
    simp [hmm, builtinV, pureB, lenV]
    refine selS_intro (fun hc => ?_) (fun hc => ?_)
    · have hle : m.log.length ≤ 0 := by simp at hc; first | exact hc | (rw [hc]; simp)
      rw [if_pos (.inr hle)] at hD
      simp [b0A, g1, bzA, g3]
      exact same _ 3 hD _ (by simp) (by simp)
    have hkl : 0 < m.log.length := by simp at hc; first | exact hc | exact List.length_pos_iff.2 hc
    rw [if_neg (by rw [hmm]; simp; first | omega | (intro h; rw [h] at hkl; simp at hkl))] at hD
    simp [b0A, g1, builtinV, pureB, lenV]
    refine selS_intro (fun hc2 => ?_) (fun hc2 => ?_)
    · simp at hc2
      rw [sendD, if_pos (by omega)] at hD
      simp [b0A, g1, bzA, g3]
      exact same _ 4 hD _ (by simp) (by simp)
    simp at hc2
    rw [sendD, if_neg (by omega)] at hD
    obtain ⟨id3, r3, bl3, rfl, hb3, hbe3, hrw3⟩ := oa.sl 0 _ (by simp [hkl]; rfl)
    have hid3 := blkAt_len hb3
    have hgd : m.log.getD 0 default = m.log[0] := by simp [List.getD, List.getElem?_eq_getElem hkl]
    rw [hgd] at hD
    have hbA3 := fun G => blkAt_app hb3 G
    have g4 : id3 < X.length + 1 := by omega
    have hklI : (0 : Int) < m.log.length := by omega
    try simp only [Nat.add_zero] at hrw3
    simp [b0A, g1, indexAddrV, elemIs, hbA3, g4, hbe3, hrw3, hkl, hklI, In.enc]
    refine stpL_append (e := 91) (rows := x.net.map Wire.enc) (ys := [(⟨s, false, n.life, (0 : Nat), m.log[0]⟩ : Wire).enc]) (o1.app _) (Sl.of (by simp [Wire.enc])) rfl rfl rfl (by simp) (by simp; omega) (by simp) rfl fun a'' H'' fp'' ho'' hk'' hf'' => ?_
    have k1 : Keep f1 X H'' := hk''.base
    have hi1 : H.length ∉ f1 := fun h => hid (by simp [h])
    have hz1 : H.length + 1 ∉ f1 := fun h => by have := hlt (H.length + 1) (by simp [h]); omega
    have b2 := k1.blk b0 hi1
    have d2 := blkAt_len b2
    have hf9 : ∀ i ∈ fp'', i ∈ f1 ∨ X.length ≤ i := fun i hi => (hf'' i hi).imp (fun h => h) (fun h => by rw [List.length_append] at h; omega)
    have hq : IsWireS H'' (.sl a'' (x.net.length + 1)) (x.net ++ [⟨s, false, n.life, (0 : Nat), m.log[0]⟩]) fp'' := ⟨a'', by simp, by simpa using ho''⟩
    have hbn := boxNet (x := x) d0 hid i0 i2 i3 i4 hnd k1 hq hf9
    rw [h2] at hbn
    obtain ⟨l', w1, w2, w3, w4, w5, w6, w7⟩ := done _ _ 0 hD hbn
    simp only [Box.enc] at w1 w4 w5 w6 w7
    simp [b2, d2, w1, w2, w3, w4, w5, w6]
    exact w7 _ (by simp) (by simp)

theorem l15Heard {H : Heap} {l : List Lf} {x : Box} {fp : List Nat} (hI : IsBox H l x fp) (hok : Small x) (hlog : ∀ m ∈ x.two, m.log.length ≤ 60) (w : Wire) (hfrm : 0 ≤ w.frm ∧ w.frm ≤ 1) :
    Runs env 150 [.agg l, .agg w.enc] H fun v H' => ∃ l', v = .agg l' ∧ BoxVal H H' fp l' (heardD x w) := by
  have hsz := hok.sz
  have h2 := hok.two
  have hlt := hI.lt
  have hid : H.length ∉ fp := fun h => by have := hlt _ h; omega
  obtain ⟨q0, q1, q2, q3, q4, rfl⟩ : ∃ q0 q1 q2 q3 q4, l = x.enc q0 q1 q2 q3 q4 := by
    obtain ⟨q0, q1, q2, q3, q4, _, _, _, _, _, rfl, -⟩ := hI
    exact ⟨q0, q1, q2, q3, q4, rfl⟩
  obtain ⟨R, hR⟩ : ∃ R, R = heardD x w := ⟨_, rfl⟩
  rw [← hR]
  refine Runs.walk ok150 Tryz.func150 rfl (by simp [Tryz.f150]) fun Q hQ => ?_
  simp only [Tryz.f150, strip, stripL, stripI, stripG, chkT, tagsB, tagsL, tagD, addT, tagA, lookN, tagOp, elmT, ty22, ty26, ty27, ty28, ty29, ty30, ty41, ty53, ty56, Nat.reduceEqDiff, if_false, reduceIte, Option.getD_some, Option.getD_none, dstAt, dstOk, Nat.reduceLT, decide_true, if_true]
  have fin : ∀ (HX : Heap) (tm : Ab.T) (y : Box) (l' : List Lf), R = y → BoxVal H HX fp l' y → tm 4 = .ptr (H.length + 2) 0 0 → blkAt HX (H.length + 2) = some ⟨32, .wr, [l']⟩ → Q .ret tm HX := by
    intro HX tm y l' h1 hv t4 hb4
    have hL' := hv.len
    have hT' : l'.take l'.length = l' := List.take_length
    rw [hL'] at hT'
    refine hQ _ _ _ (by simp) ?_
    have hres : resT env.τ tm HX (Tryz.f150.results.toList) = some [W.agg l'] := by simp [Tryz.f150, t4, hb4, hL', hT']
    rw [hres, optK_some, h1]
    exact ⟨_, rfl, hv.leave (by simp)⟩
  simp [Box.enc, Deed.enc, Wire.enc]
  obtain ⟨X, hX⟩ : ∃ X : Heap, X = H ++ [some ⟨32, .wr, [[.i .i64 x.id, .i .i64 x.ports, .i .i64 x.reg.epoch, .i .i64 x.reg.owner, .i .i64 x.reg.pair, q0, q1, q2, q3, q4]]⟩, some ⟨91, .wr, [[.i .i64 w.frm, .b w.ack, .i .i64 w.life, .i .i64 w.n, .i .i64 w.inn.kind, .i .i64 w.inn.port, .i .i64 w.inn.vec.root, .i .i64 w.inn.vec.cost, .i .i64 w.inn.vec.bridge, .i .i64 w.inn.vec.port, .i .i64 w.inn.hops, .b w.inn.up]]⟩, some ⟨32, .wr, [[.i .i64 0, .i .i64 0, .i .i64 0, .i .i64 0, .i .i64 0, .sl none 0, .sl none 0, .sl none 0, .sl none 0, .sl none 0]]⟩] := ⟨_, rfl⟩
  have b0 : blkAt X H.length = some ⟨32, .wr, [[.i .i64 x.id, .i .i64 x.ports, .i .i64 x.reg.epoch, .i .i64 x.reg.owner, .i .i64 x.reg.pair, q0, q1, q2, q3, q4]]⟩ := by rw [hX]; simp
  have d0 := blkAt_len b0
  have bz : blkAt X (H.length + 2) = some ⟨32, .wr, [[.i .i64 0, .i .i64 0, .i .i64 0, .i .i64 0, .i .i64 0, .sl none 0, .sl none 0, .sl none 0, .sl none 0, .sl none 0]]⟩ := by rw [hX]; simp
  have dz := blkAt_len bz
  have bD : blkAt X (H.length + 1) = some ⟨91, .wr, [[.i .i64 w.frm, .b w.ack, .i .i64 w.life, .i .i64 w.n, .i .i64 w.inn.kind, .i .i64 w.inn.port, .i .i64 w.inn.vec.root, .i .i64 w.inn.vec.cost, .i .i64 w.inn.vec.bridge, .i .i64 w.inn.vec.port, .i .i64 w.inn.hops, .b w.inn.up]]⟩ := by rw [hX]; simp
  have dD := blkAt_len bD
  rw [← hX]
  have kX : Keep [] H X := by rw [hX]; exact Keep.app _ _ _
  have hI1 : IsBox X (x.enc q0 q1 q2 q3 q4) x fp := hI.keep kX (by simp)
  have val : ∀ (HX : Heap) (y : Box), BoxTo X HX H.length fp y → ∃ l', blkAt HX H.length = some ⟨32, .wr, [l']⟩ ∧ l'.length = 10 ∧ l'.take 10 = l' ∧ BoxVal H (HX.set (H.length + 2) (some ⟨32, .wr, [l']⟩)) fp l' y ∧ Keep (H.length :: fp) X HX := by
    intro HX y h
    rw [hX] at h ⊢
    exact h.val hlt (by omega) (by simp)
  have off : ∀ k : Nat, 0 < k → H.length + k ∉ H.length :: fp := fun k hk h => by
    rcases List.mem_cons.1 h with h | h
    · omega
    · have := hlt _ h; omega
  have done : ∀ (HX : Heap) (y : Box) (_ : R = y) (_ : BoxTo X HX H.length fp y), ∃ l', blkAt HX H.length = some ⟨32, .wr, [l']⟩ ∧ l'.length = 10 ∧ l'.take 10 = l' ∧ H.length < HX.length ∧ H.length + 2 < HX.length ∧ blkAt HX (H.length + 2) = some ⟨32, .wr, [[.i .i64 0, .i .i64 0, .i .i64 0, .i .i64 0, .i .i64 0, .sl none 0, .sl none 0, .sl none 0, .sl none 0, .sl none 0]]⟩ ∧ ∀ tm : Ab.T, tm 4 = .ptr (H.length + 2) 0 0 → Q .ret tm (HX.set (H.length + 2) (some ⟨32, .wr, [l']⟩)) := by
    intro HX y h1 h
    obtain ⟨l', v1, v2, v3, v4, v5⟩ := val HX y h
    have hz := v5.blk bz (off _ (by omega))
    have hzl := blkAt_len hz
    exact ⟨l', v1, v2, v3, blkAt_len v1, hzl, hz, fun tm t4 => fin _ tm y l' h1 v4 t4 (blkAt_set hzl)⟩
  have doneL : ∀ (HX : Heap) (y : Box) (L : List Lf) (_ : R = y) (_ : blkAt HX H.length = some ⟨32, .wr, [L]⟩) (_ : BoxTo X HX H.length fp y), H.length < HX.length ∧ H.length + 2 < HX.length ∧ blkAt HX (H.length + 2) = some ⟨32, .wr, [[.i .i64 0, .i .i64 0, .i .i64 0, .i .i64 0, .i .i64 0, .sl none 0, .sl none 0, .sl none 0, .sl none 0, .sl none 0]]⟩ ∧ ∀ tm : Ab.T, tm 4 = .ptr (H.length + 2) 0 0 → Q .ret tm (HX.set (H.length + 2) (some ⟨32, .wr, [L]⟩)) := by
    intro HX y L h1 hb h
    obtain ⟨l', w1, w2, w3, w4, w5, w6, w7⟩ := done HX y h1 h
    rw [hb] at w1
    injection w1 with w1
    simp only [Blk.mk.injEq, List.cons.injEq, and_true, true_and] at w1
    subst w1
    exact ⟨w4, w5, w6, w7⟩
  have same : ∀ (G : Heap) (_ : R = x) (tm : Ab.T), tm 4 = .ptr (H.length + 2) 0 0 → Q .ret tm ((X ++ G).set (H.length + 2) (some ⟨32, .wr, [[.i .i64 x.id, .i .i64 x.ports, .i .i64 x.reg.epoch, .i .i64 x.reg.owner, .i .i64 x.reg.pair, q0, q1, q2, q3, q4]]⟩)) := by
    intro G h1 tm t4
    obtain ⟨l', w1, -, -, -, -, -, w7⟩ := done (X ++ G) x h1 (BoxTo.app b0 hI1 hid G)
    rw [blkAt_app b0] at w1
    injection w1 with w1
    simp only [Blk.mk.injEq, List.cons.injEq, and_true, true_and] at w1
    subst w1
    exact w7 tm t4
  have same0 : ∀ (_ : R = x) (tm : Ab.T), tm 4 = .ptr (H.length + 2) 0 0 → Q .ret tm (X.set (H.length + 2) (some ⟨32, .wr, [[.i .i64 x.id, .i .i64 x.ports, .i .i64 x.reg.epoch, .i .i64 x.reg.owner, .i .i64 x.reg.pair, q0, q1, q2, q3, q4]]⟩)) := by
    intro h1 tm t4
    have := same [] h1 tm t4
    rwa [List.append_nil] at this
  obtain ⟨s, hsw⟩ : ∃ s : Nat, 1 - w.frm = (s : Int) := ⟨(1 - w.frm).toNat, by omega⟩
  have hs2 : s < 2 := by omega
  have hws : IntKind.i64.wrap (1 - w.frm) = (s : Int) := by rw [hsw]; exact wrap64 (by omega) (by omega)
  have hs : s < x.two.length := by omega
  have hI2 := hI1
  obtain ⟨p0, p1, p2, p3, p4, f0, f1, f2, f3, f4, hle, i0, ⟨a1, hp1, o1⟩, i2, ⟨a3, hp3, o3⟩, i4, rfl, hnd⟩ := hI2
  simp only [Box.enc, List.cons.injEq, and_true, true_and] at hle
  obtain ⟨rfl, rfl, rfl, rfl, rfl⟩ := hle
  subst hp1
  subst hp3
  have i3 : IsInS X (.sl a3 x.line.length) x.line f3 := ⟨a3, rfl, o3⟩
  obtain ⟨bid, blo, r1, r2, r3, r4, row, fs, hl, hbne, hbl, hbb, hbe, hbm, hrow, hrd, hbfs, hidfs, hput⟩ := boxTwoOwn b0 hI1 hid hs
  simp only [Box.enc, List.cons.injEq, and_true, true_and] at hl
  obtain ⟨rfl, rfl, rfl, rfl, rfl⟩ := hl
  have hbH : bid < H.length := by
    have h1 := hI.rd
    obtain ⟨_, _, _, _, _, e1, ⟨a0, rws, e2, hss, hll, _⟩, -⟩ := h1
    simp only [Box.enc, List.cons.injEq, and_true, true_and] at e1
    obtain ⟨e1, -⟩ := e1
    rw [e2] at e1
    injection e1 with e1
    rw [← e1] at hss
    exact hss.len (by rintro rfl; simp at hll; omega)
  have b0s := b0
  rw [h2] at b0 same same0
  obtain ⟨m, hm⟩ : ∃ m, m = x.two[s] := ⟨_, rfl⟩
  rw [← hm] at hrd
  have hmx : m ∈ x.two := by rw [hm]; exact List.getElem_mem hs
  have hmlog := hok.log m hmx
  have hmsz : m.sz ≤ 1048576 := by unfold Minder.sz; omega
  have hmA : mAt x (s : Int) = m := by simp [mAt, List.getD, List.getElem?_eq_getElem hs, hm]
  have hrdR := hrd.rd
  obtain ⟨a, rfl, oa⟩ := hrd
  have hrow' := hrow
  simp only [Minder.enc] at hrow
  have hs0 : (0 : Int) ≤ s := by omega
  have hsl2 : (s : Int) < 2 := by omega
  have hrl : s < blo.rows.length := (List.getElem?_eq_some_iff.1 hrow).1
  have hse : ∀ (Y : Heap) (y : Option Blk) (k : Nat), blkAt (List.set Y bid y) (H.length + k) = blkAt Y (H.length + k) := fun Y y k => blkAt_set_ne (by omega)
  have hse0 : ∀ (Y : Heap) (y : Option Blk), blkAt (List.set Y bid y) H.length = blkAt Y H.length := fun Y y => blkAt_set_ne (by omega)
  have hmi : mindsAt x (s : Int) = minds x.reg s m := by
    rw [mindsAt_s h2 hs2]
    have := hmA
    simp only [mAt, Int.toNat_natCast] at this
    rw [this]
  have hH := heardD.eq_1 x w
  simp only [hsw, hmA, Int.toNat_natCast] at hH
  rw [← hR] at hH
  have e1 := fun G => l14Minds (hI1.app G).rd (by omega) (s : Int)
  rw [hmi] at e1
  simp only [Box.enc, h2] at e1
  have b0A := fun G => blkAt_app b0 G
  have bzA := fun G => blkAt_app bz G
  have bDA := fun G => blkAt_app bD G
  have hbbA := fun G => blkAt_app hbb G
  have g1 : H.length < X.length + 1 := by omega
  have g2 : bid < X.length + 1 := by omega
  have g3 : H.length + 2 < X.length + 1 := by omega
  have g4 : H.length + 1 < X.length + 1 := by omega
  simp [b0, d0, bD, dD, hws, indexAddrV, elemIs, hbb, hbl, hbe, hs2, hs0, hsl2, hrow, h2, b0A, bzA, bDA, hbbA, g1, g2, g3, g4]
  cases hup : m.up
  · rw [if_pos hup] at hH
    simp [b0A, g1, bzA, g3]
    exact same _ hH _ (by simp)
  rw [if_neg (by simp [hup])] at hH
  simp [b0A, g1, bzA, g3, bDA, g4]
  cases hack : w.ack
  · rw [if_neg (by simp [hack])] at hH
    simp [b0A, g1, bzA, g3, bDA, g4]
    by_cases hlf : w.life = m.life
    · rw [if_neg (by simp [hlf])] at hH
      have e2 := fun G => specNote_is (hrdR.app G) hmsz w.inn
      simp only [In.enc, Minder.enc, hup] at e2
      simp [hlf, b0A, g1, bzA, g3, bDA, g4, builtinV, pureB, lenV]
      by_cases hnt : m.epoch = 0 ∧ w.n = (m.log.length : Int)
      · rw [if_pos hnt] at hH
        have hn1 := hnt.1
        have hn2 := hnt.2
        rw [hn1] at e2
        simp [hn1, hn2, bDA, g4, builtinV, pureB, lenV]
        refine stpL_runs (e2 _) ?_
        rintro _ _ ⟨ln, fn, rfl, on, ⟨⟨G2, rfl⟩, hfn⟩⟩
        have hLn := on.len
        have hTn : ln.take ln.length = ln := List.take_length
        rw [hLn] at hTn
        have g5 : H.length < X.length + (G2.length + (1 + 1)) := by omega
        have g6 : bid < X.length + (G2.length + (1 + 1)) := by omega
        have g7 : H.length < X.length + (G2.length + 1 + 1) := by omega
        have g8 : bid < X.length + (G2.length + 1 + 1) := by omega
        have g9 : H.length < X.length + (G2.length + 2) := by omega
        have g10 : bid < X.length + (G2.length + 2) := by omega
        simp [hLn, hTn, b0A, g5, g6, g7, g8, g9, g10, indexAddrV, elemIs, hbbA, hbe, hbm, hs2, hs0, hsl2, hrow, h2]
        have on2 := on.app [some ⟨52, .wr, [ln]⟩]
        obtain ⟨Z0, hZ0⟩ : ∃ Z0 : Heap, Z0 = X ++ some ⟨52, .wr, [[.b true, .i .i64 m.life, .i .i64 0, .sl a m.log.length, .i .i64 m.said, .i .i64 m.acked, .i .i64 m.ackLife]]⟩ :: (G2 ++ [some ⟨52, .wr, [ln]⟩]) := ⟨_, rfl⟩
        have kZ0 : Keep [] X Z0 := by rw [hZ0]; exact Keep.app _ _ _
        simp only [List.append_assoc, List.cons_append, List.nil_append] at on2
        rw [← hZ0] at on2 ⊢
        have hM0 : blkAt Z0 X.length = some ⟨52, .wr, [[.b true, .i .i64 m.life, .i .i64 0, .sl a m.log.length, .i .i64 m.said, .i .i64 m.acked, .i .i64 m.ackLife]]⟩ := by rw [hZ0]; simp
        obtain ⟨fp', z1, z2, z3, z4, z5⟩ := hput Z0 ln _ fn kZ0 on2 (fun i hi => .inr (by have := hfn i hi; simp at this; omega))
        have z1' := z1
        simp only [Box.enc, h2] at z1'
        obtain ⟨an, hln, -⟩ := on
        have hd3 : List.take 1 (List.drop 3 ln) = [.sl an (note m w.inn).1.log.length] := by rw [hln]; rfl
        have hbz : bid < Z0.length := Nat.lt_of_lt_of_le hbl kZ0.1
        have hrowY : (blo.rows.set s ln)[s]? = some ln := by simp [hrl]
        obtain ⟨Y, hY⟩ : ∃ Y : Heap, Y = Z0.set bid (some ⟨52, .wr, blo.rows.set s ln⟩) := ⟨_, rfl⟩
        have yb : blkAt Y bid = some ⟨52, .wr, blo.rows.set s ln⟩ := by rw [hY]; exact blkAt_set hbz
        have yM : blkAt Y X.length = some ⟨52, .wr, [[.b true, .i .i64 m.life, .i .i64 0, .sl a m.log.length, .i .i64 m.said, .i .i64 m.acked, .i .i64 m.ackLife]]⟩ := by rw [hY, blkAt_set_ne (by omega)]; exact hM0
        rw [← hY] at z1 z1' z2 z4 ⊢
        clear hY hZ0 hM0 kZ0
        have yz := z4.blk bz (off 2 (by omega))
        have j1 := blkAt_len z1
        have j2 := blkAt_len yb
        have j3 := blkAt_len yM
        have j4 := blkAt_len yz
        obtain ⟨a1', s0, s2, s3, s4, f1', hl1, o1', hf1g, hput1⟩ := boxApp z1 z2 z3
        simp only [Box.enc, setTwo, List.cons.injEq, Lf.sl.injEq, and_true, true_and] at hl1
        obtain ⟨rfl, rfl, rfl, rfl, rfl⟩ := hl1
        have hyn : (setTwo x s (note m w.inn).1).net = x.net := rfl
        rw [hyn] at o1'
        have hmA2 : mAt (setTwo x s (note m w.inn).1) (s : Int) = (note m w.inn).1 := by simp [mAt, List.getD, setTwo, hs]
        rw [hmA2] at hH
        simp [z1', j1, builtinV, pureB, lenV]
        refine selS_intro (fun hc2 => ?_) (fun hc2 => ?_)
        · simp at hc2
          rw [sendD, if_neg (by rw [hyn]; omega)] at hH
          simp [z1', j1, j2, j3, yM, yb, indexAddrV, elemIs, hs2, hs0, hsl2, hrowY, hLn, hd3, builtinV, pureB, lenV]
          refine stpL_append (e := 91) (rows := x.net.map Wire.enc) (ys := [(⟨s, true, m.life, (note m w.inn).1.log.length, ⟨0, 0, ⟨0, 0, 0, 0⟩, 0, false⟩⟩ : Wire).enc]) (o1'.app _) (Sl.of (by simp [Wire.enc, In.enc])) rfl rfl rfl (by simp) (by simp; omega) (by simp) rfl fun a'' H'' fp'' ho'' hk'' hf'' => ?_
          have k1 : Keep f1' Y H'' := hk''.base
          have hf9 : ∀ i ∈ fp'', i ∈ f1' ∨ Y.length ≤ i := fun i hi => (hf'' i hi).imp (fun h => h) (fun h => by rw [List.length_append] at h; omega)
          have hq : IsWireS H'' (.sl a'' (x.net.length + 1)) (x.net ++ [⟨s, true, m.life, (note m w.inn).1.log.length, ⟨0, 0, ⟨0, 0, 0, 0⟩, 0, false⟩⟩]) fp'' := ⟨a'', by simp, by simpa using ho''⟩
          obtain ⟨b2, hbn⟩ := hput1 H'' _ _ fp'' k1 hq hf9
          have b2' := b2
          simp only [Box.enc, h2] at b2'
          have d2 := blkAt_len b2
          obtain ⟨l', w1, w2, w3, w4, w5, w6, w7⟩ := done _ _ hH (BoxTo.trans z4 z5 hbn)
          simp only [Box.enc, setTwo, List.length_set, h2] at w1 w4 w5 w6 w7
          simp [b2', d2, w1, w2, w3, w4, w5, w6]
          exact w7 _ (by simp)
        · simp at hc2
          rw [sendD, if_pos (by rw [hyn]; omega)] at hH
          simp [z1', j1, yz, j4]
          exact (doneL _ _ _ hH z1' ⟨_, fp', z1, z2, z3, z4, z5⟩).2.2.2 _ (by simp)
      · rw [if_neg hnt, hmA] at hH
        by_cases hn1 : m.epoch = 0
        · have hn2 : ¬ w.n = (m.log.length : Int) := fun h => hnt ⟨hn1, h⟩
          simp [hn1, hn2, b0A, g1, bzA, g3, bDA, g4, builtinV, pureB, lenV]
          refine selS_intro (fun hc2 => ?_) (fun hc2 => ?_)
          · simp at hc2
            rw [sendD, if_neg (by omega)] at hH
            simp [b0A, g1, bzA, g3, indexAddrV, elemIs, hbbA, g2, hbe, hs2, hs0, hsl2, hrow, h2, builtinV, pureB, lenV]
            refine stpL_append (e := 91) (rows := x.net.map Wire.enc) (ys := [(⟨s, true, m.life, m.log.length, ⟨0, 0, ⟨0, 0, 0, 0⟩, 0, false⟩⟩ : Wire).enc]) (o1.app _) (Sl.of (by simp [Wire.enc, In.enc])) rfl rfl rfl (by simp) (by simp; omega) (by simp) rfl fun a'' H'' fp'' ho'' hk'' hf'' => ?_
            have k1 : Keep f1 X H'' := hk''.base
            have b2 := k1.blk b0 (fun h => hid (by simp [h]))
            have d2 := blkAt_len b2
            have hf9 : ∀ i ∈ fp'', i ∈ f1 ∨ X.length ≤ i := fun i hi => (hf'' i hi).imp (fun h => h) (fun h => by rw [List.length_append] at h; omega)
            have hq : IsWireS H'' (.sl a'' (x.net.length + 1)) (x.net ++ [⟨s, true, m.life, m.log.length, ⟨0, 0, ⟨0, 0, 0, 0⟩, 0, false⟩⟩]) fp'' := ⟨a'', by simp, by simpa using ho''⟩
            have hbn := boxNet (x := x) d0 hid i0 i2 i3 i4 hnd k1 hq hf9
            rw [h2] at hbn
            obtain ⟨l', w1, w2, w3, w4, w5, w6, w7⟩ := done _ _ hH hbn
            simp only [Box.enc] at w1 w4 w5 w6 w7
            simp [b2, d2, w1, w2, w3, w4, w5, w6]
            exact w7 _ (by simp)
          · simp at hc2
            rw [sendD, if_pos (by omega)] at hH
            simp [b0A, g1, bzA, g3]
            exact same _ hH _ (by simp)
        · simp [hn1, b0A, g1, bzA, g3, builtinV, pureB, lenV]
          refine selS_intro (fun hc2 => ?_) (fun hc2 => ?_)
          · simp at hc2
            rw [sendD, if_neg (by omega)] at hH
            simp [b0A, g1, bzA, g3, indexAddrV, elemIs, hbbA, g2, hbe, hs2, hs0, hsl2, hrow, h2, builtinV, pureB, lenV]
            refine stpL_append (e := 91) (rows := x.net.map Wire.enc) (ys := [(⟨s, true, m.life, m.log.length, ⟨0, 0, ⟨0, 0, 0, 0⟩, 0, false⟩⟩ : Wire).enc]) (o1.app _) (Sl.of (by simp [Wire.enc, In.enc])) rfl rfl rfl (by simp) (by simp; omega) (by simp) rfl fun a'' H'' fp'' ho'' hk'' hf'' => ?_
            have k1 : Keep f1 X H'' := hk''.base
            have b2 := k1.blk b0 (fun h => hid (by simp [h]))
            have d2 := blkAt_len b2
            have hf9 : ∀ i ∈ fp'', i ∈ f1 ∨ X.length ≤ i := fun i hi => (hf'' i hi).imp (fun h => h) (fun h => by rw [List.length_append] at h; omega)
            have hq : IsWireS H'' (.sl a'' (x.net.length + 1)) (x.net ++ [⟨s, true, m.life, m.log.length, ⟨0, 0, ⟨0, 0, 0, 0⟩, 0, false⟩⟩]) fp'' := ⟨a'', by simp, by simpa using ho''⟩
            have hbn := boxNet (x := x) d0 hid i0 i2 i3 i4 hnd k1 hq hf9
            rw [h2] at hbn
            obtain ⟨l', w1, w2, w3, w4, w5, w6, w7⟩ := done _ _ hH hbn
            simp only [Box.enc] at w1 w4 w5 w6 w7
            simp [b2, d2, w1, w2, w3, w4, w5, w6]
            exact w7 _ (by simp)
          · simp at hc2
            rw [sendD, if_pos (by omega)] at hH
            simp [b0A, g1, bzA, g3]
            exact same _ hH _ (by simp)
    · rw [if_pos hlf] at hH
      simp [hlf, b0A, g1, bzA, g3]
      exact same _ hH _ (by simp)
  · rw [if_pos hack] at hH
    simp [b0A, g1, bzA, g3, bDA, g4, e1]
    have skp : ¬ (minds x.reg s m = true ∧ (m.ackLife < w.life ∨ (w.life = m.ackLife ∧ m.acked < w.n))) → ∀ (G : Heap) (tm : Ab.T), tm 4 = .ptr (H.length + 2) 0 0 → Q .ret tm ((X ++ G).set (H.length + 2) (some ⟨32, .wr, [[.i .i64 x.id, .i .i64 x.ports, .i .i64 x.reg.epoch, .i .i64 x.reg.owner, .i .i64 x.reg.pair, (.sl (some (bid, 0)) 2), (.sl a1 x.net.length), q2, (.sl a3 x.line.length), q4]]⟩)) := by
      intro h G
      rw [if_neg h] at hH
      exact same G hH
    have hmn : (if w.n < (m.log.length : Int) then w.n else (m.log.length : Int)) = min w.n m.log.length := by split <;> omega
    cases hmm : minds x.reg s m
    · simp [b0A, g1, bzA, g3]
      exact skp (by simp [hmm]) _ _ (by simp)
    have upd : (m.ackLife < w.life ∨ (w.life = m.ackLife ∧ m.acked < w.n)) → ∀ G : Heap, ∀ tm : Ab.T, tm 4 = .ptr (H.length + 2) 0 0 → Q .ret tm (((X ++ G).set bid (some ⟨52, .wr, blo.rows.set s [.b true, .i .i64 m.life, .i .i64 m.epoch, .sl a m.log.length, .i .i64 m.said, .i .i64 (min w.n m.log.length), .i .i64 w.life]⟩)).set (H.length + 2) (some ⟨32, .wr, [[.i .i64 x.id, .i .i64 x.ports, .i .i64 x.reg.epoch, .i .i64 x.reg.owner, .i .i64 x.reg.pair, (.sl (some (bid, 0)) 2), (.sl a1 x.net.length), q2, (.sl a3 x.line.length), q4]]⟩)) := by
      intro hnew G
      rw [if_pos ⟨hmm, hnew⟩, hup] at hH
      obtain ⟨g2', y1, y2, y3, y4, y5⟩ := hput (X ++ G) [.b true, .i .i64 m.life, .i .i64 m.epoch, .sl a m.log.length, .i .i64 m.said, .i .i64 (min w.n m.log.length), .i .i64 w.life] ⟨true, m.life, m.epoch, m.log, m.said, min w.n m.log.length, w.life⟩ fs (Keep.app [] X G) ⟨a, rfl, oa.app G⟩ (fun i hi => .inl hi)
      have y1' := y1
      simp only [Box.enc, h2] at y1'
      exact (doneL _ _ _ hH y1' ⟨_, g2', y1, y2, y3, y4, y5⟩).2.2.2
    have hrow3 : ∀ r : List Lf, (blo.rows.set s r)[s]? = some r := fun r => by simp [hrl]
    have g5 : H.length < X.length + 1 := by omega
    by_cases c1 : m.ackLife < w.life
    · simp [c1, b0A, g1, bzA, g3, bDA, g4, builtinV, pureB, lenV, l1Min, hmn, indexAddrV, elemIs, hbbA, g2, hbe, hbm, hs2, hs0, hsl2, hrow, h2]
      simp [hse0, hse, b0A, g1, bzA, g3]
      exact upd (.inl c1) _ _ (by simp)
    · by_cases c2 : w.life = m.ackLife
      · rw [c2] at upd
        by_cases c3 : m.acked < w.n
        · simp [c1, c2, c3, b0A, g1, bzA, g3, bDA, g4, builtinV, pureB, lenV, l1Min, hmn, indexAddrV, elemIs, hbbA, g2, hbe, hbm, hs2, hs0, hsl2, hrow, h2]
          simp [hse0, hse, b0A, g1, bzA, g3]
          exact upd (.inr ⟨rfl, c3⟩) _ _ (by simp)
        · simp [c1, c2, c3, b0A, g1, bzA, g3, bDA, g4]
          exact skp (by simp [hmm, c2]; omega) _ _ (by simp)
      · simp [c1, c2, b0A, g1, bzA, g3, bDA, g4]
        exact skp (by simp [hmm]; omega) _ _ (by simp)

theorem l15Net {H : Heap} {l : List Lf} {x : Box} {fp : List Nat} (hI : IsBox H l x fp) (hok : Small x) (hxok : x.ok = true) (d : Deed) (hk : d.kind = 3 ∨ d.kind = 4 ∨ d.kind = 5) :
    Runs env 120 [.agg l, .agg d.enc] H fun v H' => ∃ l', v = .tup [.agg l', .lf (.i .i64 (onWireD x d).2)] ∧ BoxVal H H' fp l' (onWireD x d).1 := by
  have hsz := hok.sz
  have h2 := hok.two
  have hlt := hI.lt
  have hid : H.length ∉ fp := fun h => by have := hlt _ h; omega
  obtain ⟨q0, q1, q2, q3, q4, rfl⟩ : ∃ q0 q1 q2 q3 q4, l = x.enc q0 q1 q2 q3 q4 := by
    obtain ⟨q0, q1, q2, q3, q4, _, _, _, _, _, rfl, -⟩ := hI
    exact ⟨q0, q1, q2, q3, q4, rfl⟩
  obtain ⟨R, hR⟩ : ∃ R, R = onWireD x d := ⟨_, rfl⟩
  rw [← hR]
  refine Runs.walk ok120 Tryz.func120 rfl (by simp [Tryz.f120]) fun Q hQ => ?_
  simp only [Tryz.f120, strip, stripL, stripI, stripG, chkT, tagsB, tagsL, tagD, addT, tagA, lookN, tagOp, elmT, ty22, ty26, ty27, ty28, ty29, ty30, ty41, ty53, ty56, Nat.reduceEqDiff, if_false, reduceIte, Option.getD_some, Option.getD_none, dstAt, dstOk, Nat.reduceLT, decide_true, if_true]
  have fin : ∀ (HX : Heap) (tm : Ab.T) (c : Int) (y : Box) (l' : List Lf), R = (y, c) → BoxVal H HX fp l' y → tm 5 = .int c → tm 4 = .ptr (H.length + 2) 0 0 → blkAt HX (H.length + 2) = some ⟨32, .wr, [l']⟩ → Q .ret tm HX := by
    intro HX tm c y l' h1 hv t5 t4 hb4
    have hL' := hv.len
    have hT' : l'.take l'.length = l' := List.take_length
    rw [hL'] at hT'
    refine hQ _ _ _ (by simp) ?_
    have hres : resT env.τ tm HX (Tryz.f120.results.toList) = some [W.agg l', W.lf (.i .i64 c)] := by simp [Tryz.f120, t4, t5, hb4, hL', hT']
    rw [hres, optK_some, h1]
    exact ⟨_, rfl, hv.leave (by simp)⟩
  simp [Box.enc, Deed.enc, Wire.enc]
  obtain ⟨X, hX⟩ : ∃ X : Heap, X = H ++ [some ⟨32, .wr, [[.i .i64 x.id, .i .i64 x.ports, .i .i64 x.reg.epoch, .i .i64 x.reg.owner, .i .i64 x.reg.pair, q0, q1, q2, q3, q4]]⟩, some ⟨66, .wr, [[.i .i64 d.kind, .i .i64 d.a, .i .i64 d.inn.kind, .i .i64 d.inn.port, .i .i64 d.inn.vec.root, .i .i64 d.inn.vec.cost, .i .i64 d.inn.vec.bridge, .i .i64 d.inn.vec.port, .i .i64 d.inn.hops, .b d.inn.up]]⟩, some ⟨32, .wr, [[.i .i64 0, .i .i64 0, .i .i64 0, .i .i64 0, .i .i64 0, .sl none 0, .sl none 0, .sl none 0, .sl none 0, .sl none 0]]⟩] := ⟨_, rfl⟩
  have b0 : blkAt X H.length = some ⟨32, .wr, [[.i .i64 x.id, .i .i64 x.ports, .i .i64 x.reg.epoch, .i .i64 x.reg.owner, .i .i64 x.reg.pair, q0, q1, q2, q3, q4]]⟩ := by rw [hX]; simp
  have d0 := blkAt_len b0
  have bz : blkAt X (H.length + 2) = some ⟨32, .wr, [[.i .i64 0, .i .i64 0, .i .i64 0, .i .i64 0, .i .i64 0, .sl none 0, .sl none 0, .sl none 0, .sl none 0, .sl none 0]]⟩ := by rw [hX]; simp
  have dz := blkAt_len bz
  have bD : blkAt X (H.length + 1) = some ⟨66, .wr, [[.i .i64 d.kind, .i .i64 d.a, .i .i64 d.inn.kind, .i .i64 d.inn.port, .i .i64 d.inn.vec.root, .i .i64 d.inn.vec.cost, .i .i64 d.inn.vec.bridge, .i .i64 d.inn.vec.port, .i .i64 d.inn.hops, .b d.inn.up]]⟩ := by rw [hX]; simp
  have dD := blkAt_len bD
  rw [← hX]
  have kX : Keep [] H X := by rw [hX]; exact Keep.app _ _ _
  have hI1 : IsBox X (x.enc q0 q1 q2 q3 q4) x fp := hI.keep kX (by simp)
  have val : ∀ (HX : Heap) (y : Box), BoxTo X HX H.length fp y → ∃ l', blkAt HX H.length = some ⟨32, .wr, [l']⟩ ∧ l'.length = 10 ∧ l'.take 10 = l' ∧ BoxVal H (HX.set (H.length + 2) (some ⟨32, .wr, [l']⟩)) fp l' y ∧ Keep (H.length :: fp) X HX := by
    intro HX y h
    rw [hX] at h ⊢
    exact h.val hlt (by omega) (by simp)
  have off : ∀ k : Nat, 0 < k → H.length + k ∉ H.length :: fp := fun k hk h => by
    rcases List.mem_cons.1 h with h | h
    · omega
    · have := hlt _ h; omega
  have done : ∀ (HX : Heap) (y : Box) (c : Int) (_ : R = (y, c)) (_ : BoxTo X HX H.length fp y), ∃ l', blkAt HX H.length = some ⟨32, .wr, [l']⟩ ∧ l'.length = 10 ∧ l'.take 10 = l' ∧ H.length < HX.length ∧ H.length + 2 < HX.length ∧ blkAt HX (H.length + 2) = some ⟨32, .wr, [[.i .i64 0, .i .i64 0, .i .i64 0, .i .i64 0, .i .i64 0, .sl none 0, .sl none 0, .sl none 0, .sl none 0, .sl none 0]]⟩ ∧ ∀ tm : Ab.T, tm 5 = .int c → tm 4 = .ptr (H.length + 2) 0 0 → Q .ret tm (HX.set (H.length + 2) (some ⟨32, .wr, [l']⟩)) := by
    intro HX y c h1 h
    obtain ⟨l', v1, v2, v3, v4, v5⟩ := val HX y h
    have hz := v5.blk bz (off _ (by omega))
    have hzl := blkAt_len hz
    exact ⟨l', v1, v2, v3, blkAt_len v1, hzl, hz, fun tm t5 t4 => fin _ tm c y l' h1 v4 t5 t4 (blkAt_set hzl)⟩
  have doneL : ∀ (HX : Heap) (y : Box) (c : Int) (L : List Lf) (_ : R = (y, c)) (_ : blkAt HX H.length = some ⟨32, .wr, [L]⟩) (_ : BoxTo X HX H.length fp y), H.length < HX.length ∧ H.length + 2 < HX.length ∧ blkAt HX (H.length + 2) = some ⟨32, .wr, [[.i .i64 0, .i .i64 0, .i .i64 0, .i .i64 0, .i .i64 0, .sl none 0, .sl none 0, .sl none 0, .sl none 0, .sl none 0]]⟩ ∧ ∀ tm : Ab.T, tm 5 = .int c → tm 4 = .ptr (H.length + 2) 0 0 → Q .ret tm (HX.set (H.length + 2) (some ⟨32, .wr, [L]⟩)) := by
    intro HX y c L h1 hb h
    obtain ⟨l', w1, w2, w3, w4, w5, w6, w7⟩ := done HX y c h1 h
    rw [hb] at w1
    injection w1 with w1
    simp only [Blk.mk.injEq, List.cons.injEq, and_true, true_and] at w1
    subst w1
    exact ⟨w4, w5, w6, w7⟩
  have same : ∀ (G : Heap) (c : Int) (_ : R = (x, c)) (tm : Ab.T), tm 5 = .int c → tm 4 = .ptr (H.length + 2) 0 0 → Q .ret tm ((X ++ G).set (H.length + 2) (some ⟨32, .wr, [[.i .i64 x.id, .i .i64 x.ports, .i .i64 x.reg.epoch, .i .i64 x.reg.owner, .i .i64 x.reg.pair, q0, q1, q2, q3, q4]]⟩)) := by
    intro G c h1 tm t5 t4
    obtain ⟨l', w1, -, -, -, -, -, w7⟩ := done (X ++ G) x c h1 (BoxTo.app b0 hI1 hid G)
    rw [blkAt_app b0] at w1
    injection w1 with w1
    simp only [Blk.mk.injEq, List.cons.injEq, and_true, true_and] at w1
    subst w1
    exact w7 tm t5 t4
  have same0 : ∀ (c : Int) (_ : R = (x, c)) (tm : Ab.T), tm 5 = .int c → tm 4 = .ptr (H.length + 2) 0 0 → Q .ret tm (X.set (H.length + 2) (some ⟨32, .wr, [[.i .i64 x.id, .i .i64 x.ports, .i .i64 x.reg.epoch, .i .i64 x.reg.owner, .i .i64 x.reg.pair, q0, q1, q2, q3, q4]]⟩)) := by
    intro c h1 tm t5 t4
    have := same [] c h1 tm t5 t4
    rwa [List.append_nil] at this
  have hI2 := hI1
  obtain ⟨p0, p1, p2, p3, p4, f0, f1, f2, f3, f4, hle, i0, ⟨a1, hp1, o1⟩, i2, ⟨a3, hp3, o3⟩, i4, rfl, hnd⟩ := hI2
  simp only [Box.enc, List.cons.injEq, and_true, true_and] at hle
  obtain ⟨rfl, rfl, rfl, rfl, rfl⟩ := hle
  subst hp1
  subst hp3
  have i3 : IsInS X (.sl a3 x.line.length) x.line f3 := ⟨a3, rfl, o3⟩
  obtain ⟨-, hline, hnet20, hlog60⟩ := Box.smallOf hxok
  have hwall : ∀ w ∈ x.net, w.ok = true := by
    simp only [Box.ok, Bool.and_eq_true, List.all_eq_true, decide_eq_true_eq] at hxok
    exact hxok.1.1.1.2
  have hws : IntKind.i64.wrap ((x.net.length : Int) - 1) = (x.net.length : Int) - 1 := wrap64 (by omega) (by omega)
  have b0A := fun G => blkAt_app b0 G
  have bzA := fun G => blkAt_app bz G
  have bDA := fun G => blkAt_app bD G
  simp [b0, d0, bD, dD, builtinV, pureB, lenV, l1In, hws]
  by_cases hin : 0 ≤ d.a ∧ d.a ≤ (x.net.length : Int) - 1
  · obtain ⟨i, hi⟩ : ∃ i : Nat, d.a = (i : Int) := ⟨d.a.toNat, by omega⟩
    have hil : i < x.net.length := by omega
    have hi20 : (i : Int) < x.net.length := by omega
    have hwr : IntKind.i64.wrap ((i : Int) + 1) = (i : Int) + 1 := wrap64 (by omega) (by omega)
    have hle : (i : Int) ≤ (x.net.length : Int) - 1 := by omega
    have hD : R = if d.kind = 5 then sendD x x.net[i] else if d.kind = 4 then (setNet x (x.net.eraseIdx i), 0) else (heardD (setNet x (x.net.eraseIdx i)) x.net[i], 0) := by
      rw [hR, onWireD, if_neg (by omega), hi, Int.toNat_natCast]
      simp [List.getD, List.getElem?_eq_getElem hil]
    obtain ⟨id3, bl3, rfl, hf1, hb3, hbe3, hbm3, hpre3⟩ := o1.blk (by intro h; have := congrArg List.length h; simp at this; rw [this] at hil; simp at hil)
    have hrow3 : bl3.rows[i]? = some x.net[i].enc := by
      obtain ⟨t, ht⟩ := hpre3
      rw [← ht, List.getElem?_append_left (by simp; omega), List.getElem?_map, List.getElem?_eq_getElem hil]; rfl
    have hid3 := blkAt_len hb3
    obtain ⟨w, hw⟩ : ∃ w, w = x.net[i] := ⟨_, rfl⟩
    rw [← hw] at hrow3 hD
    have hwok := hwall w (by rw [hw]; exact List.getElem_mem hil)
    have hfrm : 0 ≤ w.frm ∧ w.frm ≤ 1 := by simp [Wire.ok] at hwok; omega
    simp only [Wire.enc] at hrow3
    have g1 : H.length < X.length + 1 := by omega
    have g2 : H.length + 1 < X.length + 1 := by omega
    have g3 : H.length + 2 < X.length + 1 := by omega
    have g4 : id3 < X.length + 1 := by omega
    have hb3A := fun G => blkAt_app hb3 G
    simp [hi, hle, b0, d0, bD, dD, indexAddrV, elemIs, hb3, hid3, hbe3, hrow3, hil, hi20, b0A, bDA, bzA, g1, g2, g3, Wire.enc]
    by_cases h5 : d.kind = 5
    · rw [if_pos h5] at hD
      simp [h5, b0A, g1, bzA, g3, builtinV, pureB, lenV]
      refine selS_intro (fun hc2 => ?_) (fun hc2 => ?_)
      · simp at hc2
        rw [sendD, if_pos (by omega)] at hD
        simp [b0A, g1, bzA, g3]
        exact same _ 4 hD _ (by simp) (by simp)
      simp at hc2
      rw [sendD, if_neg (by omega)] at hD
      simp [b0A, g1, bzA, g3]
      refine stpL_append (e := 91) (rows := x.net.map Wire.enc) (ys := [w.enc]) (o1.app _) (Sl.of (by simp [Wire.enc])) rfl rfl rfl (by simp) (by simp; omega) (by simp) rfl fun a'' H'' fp'' ho'' hk'' hf'' => ?_
      have k1 : Keep f1 X H'' := hk''.base
      have b2 := k1.blk b0 (fun h => hid (by simp [h]))
      have d2 := blkAt_len b2
      have hf9 : ∀ i ∈ fp'', i ∈ f1 ∨ X.length ≤ i := fun i hi => (hf'' i hi).imp (fun h => h) (fun h => by rw [List.length_append] at h; omega)
      have hq : IsWireS H'' (.sl a'' (x.net.length + 1)) (x.net ++ [w]) fp'' := ⟨a'', by simp, by simpa using ho''⟩
      have hbn := boxNet (x := x) d0 hid i0 i2 i3 i4 hnd k1 hq hf9
      obtain ⟨l', w1, w2, w3, w4, w5, w6, w7⟩ := done _ _ 0 hD hbn
      simp only [Box.enc] at w1 w4 w5 w6 w7
      simp [b2, d2, w1, w2, w3, w4, w5, w6]
      exact w7 _ (by simp) (by simp)
    · rw [if_neg h5] at hD
      have j1 : id3 < X.length + 2 := by omega
      have j2 : H.length < X.length + 2 := by omega
      have j3 : H.length + 1 < X.length + 2 := by omega
      have hiL : (i : Int) ≤ x.net.length := by omega
      have hiL1 : (i : Int) + 1 ≤ x.net.length := by omega
      have hi1 : (0 : Int) ≤ (i : Int) + 1 := by omega
      have hiN : ((i : Int) + 1).toNat = i + 1 := by omega
      simp [h5, hi, b0A, g1, bDA, g2, sliceV, bnd, elemIs, hb3A, hbe3, j1, j2, j3, hiL]
      have kA : ∀ G, Keep [] X (X ++ G) := fun G => Keep.app [] X G
      refine stpL_append (e := 91) (rows := []) (ys := (x.net.take i).map Wire.enc) (Own.of (by simp)) (by rw [List.map_take]; exact sl_take (o1.app _).sl i) rfl rfl rfl (by simp) (by simp; omega) rfl (by simp; omega) fun aA HA fA oA kkA ffA => ?_
      rw [List.nil_append] at oA
      have kA1 : Keep [X.length + 1] (X ++ [some ⟨91, .wr, [w.enc]⟩, some ⟨91, .wr, []⟩]) HA := kkA
      have hBA : blkAt HA H.length = _ := kkA.blk (b0A _) (by simp; omega)
      have hDA : blkAt HA (H.length + 1) = _ := kkA.blk (bDA _) (by simp; omega)
      have hnA : blkAt HA id3 = _ := kkA.blk (hb3A _) (by simp; omega)
      have dBA := blkAt_len hBA
      have dDA := blkAt_len hDA
      have dnA := blkAt_len hnA
      simp [hBA, hDA, dBA, dDA, hi, hwr, sliceV, bnd, elemIs, hnA, dnA, hbe3, hi1, hiL1, hiN]
      have kXA : Keep [] X HA := (kA _).next kkA (by simp)
      have oXA := o1.keep kXA (by simp)
      have hsd : Sl HA 91 (some (id3, i + 1)) ((x.net.drop (i + 1)).map Wire.enc) := by
        have := sl_drop oXA.sl (i + 1)
        rwa [Nat.zero_add, ← List.map_drop] at this
      refine stpL_append (e := 91) (rows := (x.net.take i).map Wire.enc) (ys := (x.net.drop (i + 1)).map Wire.enc) oA hsd rfl rfl rfl (by simp) (by simp; omega) (by simp; omega) (by simp) fun aB HB fB oB kkB ffB => ?_
      have hfA : ∀ j ∈ fA, X.length + 1 ≤ j := fun j hj => by
        rcases ffA j hj with h | h
        · simp at h; omega
        · simp at h; omega
      have kXB : Keep [] X HB := kXA.next kkB (fun j hj => by have := hfA j hj; omega)
      have hBB := kkB.blk hBA (fun h => by have := hfA _ h; omega)
      have hWB : blkAt HB X.length = some ⟨91, .wr, [w.enc]⟩ := kkB.blk (kkA.blk (by simp [Wire.enc]) (by simp)) (fun h => by have := hfA _ h; omega)
      have hDB := kkB.blk hDA (fun h => by have := hfA _ h; omega)
      have dBB := blkAt_len hBB
      have dDB := blkAt_len hDB
      have dWB := blkAt_len hWB
      have hfB : ∀ j ∈ fB, j ∈ f1 ∨ X.length ≤ j := fun j hj => .inr (by
        rcases ffB j hj with h | h
        · have := hfA j h; omega
        · have := kXA.1; omega)
      have hq : IsWireS HB (.sl aB (i + (x.net.length - (i + 1)))) (x.net.eraseIdx i) fB := ⟨aB, by rw [List.length_eraseIdx_of_lt hil]; congr 1; omega, by rw [List.eraseIdx_eq_take_drop_succ, List.map_append]; exact oB⟩
      have hbn := boxNet (x := x) d0 hid i0 i2 i3 i4 hnd (kXB.more (by simp)) hq hfB
      simp only [Box.enc] at hbn
      simp [hBB, dBB]
      obtain ⟨Y, hY⟩ : ∃ Y : Heap, Y = HB.set H.length (some ⟨32, .wr, [[.i .i64 x.id, .i .i64 x.ports, .i .i64 x.reg.epoch, .i .i64 x.reg.owner, .i .i64 x.reg.pair, q0, (.sl aB (i + (x.net.length - (i + 1)))), q2, (.sl a3 x.line.length), q4]]⟩) := ⟨_, rfl⟩
      have yD := (show blkAt Y (H.length + 1) = blkAt HB (H.length + 1) by rw [hY]; exact blkAt_set_ne (by omega)).trans hDB
      have yW := (show blkAt Y X.length = blkAt HB X.length by rw [hY]; exact blkAt_set_ne (by omega)).trans hWB
      rw [← hY] at hbn ⊢
      have m1 := blkAt_len yD
      have m2 := blkAt_len yW
      clear hY
      obtain ⟨lY, gY, v1, v2, v3, v4, v5⟩ := hbn
      have hLY := v2.len
      have hTY : lY.take lY.length = lY := List.take_length
      rw [hLY] at hTY
      have m3 := blkAt_len v1
      by_cases h4 : d.kind = 4
      · rw [if_pos h4] at hD
        obtain ⟨l', w1, w2, w3, w4, w5, w6, w7⟩ := done _ _ 0 hD ⟨lY, gY, v1, v2, v3, v4, v5⟩
        simp [yD, m1, h4, w1, w2, w3, w4, w5, w6]
        exact w7 _ (by simp) (by simp)
      · rw [if_neg h4] at hD
        have h3 : d.kind = 3 := by omega
        simp only [Wire.enc] at yW
        have hh := l15Heard v2 (hok.setNet (by have := List.length_eraseIdx_le x.net i; omega)) (by exact hlog60) w hfrm
        simp only [Wire.enc] at hh
        simp [yD, m1, h3, v1, m3, hLY, hTY, yW, m2]
        refine stpL_runs hh ?_
        rintro _ HZ ⟨l2, rfl, bv⟩
        have hL2 := bv.len
        have hT2 : l2.take l2.length = l2 := List.take_length
        rw [hL2] at hT2
        have bt := BoxTo.trans v4 v5 (bv.to v3 m3)
        have kz : Keep gY Y HZ := by obtain ⟨_, _, kz, _⟩ := bv; exact kz
        have b0Z := kz.blk v1 v3
        have dZ := blkAt_len b0Z
        obtain ⟨l', w1, w2, w3, w4, w5, w6, w7⟩ := done _ _ 0 hD bt
        have hDY : lY.drop 10 = [] := by rw [← hLY]; exact List.drop_length
        simp [b0Z, dZ, hLY, hTY, hDY, hL2, hT2, w1, w2, w3, w4, w5, w6]
        exact w7 _ (by simp) (by simp)
  · have hf : (!decide (0 ≤ d.a) || !decide (d.a ≤ (x.net.length : Int) - 1)) = true := by
      rcases Int.lt_or_le d.a 0 with h | h
      · simp [show ¬ 0 ≤ d.a by omega]
      · simp [show ¬ d.a ≤ (x.net.length : Int) - 1 by omega]
    rw [hf]
    simp [b0, d0, bz, dz]
    exact same0 2 (by rw [hR, onWireD, if_pos (by omega)]) _ (by simp) (by simp)

theorem l15Fall {H : Heap} {l : List Lf} {x : Box} {fp : List Nat} (hI : IsBox H l x fp) (hok : Small x) (hxok : x.ok = true) (d : Deed) {s : Nat} (hs2 : s < 2) (hda : d.a = (s : Int)) (hk : d.kind = 7 ∨ d.kind = 8 ∨ d.kind = 12) :
    Runs env 122 [.agg l, .agg d.enc] H fun v H' => ∃ l', v = .tup [.agg l', .lf (.i .i64 (onMinderD x d).2)] ∧ BoxVal H H' fp l' (onMinderD x d).1 := by
  have hsz := hok.sz
  have h2 := hok.two
  have hlt := hI.lt
  have hid : H.length ∉ fp := fun h => by have := hlt _ h; omega
  obtain ⟨q0, q1, q2, q3, q4, rfl⟩ : ∃ q0 q1 q2 q3 q4, l = x.enc q0 q1 q2 q3 q4 := by
    obtain ⟨q0, q1, q2, q3, q4, _, _, _, _, _, rfl, -⟩ := hI
    exact ⟨q0, q1, q2, q3, q4, rfl⟩
  obtain ⟨R, hR⟩ : ∃ R, R = onMinderD x d := ⟨_, rfl⟩
  rw [← hR]
  refine Runs.walk ok122 Tryz.func122 rfl (by simp [Tryz.f122]) fun Q hQ => ?_
  simp only [Tryz.f122, strip, stripL, stripI, stripG, chkT, tagsB, tagsL, tagD, addT, tagA, lookN, tagOp, elmT, ty22, ty26, ty27, ty28, ty29, ty30, ty41, ty53, ty56, Nat.reduceEqDiff, if_false, reduceIte, Option.getD_some, Option.getD_none, dstAt, dstOk, Nat.reduceLT, decide_true, if_true]
  have fin : ∀ (HX : Heap) (tm : Ab.T) (c : Int) (y : Box) (l' : List Lf), R = (y, c) → BoxVal H HX fp l' y → tm 5 = .int c → tm 4 = .ptr (H.length + 2) 0 0 → blkAt HX (H.length + 2) = some ⟨32, .wr, [l']⟩ → Q .ret tm HX := by
    intro HX tm c y l' h1 hv t5 t4 hb4
    have hL' := hv.len
    have hT' : l'.take l'.length = l' := List.take_length
    rw [hL'] at hT'
    refine hQ _ _ _ (by simp) ?_
    have hres : resT env.τ tm HX (Tryz.f122.results.toList) = some [W.agg l', W.lf (.i .i64 c)] := by simp [Tryz.f122, t4, t5, hb4, hL', hT']
    rw [hres, optK_some, h1]
    exact ⟨_, rfl, hv.leave (by simp)⟩
  simp [Box.enc, Deed.enc, Wire.enc]
  obtain ⟨X, hX⟩ : ∃ X : Heap, X = H ++ [some ⟨32, .wr, [[.i .i64 x.id, .i .i64 x.ports, .i .i64 x.reg.epoch, .i .i64 x.reg.owner, .i .i64 x.reg.pair, q0, q1, q2, q3, q4]]⟩, some ⟨66, .wr, [[.i .i64 d.kind, .i .i64 d.a, .i .i64 d.inn.kind, .i .i64 d.inn.port, .i .i64 d.inn.vec.root, .i .i64 d.inn.vec.cost, .i .i64 d.inn.vec.bridge, .i .i64 d.inn.vec.port, .i .i64 d.inn.hops, .b d.inn.up]]⟩, some ⟨32, .wr, [[.i .i64 0, .i .i64 0, .i .i64 0, .i .i64 0, .i .i64 0, .sl none 0, .sl none 0, .sl none 0, .sl none 0, .sl none 0]]⟩] := ⟨_, rfl⟩
  have b0 : blkAt X H.length = some ⟨32, .wr, [[.i .i64 x.id, .i .i64 x.ports, .i .i64 x.reg.epoch, .i .i64 x.reg.owner, .i .i64 x.reg.pair, q0, q1, q2, q3, q4]]⟩ := by rw [hX]; simp
  have d0 := blkAt_len b0
  have bz : blkAt X (H.length + 2) = some ⟨32, .wr, [[.i .i64 0, .i .i64 0, .i .i64 0, .i .i64 0, .i .i64 0, .sl none 0, .sl none 0, .sl none 0, .sl none 0, .sl none 0]]⟩ := by rw [hX]; simp
  have dz := blkAt_len bz
  have bD : blkAt X (H.length + 1) = some ⟨66, .wr, [[.i .i64 d.kind, .i .i64 d.a, .i .i64 d.inn.kind, .i .i64 d.inn.port, .i .i64 d.inn.vec.root, .i .i64 d.inn.vec.cost, .i .i64 d.inn.vec.bridge, .i .i64 d.inn.vec.port, .i .i64 d.inn.hops, .b d.inn.up]]⟩ := by rw [hX]; simp
  have dD := blkAt_len bD
  rw [← hX]
  have kX : Keep [] H X := by rw [hX]; exact Keep.app _ _ _
  have hI1 : IsBox X (x.enc q0 q1 q2 q3 q4) x fp := hI.keep kX (by simp)
  have val : ∀ (HX : Heap) (y : Box), BoxTo X HX H.length fp y → ∃ l', blkAt HX H.length = some ⟨32, .wr, [l']⟩ ∧ l'.length = 10 ∧ l'.take 10 = l' ∧ BoxVal H (HX.set (H.length + 2) (some ⟨32, .wr, [l']⟩)) fp l' y ∧ Keep (H.length :: fp) X HX := by
    intro HX y h
    rw [hX] at h ⊢
    exact h.val hlt (by omega) (by simp)
  have off : ∀ k : Nat, 0 < k → H.length + k ∉ H.length :: fp := fun k hk h => by
    rcases List.mem_cons.1 h with h | h
    · omega
    · have := hlt _ h; omega
  have done : ∀ (HX : Heap) (y : Box) (c : Int) (_ : R = (y, c)) (_ : BoxTo X HX H.length fp y), ∃ l', blkAt HX H.length = some ⟨32, .wr, [l']⟩ ∧ l'.length = 10 ∧ l'.take 10 = l' ∧ H.length < HX.length ∧ H.length + 2 < HX.length ∧ blkAt HX (H.length + 2) = some ⟨32, .wr, [[.i .i64 0, .i .i64 0, .i .i64 0, .i .i64 0, .i .i64 0, .sl none 0, .sl none 0, .sl none 0, .sl none 0, .sl none 0]]⟩ ∧ ∀ tm : Ab.T, tm 5 = .int c → tm 4 = .ptr (H.length + 2) 0 0 → Q .ret tm (HX.set (H.length + 2) (some ⟨32, .wr, [l']⟩)) := by
    intro HX y c h1 h
    obtain ⟨l', v1, v2, v3, v4, v5⟩ := val HX y h
    have hz := v5.blk bz (off _ (by omega))
    have hzl := blkAt_len hz
    exact ⟨l', v1, v2, v3, blkAt_len v1, hzl, hz, fun tm t5 t4 => fin _ tm c y l' h1 v4 t5 t4 (blkAt_set hzl)⟩
  have doneL : ∀ (HX : Heap) (y : Box) (c : Int) (L : List Lf) (_ : R = (y, c)) (_ : blkAt HX H.length = some ⟨32, .wr, [L]⟩) (_ : BoxTo X HX H.length fp y), H.length < HX.length ∧ H.length + 2 < HX.length ∧ blkAt HX (H.length + 2) = some ⟨32, .wr, [[.i .i64 0, .i .i64 0, .i .i64 0, .i .i64 0, .i .i64 0, .sl none 0, .sl none 0, .sl none 0, .sl none 0, .sl none 0]]⟩ ∧ ∀ tm : Ab.T, tm 5 = .int c → tm 4 = .ptr (H.length + 2) 0 0 → Q .ret tm (HX.set (H.length + 2) (some ⟨32, .wr, [L]⟩)) := by
    intro HX y c L h1 hb h
    obtain ⟨l', w1, w2, w3, w4, w5, w6, w7⟩ := done HX y c h1 h
    rw [hb] at w1
    injection w1 with w1
    simp only [Blk.mk.injEq, List.cons.injEq, and_true, true_and] at w1
    subst w1
    exact ⟨w4, w5, w6, w7⟩
  have same : ∀ (G : Heap) (c : Int) (_ : R = (x, c)) (tm : Ab.T), tm 5 = .int c → tm 4 = .ptr (H.length + 2) 0 0 → Q .ret tm ((X ++ G).set (H.length + 2) (some ⟨32, .wr, [[.i .i64 x.id, .i .i64 x.ports, .i .i64 x.reg.epoch, .i .i64 x.reg.owner, .i .i64 x.reg.pair, q0, q1, q2, q3, q4]]⟩)) := by
    intro G c h1 tm t5 t4
    obtain ⟨l', w1, -, -, -, -, -, w7⟩ := done (X ++ G) x c h1 (BoxTo.app b0 hI1 hid G)
    rw [blkAt_app b0] at w1
    injection w1 with w1
    simp only [Blk.mk.injEq, List.cons.injEq, and_true, true_and] at w1
    subst w1
    exact w7 tm t5 t4
  have same0 : ∀ (c : Int) (_ : R = (x, c)) (tm : Ab.T), tm 5 = .int c → tm 4 = .ptr (H.length + 2) 0 0 → Q .ret tm (X.set (H.length + 2) (some ⟨32, .wr, [[.i .i64 x.id, .i .i64 x.ports, .i .i64 x.reg.epoch, .i .i64 x.reg.owner, .i .i64 x.reg.pair, q0, q1, q2, q3, q4]]⟩)) := by
    intro c h1 tm t5 t4
    have := same [] c h1 tm t5 t4
    rwa [List.append_nil] at this
  have hs : s < x.two.length := by omega
  obtain ⟨bid, blo, r1, r2, r3, r4, row, fs, hl, hbne, hbl, hbb, hbe, hbm, hrow, hrd, hbfs, hidfs, hput⟩ := boxTwoOwn b0 hI1 hid hs
  simp only [Box.enc, List.cons.injEq, and_true, true_and] at hl
  obtain ⟨rfl, rfl, rfl, rfl, rfl⟩ := hl
  have hbH : bid < H.length := by
    have h1 := hI.rd
    obtain ⟨_, _, _, _, _, e1, ⟨a0, rws, e2, hss, hll, _⟩, -⟩ := h1
    simp only [Box.enc, List.cons.injEq, and_true, true_and] at e1
    obtain ⟨e1, -⟩ := e1
    rw [e2] at e1
    injection e1 with e1
    rw [← e1] at hss
    exact hss.len (by rintro rfl; simp at hll; omega)
  have b0s := b0
  rw [h2] at b0 same same0
  obtain ⟨m, hm⟩ : ∃ m, m = x.two[s] := ⟨_, rfl⟩
  rw [← hm] at hrd
  have hmx : m ∈ x.two := by rw [hm]; exact List.getElem_mem hs
  have hmlog := hok.log m hmx
  have hmsz : m.sz ≤ 1048576 := by unfold Minder.sz; omega
  have hmA : mAt x (s : Int) = m := by simp [mAt, List.getD, List.getElem?_eq_getElem hs, hm]
  have hrdR := hrd.rd
  obtain ⟨a, rfl, oa⟩ := hrd
  have hrow' := hrow
  simp only [Minder.enc] at hrow
  have hs0 : (0 : Int) ≤ s := by omega
  have hsl2 : (s : Int) < 2 := by omega
  have hrl : s < blo.rows.length := (List.getElem?_eq_some_iff.1 hrow).1
  have hse : ∀ (Y : Heap) (y : Option Blk) (k : Nat), blkAt (List.set Y bid y) (H.length + k) = blkAt Y (H.length + k) := fun Y y k => blkAt_set_ne (by omega)
  have hse0 : ∀ (Y : Heap) (y : Option Blk), blkAt (List.set Y bid y) H.length = blkAt Y H.length := fun Y y => blkAt_set_ne (by omega)
  have hmi : mindsAt x (s : Int) = minds x.reg s m := by
    rw [mindsAt_s h2 hs2]
    have := hmA
    simp only [mAt, Int.toNat_natCast] at this
    rw [this]
  have mok := (Box.right hxok).ok m hmx
  have b0A := fun G => blkAt_app b0 G
  have bzA := fun G => blkAt_app bz G
  have bDA := fun G => blkAt_app bD G
  have hbbA := fun G => blkAt_app hbb G
  have g1 : H.length < X.length + 1 := by omega
  have g2 : bid < X.length + 1 := by omega
  have g3 : H.length + 2 < X.length + 1 := by omega
  have g4 : H.length + 1 < X.length + 1 := by omega
  have put : ∀ (G : Heap) (l2 : List Lf) (m' : Minder), IsMinder (X ++ G) l2 m' [] → R = (setTwo x s m', 0) → ∀ tm : Ab.T, tm 5 = .int 0 → tm 4 = .ptr (H.length + 2) 0 0 → Q .ret tm (((X ++ G).set bid (some ⟨52, .wr, blo.rows.set s l2⟩)).set (H.length + 2) (some ⟨32, .wr, [[.i .i64 x.id, .i .i64 x.ports, .i .i64 x.reg.epoch, .i .i64 x.reg.owner, .i .i64 x.reg.pair, (.sl (some (bid, 0)) 2), q1, q2, q3, q4]]⟩)) := by
    intro G l2 m' hm' hr
    obtain ⟨g2', y1, y2, y3, y4, y5⟩ := hput (X ++ G) l2 m' [] (Keep.app [] X G) hm' (by simp)
    have y1' := y1
    simp only [Box.enc, h2] at y1'
    exact (doneL _ _ 0 _ hr y1' ⟨_, g2', y1, y2, y3, y4, y5⟩).2.2.2
  simp [b0, d0, bD, dD, hda, indexAddrV, elemIs, hbb, hbl, hbe, hs2, hs0, hsl2, hrow, h2, b0A, bzA, bDA, hbbA, g1, g2, g3, g4]
  have hD := onMinderD.eq_1 x d
  simp only [hda, hmA, Int.toNat_natCast] at hD
  rw [if_neg (by omega), if_neg (by omega), if_neg (by omega), if_neg (by omega)] at hD
  rw [← hR] at hD
  have hrise := fun G => l15Rise (hI1.app G).rd hxok
  simp only [Box.enc, h2] at hrise
  have e1 := fun G => l14Minds (hI1.app G).rd (by omega) (s : Int)
  rw [hmi] at e1
  simp only [Box.enc, h2] at e1
  rcases hk with hk | hk | hk
  · rw [if_neg (by omega)] at hD
    cases hup : m.up
    · rw [if_pos hup] at hD
      simp [hk, b0A, g1, bzA, g3, bDA, g4]
      exact same _ 3 hD _ (by simp) (by simp)
    · rw [if_neg (by simp [hup]), if_neg (by omega)] at hD
      simp [hk, hup, hda, b0A, g1, bzA, g3, bDA, g4, indexAddrV, elemIs, hbbA, g2, hbe, hbm, hs2, hs0, hsl2, hrow, h2]
      simp [hse0, hse, b0A, g1, bzA, g3]
      exact put _ _ ⟨false, m.life, 0, [], 0, 0, 0⟩ ⟨none, rfl, Own.nil _ _⟩ hD _ (by simp) (by simp)
  · rw [if_pos hk] at hD
    cases hup : m.up
    · rw [if_neg (by simp [hup])] at hD
      simp [hk, hup, hda, b0A, g1, bzA, g3, bDA, g4, hrise, indexAddrV, elemIs, hbbA, g2, hbe, hbm, hs2, hs0, hsl2, hrow, h2]
      simp [hse0, hse, b0A, g1, bzA, g3]
      exact put _ _ (newLife x) ⟨none, rfl, Own.nil _ _⟩ hD _ (by simp) (by simp)
    · rw [if_pos hup] at hD
      simp [hk, b0A, g1, bzA, g3, bDA, g4]
      exact same _ 3 hD _ (by simp) (by simp)
  · rw [if_neg (by omega)] at hD
    cases hup : m.up
    · rw [if_pos hup] at hD
      simp [hk, b0A, g1, bzA, g3, bDA, g4]
      exact same _ 3 hD _ (by simp) (by simp)
    · rw [if_neg (by simp [hup]), if_pos hk] at hD
      by_cases hno : m.epoch = 0 ∨ minds x.reg s m = true
      · rw [if_pos hno] at hD
        by_cases he : 0 < m.epoch
        · have hmi := hno.resolve_left (by omega)
          simp [hk, hup, he, hda, b0A, g1, bzA, g3, bDA, g4, e1, hmi]
          exact same _ 3 hD _ (by simp) (by simp)
        · simp [hk, hup, he, b0A, g1, bzA, g3, bDA, g4]
          exact same _ 3 hD _ (by simp) (by simp)
      · rw [if_neg hno] at hD
        have he : 0 < m.epoch := by simp [Minder.ok] at mok; omega
        have hmi : minds x.reg s m = false := by cases h : minds x.reg s m; rfl; exact absurd (.inr h) hno
        simp [hk, hup, he, hda, b0A, g1, bzA, g3, bDA, g4, e1, hmi, hrise, indexAddrV, elemIs, hbbA, g2, hbe, hbm, hs2, hs0, hsl2, hrow, h2]
        simp [hse0, hse, b0A, g1, bzA, g3]
        exact put _ _ (newLife x) ⟨none, rfl, Own.nil _ _⟩ hD _ (by simp) (by simp)
end W
end Go.Proofs.YtfhaanknijlamaaGreat
