/- The functions that this law reaches: what each computes. Conditions: those that each theorem names. -/
import Derived.Test.YtfhaanknijlamaaGreatWalkDeeds2
set_option maxRecDepth 100000
set_option maxHeartbeats 4000000
set_option linter.unusedSimpArgs false
set_option linter.unusedVariables false
set_option linter.unnecessarySimpa false
namespace Go.Proofs.YtfhaanknijlamaaGreat
open Go Go.Ab Go.ChangeShapes Go.WideShapes Go.ChangeAt Go.RowKit
namespace W
theorem l15Reg {H : Heap} {l : List Lf} {x : Box} {fp : List Nat} (hI : IsBox H l x fp) (hok : Small x) (hxok : x.ok = true) (d : Deed) {s : Nat} (hs2 : s < 2) (hda : d.a = (s : Int)) (hk : d.kind = 9 ∨ d.kind = 10 ∨ d.kind = 11) :
    Runs env 123 [.agg l, .agg d.enc] H fun v H' => ∃ l', v = .tup [.agg l', .lf (.i .i64 (onMinderD x d).2)] ∧ BoxVal H H' fp l' (onMinderD x d).1 := by
  have hsz := hok.sz
  have h2 := hok.two
  have hlt := hI.lt
  have hid : H.length ∉ fp := fun h => by have := hlt _ h; omega
  obtain ⟨q0, q1, q2, q3, q4, rfl⟩ : ∃ q0 q1 q2 q3 q4, l = x.enc q0 q1 q2 q3 q4 := by
    obtain ⟨q0, q1, q2, q3, q4, _, _, _, _, _, rfl, -⟩ := hI
    exact ⟨q0, q1, q2, q3, q4, rfl⟩
  obtain ⟨R, hR⟩ : ∃ R, R = onMinderD x d := ⟨_, rfl⟩
  rw [← hR]
  refine Runs.walk ok123 Tryz.func123 rfl (by simp [Tryz.f123]) fun Q hQ => ?_
  simp only [Tryz.f123, strip, stripL, stripI, stripG, chkT, tagsB, tagsL, tagD, addT, tagA, lookN, tagOp, elmT, ty22, ty26, ty27, ty28, ty29, ty30, ty41, ty53, ty56, Nat.reduceEqDiff, if_false, reduceIte, Option.getD_some, Option.getD_none, dstAt, dstOk, Nat.reduceLT, decide_true, if_true]
  have fin : ∀ (HX : Heap) (tm : Ab.T) (c : Int) (y : Box) (l' : List Lf), R = (y, c) → BoxVal H HX fp l' y → tm 5 = .int c → tm 4 = .ptr (H.length + 2) 0 0 → blkAt HX (H.length + 2) = some ⟨32, .wr, [l']⟩ → Q .ret tm HX := by
    intro HX tm c y l' h1 hv t5 t4 hb4
    have hL' := hv.len
    have hT' : l'.take l'.length = l' := List.take_length
    rw [hL'] at hT'
    refine hQ _ _ _ (by simp) ?_
    have hres : resT env.τ tm HX (Tryz.f123.results.toList) = some [W.agg l', W.lf (.i .i64 c)] := by simp [Tryz.f123, t4, t5, hb4, hL', hT']
    rw [hres, optK_some, h1]
    exact ⟨_, rfl, hv.leave (by simp)⟩
  simp [Box.enc, Deed.enc, Wire.enc]
  obtain ⟨X, hX⟩ : ∃ X : Heap, X = H ++ [some ⟨32, .wr, [[.i .i64 x.id, .i .i64 x.ports, .i .i64 x.reg.epoch, .i .i64 x.reg.owner, .i .i64 x.reg.pair, q0, q1, q2, q3, q4]]⟩, some ⟨66, .wr, [[.i .i64 d.kind, .i .i64 d.a, .i .i64 d.inn.kind, .i .i64 d.inn.port, .i .i64 d.inn.vec.root, .i .i64 d.inn.vec.cost, .i .i64 d.inn.vec.bridge, .i .i64 d.inn.vec.port, .i .i64 d.inn.hops, .b d.inn.up]]⟩, some ⟨32, .wr, [[.i .i64 0, .i .i64 0, .i .i64 0, .i .i64 0, .i .i64 0, .sl none 0, .sl none 0, .sl none 0, .sl none 0, .sl none 0]]⟩] := ⟨_, rfl⟩
  have b0 : blkAt X H.length = some ⟨32, .wr, [[.i .i64 x.id, .i .i64 x.ports, .i .i64 x.reg.epoch, .i .i64 x.reg.owner, .i .i64 x.reg.pair, q0, q1, q2, q3, q4]]⟩ := by rw [hX]; simp
  have d0 := blkAt_len b0
  have bz : blkAt X (H.length + 2) = some ⟨32, .wr, [[.i .i64 0, .i .i64 0, .i .i64 0, .i .i64 0, .i .i64 0, .sl none 0, .sl none 0, .sl none 0, .sl none 0, .sl none 0]]⟩ := by rw [hX]; simp
  have dz := blkAt_len bz
  have bD : blkAt X (H.length + 1) = some ⟨66, .wr, [[.i .i64 d.kind, .i .i64 d.a, .i .i64 d.inn.kind, .i .i64 d.inn.port, .i .i64 d.inn.vec.root, .i .i64 d.inn.vec.cost, .i .i64 d.inn.vec.bridge, .i .i64 d.inn.vec.port, .i .i64 d.inn.hops, .b d.inn.up]]⟩ := by rw [hX]; simp
  have dD := blkAt_len bD
  rw [← hX]
  have kX : Keep [] H X := by rw [hX]; exact Keep.app _ _ _
  have hI1 : IsBox X (x.enc q0 q1 q2 q3 q4) x fp := hI.keep kX (by simp)
  have val : ∀ (HX : Heap) (y : Box), BoxTo X HX H.length fp y → ∃ l', blkAt HX H.length = some ⟨32, .wr, [l']⟩ ∧ l'.length = 10 ∧ l'.take 10 = l' ∧ BoxVal H (HX.set (H.length + 2) (some ⟨32, .wr, [l']⟩)) fp l' y ∧ Keep (H.length :: fp) X HX := by
    intro HX y h
    rw [hX] at h ⊢
    exact h.val hlt (by omega) (by simp)
  have off : ∀ k : Nat, 0 < k → H.length + k ∉ H.length :: fp := fun k hk h => by
    rcases List.mem_cons.1 h with h | h
    · omega
    · have := hlt _ h; omega
  have done : ∀ (HX : Heap) (y : Box) (c : Int) (_ : R = (y, c)) (_ : BoxTo X HX H.length fp y), ∃ l', blkAt HX H.length = some ⟨32, .wr, [l']⟩ ∧ l'.length = 10 ∧ l'.take 10 = l' ∧ H.length < HX.length ∧ H.length + 2 < HX.length ∧ blkAt HX (H.length + 2) = some ⟨32, .wr, [[.i .i64 0, .i .i64 0, .i .i64 0, .i .i64 0, .i .i64 0, .sl none 0, .sl none 0, .sl none 0, .sl none 0, .sl none 0]]⟩ ∧ ∀ tm : Ab.T, tm 5 = .int c → tm 4 = .ptr (H.length + 2) 0 0 → Q .ret tm (HX.set (H.length + 2) (some ⟨32, .wr, [l']⟩)) := by
    intro HX y c h1 h
    obtain ⟨l', v1, v2, v3, v4, v5⟩ := val HX y h
    have hz := v5.blk bz (off _ (by omega))
    have hzl := blkAt_len hz
    exact ⟨l', v1, v2, v3, blkAt_len v1, hzl, hz, fun tm t5 t4 => fin _ tm c y l' h1 v4 t5 t4 (blkAt_set hzl)⟩
  have doneL : ∀ (HX : Heap) (y : Box) (c : Int) (L : List Lf) (_ : R = (y, c)) (_ : blkAt HX H.length = some ⟨32, .wr, [L]⟩) (_ : BoxTo X HX H.length fp y), H.length < HX.length ∧ H.length + 2 < HX.length ∧ blkAt HX (H.length + 2) = some ⟨32, .wr, [[.i .i64 0, .i .i64 0, .i .i64 0, .i .i64 0, .i .i64 0, .sl none 0, .sl none 0, .sl none 0, .sl none 0, .sl none 0]]⟩ ∧ ∀ tm : Ab.T, tm 5 = .int c → tm 4 = .ptr (H.length + 2) 0 0 → Q .ret tm (HX.set (H.length + 2) (some ⟨32, .wr, [L]⟩)) := by
    intro HX y c L h1 hb h
    obtain ⟨l', w1, w2, w3, w4, w5, w6, w7⟩ := done HX y c h1 h
    rw [hb] at w1
    injection w1 with w1
    simp only [Blk.mk.injEq, List.cons.injEq, and_true, true_and] at w1
    subst w1
    exact ⟨w4, w5, w6, w7⟩
  have same : ∀ (G : Heap) (c : Int) (_ : R = (x, c)) (tm : Ab.T), tm 5 = .int c → tm 4 = .ptr (H.length + 2) 0 0 → Q .ret tm ((X ++ G).set (H.length + 2) (some ⟨32, .wr, [[.i .i64 x.id, .i .i64 x.ports, .i .i64 x.reg.epoch, .i .i64 x.reg.owner, .i .i64 x.reg.pair, q0, q1, q2, q3, q4]]⟩)) := by
    intro G c h1 tm t5 t4
    obtain ⟨l', w1, -, -, -, -, -, w7⟩ := done (X ++ G) x c h1 (BoxTo.app b0 hI1 hid G)
    rw [blkAt_app b0] at w1
    injection w1 with w1
    simp only [Blk.mk.injEq, List.cons.injEq, and_true, true_and] at w1
    subst w1
    exact w7 tm t5 t4
  have same0 : ∀ (c : Int) (_ : R = (x, c)) (tm : Ab.T), tm 5 = .int c → tm 4 = .ptr (H.length + 2) 0 0 → Q .ret tm (X.set (H.length + 2) (some ⟨32, .wr, [[.i .i64 x.id, .i .i64 x.ports, .i .i64 x.reg.epoch, .i .i64 x.reg.owner, .i .i64 x.reg.pair, q0, q1, q2, q3, q4]]⟩)) := by
    intro c h1 tm t5 t4
    have := same [] c h1 tm t5 t4
    rwa [List.append_nil] at this
  have hI2 := hI1
  obtain ⟨p0, p1, p2, p3, p4, f0, f1, f2, f3, f4, hle, i0, ⟨a1, hp1, o1⟩, i2, ⟨a3, hp3, o3⟩, i4, rfl, hnd⟩ := hI2
  simp only [Box.enc, List.cons.injEq, and_true, true_and] at hle
  obtain ⟨rfl, rfl, rfl, rfl, rfl⟩ := hle
  subst hp1
  subst hp3
  have i3 : IsInS X (.sl a3 x.line.length) x.line f3 := ⟨a3, rfl, o3⟩
  have hs : s < x.two.length := by omega
  obtain ⟨bid, blo, r1, r2, r3, r4, row, fs, hl, hbne, hbl, hbb, hbe, hbm, hrow, hrd, hbfs, hidfs, hput⟩ := boxTwoOwn b0 hI1 hid hs
  simp only [Box.enc, List.cons.injEq, and_true, true_and] at hl
  obtain ⟨rfl, rfl, rfl, rfl, rfl⟩ := hl
  have hbH : bid < H.length := by
    have h1 := hI.rd
    obtain ⟨_, _, _, _, _, e1, ⟨a0, rws, e2, hss, hll, _⟩, -⟩ := h1
    simp only [Box.enc, List.cons.injEq, and_true, true_and] at e1
    obtain ⟨e1, -⟩ := e1
    rw [e2] at e1
    injection e1 with e1
    rw [← e1] at hss
    exact hss.len (by rintro rfl; simp at hll; omega)
  have b0s := b0
  rw [h2] at b0 same same0
  obtain ⟨m, hm⟩ : ∃ m, m = x.two[s] := ⟨_, rfl⟩
  rw [← hm] at hrd
  have hmx : m ∈ x.two := by rw [hm]; exact List.getElem_mem hs
  have hmlog := hok.log m hmx
  have hmsz : m.sz ≤ 1048576 := by unfold Minder.sz; omega
  have hmA : mAt x (s : Int) = m := by simp [mAt, List.getD, List.getElem?_eq_getElem hs, hm]
  have hrdR := hrd.rd
  obtain ⟨a, rfl, oa⟩ := hrd
  have hrow' := hrow
  simp only [Minder.enc] at hrow
  have hs0 : (0 : Int) ≤ s := by omega
  have hsl2 : (s : Int) < 2 := by omega
  have hrl : s < blo.rows.length := (List.getElem?_eq_some_iff.1 hrow).1
  have hse : ∀ (Y : Heap) (y : Option Blk) (k : Nat), blkAt (List.set Y bid y) (H.length + k) = blkAt Y (H.length + k) := fun Y y k => blkAt_set_ne (by omega)
  have hse0 : ∀ (Y : Heap) (y : Option Blk), blkAt (List.set Y bid y) H.length = blkAt Y H.length := fun Y y => blkAt_set_ne (by omega)
  have hmi : mindsAt x (s : Int) = minds x.reg s m := by
    rw [mindsAt_s h2 hs2]
    have := hmA
    simp only [mAt, Int.toNat_natCast] at this
    rw [this]
  have mok := (Box.right hxok).ok m hmx
  have b0A := fun G => blkAt_app b0 G
  have bzA := fun G => blkAt_app bz G
  have bDA := fun G => blkAt_app bD G
  have hbbA := fun G => blkAt_app hbb G
  have g1 : H.length < X.length + 1 := by omega
  have g2 : bid < X.length + 1 := by omega
  have g3 : H.length + 2 < X.length + 1 := by omega
  have g4 : H.length + 1 < X.length + 1 := by omega
  have put : ∀ (G : Heap) (l2 : List Lf) (m' : Minder), IsMinder (X ++ G) l2 m' [] → R = (setTwo x s m', 0) → ∀ tm : Ab.T, tm 5 = .int 0 → tm 4 = .ptr (H.length + 2) 0 0 → Q .ret tm (((X ++ G).set bid (some ⟨52, .wr, blo.rows.set s l2⟩)).set (H.length + 2) (some ⟨32, .wr, [[.i .i64 x.id, .i .i64 x.ports, .i .i64 x.reg.epoch, .i .i64 x.reg.owner, .i .i64 x.reg.pair, (.sl (some (bid, 0)) 2), (.sl a1 x.net.length), q2, (.sl a3 x.line.length), q4]]⟩)) := by
    intro G l2 m' hm' hr
    obtain ⟨g2', y1, y2, y3, y4, y5⟩ := hput (X ++ G) l2 m' [] (Keep.app [] X G) hm' (by simp)
    have y1' := y1
    simp only [Box.enc, h2] at y1'
    exact (doneL _ _ 0 _ hr y1' ⟨_, g2', y1, y2, y3, y4, y5⟩).2.2.2
  simp [b0, d0, bD, dD, hda, indexAddrV, elemIs, hbb, hbl, hbe, hs2, hs0, hsl2, hrow, h2, b0A, bzA, bDA, hbbA, g1, g2, g3, g4]
  have hD := onMinderD.eq_1 x d
  simp only [hda, hmA, Int.toNat_natCast] at hD
  rw [if_neg (by omega)] at hD
  rw [← hR] at hD
  have hal : I64 m.ackLife := by simp [Minder.ok] at mok; unfold I64; omega
  have regp : ∀ (G : Heap) (r : Reg), R = (setReg x r, 0) → ∀ tm : Ab.T, tm 5 = .int 0 → tm 4 = .ptr (H.length + 2) 0 0 →
      ∀ L, L = [.i .i64 x.id, .i .i64 x.ports, .i .i64 r.epoch, .i .i64 r.owner, .i .i64 r.pair, .sl (some (bid, 0)) 2, .sl a1 x.net.length, q2, .sl a3 x.line.length, q4] → Q .ret tm (((X ++ G).set H.length (some ⟨32, .wr, [L]⟩)).set (H.length + 2) (some ⟨32, .wr, [L]⟩)) := by
    intro G r hr tm t5 t4 L hL
    subst hL
    have hbr := boxReg d0 hI1 hid (Keep.app [] X G) r
    simp only [Box.enc, setReg, h2] at hbr
    exact (doneL _ _ 0 _ hr (blkAt_set (by simp; omega)) hbr).2.2.2 tm t5 t4
  have pr : ∀ p : Int, I64 p → R = pairD x s p → R = if (pairs x.reg s m p).2 = true then (setReg x (pairs x.reg s m p).1, 0) else (x, 3) := by
    intro p _ h
    rw [h, pairD, hmA]
  have e1 := fun G p hp => specPairs_is (hrdR.app G) hmsz x.reg s (by unfold I64; omega) p hp
  simp only [Reg.enc, Minder.enc] at e1
  have h00 : I64 0 := by unfold I64; omega
  have hsid : ∀ (G : Heap) (y : Blk), blkAt ((X ++ G).set H.length (some y)) H.length = some y := fun G y => blkAt_set (by simp; omega)
  have hsz2 : ∀ (G : Heap) (y : Option Blk), blkAt ((X ++ G).set H.length y) (H.length + 2) = blkAt (X ++ G) (H.length + 2) := fun G y => blkAt_set_ne (by omega)
  have j1 : H.length < X.length + (1 + 1) := by omega
  have j2 : H.length + 2 < X.length + (1 + 1) := by omega
  have j3 : H.length < X.length + 2 := by omega
  have j4 : H.length + 2 < X.length + 2 := by omega
  rcases hk with hk | hk | hk
  · rw [if_pos hk] at hD
    have hrun := fun G => specTake_is (hrdR.app G) hmsz x.reg s (by unfold I64; omega)
    simp only [Reg.enc, Minder.enc] at hrun
    obtain ⟨t, htt⟩ : ∃ t, t = takeR x.reg s m := ⟨_, rfl⟩
    have htD : R = if t.2.2 = false then (x, 3) else if t.2.1.log.length < x.line.length then (x, 4) else (setTwo (setReg x t.1) s ⟨t.2.1.up, t.2.1.life, t.2.1.epoch, t.2.1.log, x.line.length, t.2.1.acked, t.2.1.ackLife⟩, 0) := by rw [hD, takeD, hmA, ← htt]; rfl
    rw [← htt] at hrun
    simp [hk, hda, b0A, g1, bzA, g3, bDA, g4]
    refine stpL_runs (hrun _) ?_
    rintro _ _ ⟨l2, f2, rfl, o2, ⟨⟨G2, rfl⟩, hf2⟩⟩
    obtain ⟨a2, rfl, oa2⟩ := o2
    have j5 : H.length < X.length + (G2.length + (1 + (1 + 1))) := by omega
    have j6 : H.length + 2 < X.length + (G2.length + (1 + (1 + 1))) := by omega
    simp [Minder.enc, Reg.enc]
    cases htk : t.2.2
    · rw [if_pos htk] at htD
      simp [b0A, bzA, j5, j6]
      exact same _ 3 htD _ (by simp) (by simp)
    rw [if_neg (by simp [htk])] at htD
    simp [b0A, bzA, builtinV, pureB, lenV]
    refine selS_intro (fun hc => ?_) (fun hc => ?_)
    · simp at hc
      rw [if_pos hc] at htD
      simp [b0A, bzA, j5, j6]
      exact same _ 4 htD _ (by simp) (by simp)
    simp at hc
    rw [if_neg (by omega)] at htD
    have hsD : ∀ (G : Heap) (y : Option Blk), blkAt ((X ++ G).set H.length y) (H.length + 1) = blkAt (X ++ G) (H.length + 1) := fun G y => blkAt_set_ne (by omega)
    have hsb : ∀ (G : Heap) (y : Option Blk), blkAt ((X ++ G).set H.length y) bid = blkAt (X ++ G) bid := fun G y => blkAt_set_ne (by omega)
    have hsx : ∀ (G : Heap) (y : Option Blk) (k : Nat), blkAt ((X ++ G).set H.length y) (X.length + k) = blkAt (X ++ G) (X.length + k) := fun G y k => blkAt_set_ne (by omega)
    have hsx0 : ∀ (G : Heap) (y : Option Blk), blkAt ((X ++ G).set H.length y) X.length = blkAt (X ++ G) X.length := fun G y => blkAt_set_ne (by omega)
    have tkf : ∀ (G : Heap) (l2 : List Lf) (m2 : Minder) (r : Reg) (f2 : List Nat), IsMinder (X ++ G) l2 m2 f2 → (∀ i ∈ f2, X.length ≤ i) → R = (setTwo (setReg x r) s m2, 0) → ∀ tm : Ab.T, tm 5 = .int 0 → tm 4 = .ptr (H.length + 2) 0 0 →
        ∀ L, L = [.i .i64 x.id, .i .i64 x.ports, .i .i64 r.epoch, .i .i64 r.owner, .i .i64 r.pair, .sl (some (bid, 0)) 2, .sl a1 x.net.length, q2, .sl a3 x.line.length, q4] →
          Q .ret tm ((((X ++ G).set H.length (some ⟨32, .wr, [L]⟩)).set bid (some ⟨52, .wr, blo.rows.set s l2⟩)).set (H.length + 2) (some ⟨32, .wr, [L]⟩)) := by
      intro G l2 m2 r f2 hm2 hf2 hr tm t5 t4 L hL
      subst hL
      obtain ⟨fp', z1, z2, z3, z4, z5⟩ := hput (X ++ G) l2 m2 f2 (Keep.app [] X G) hm2 (fun i hi => .inr (hf2 i hi))
      have z2' : IsBox _ ((setTwo x s m2).enc (.sl (some (bid, 0)) x.two.length) (.sl a1 x.net.length) q2 (.sl a3 x.line.length) q4) _ fp' := z2
      have z := BoxTo.trans z4 z5 (boxReg (blkAt_len z1) z2' z3 (Keep.refl [] _) r)
      simp only [Box.enc, setReg, setTwo, h2] at z
      have hcomm : ∀ A C : Option Blk, ((X ++ G).set H.length A).set bid C = ((X ++ G).set bid C).set H.length A := fun A C => List.set_comm A C (Ne.symm hbne)
      rw [hcomm]
      have hlen := blkAt_len z1
      exact (doneL _ _ 0 _ hr (blkAt_set hlen) z).2.2.2 tm t5 t4
    have j7 : H.length < X.length + (G2.length + 3) := by omega
    have j8 : bid < X.length + (G2.length + (1 + (1 + 1))) := by omega
    have j9 : H.length + 1 < X.length + (G2.length + (1 + (1 + 1))) := by omega
    simp [b0A, bzA, bDA, hbbA, j5, j6, j7, j8, j9, hsid, hsz2, hsD, hsb, hsx, hsx0, builtinV, pureB, lenV, h2, indexAddrV, elemIs, hbe, hbm, hs2, hs0, hsl2, hrow, hda]
    simp [hse0, hse, hsid, hsz2, bzA, j5, j6, j7]
    have oa3 := oa2.app [some ⟨25, .wr, [[.i .i64 t.1.epoch, .i .i64 t.1.owner, .i .i64 t.1.pair]]⟩, some ⟨52, .wr, [[.b t.2.1.up, .i .i64 t.2.1.life, .i .i64 t.2.1.epoch, .sl a2 t.2.1.log.length, .i .i64 x.line.length, .i .i64 t.2.1.acked, .i .i64 t.2.1.ackLife]]⟩]
    simp only [List.append_assoc, List.cons_append, List.nil_append] at oa3
    exact tkf _ _ ⟨t.2.1.up, t.2.1.life, t.2.1.epoch, t.2.1.log, x.line.length, t.2.1.acked, t.2.1.ackLife⟩ t.1 f2 ⟨a2, rfl, oa3⟩ (fun i hi => by have := hf2 i hi; simp at this; omega) htD _ (by simp) (by simp) _ rfl
  · rw [if_neg (by omega), if_pos hk] at hD
    have hD2 := pr _ hal hD
    simp [hk, hda, b0A, g1, bzA, g3, bDA, g4, e1 _ _ hal]
    cases hp : (pairs x.reg s m m.ackLife).2
    · rw [if_neg (by simp [hp])] at hD2
      simp [b0A, bzA, j1, j2, j3, j4]
      exact same _ 3 hD2 _ (by simp) (by simp)
    · rw [if_pos hp] at hD2
      simp [b0A, bzA, j1, j2, j3, j4, hsid, hsz2]
      exact regp _ _ hD2 _ (by simp) (by simp) _ rfl
  · rw [if_neg (by omega), if_neg (by omega), if_pos hk] at hD
    have hD2 := pr _ h00 hD
    simp [hk, hda, b0A, g1, bzA, g3, bDA, g4, e1 _ _ h00]
    cases hp : (pairs x.reg s m 0).2
    · rw [if_neg (by simp [hp])] at hD2
      simp [b0A, bzA, j1, j2, j3, j4]
      exact same _ 3 hD2 _ (by simp) (by simp)
    · rw [if_pos hp] at hD2
      simp [b0A, bzA, j1, j2, j3, j4, hsid, hsz2]
      exact regp _ _ hD2 _ (by simp) (by simp) _ rfl

theorem l15Say {H : Heap} {l : List Lf} {x : Box} {fp : List Nat} (hI : IsBox H l x fp) (hok : Small x) (hxok : x.ok = true) :
    Runs env 119 [.agg l] H fun v H' => ∃ l', v = .tup [.agg l', .lf (.i .i64 (sayD x).2)] ∧ BoxVal H H' fp l' (sayD x).1 := by
  have hsz := hok.sz
  have h2 := hok.two
  have hlt := hI.lt
  have hid : H.length ∉ fp := fun h => by have := hlt _ h; omega
  obtain ⟨q0, q1, q2, q3, q4, rfl⟩ : ∃ q0 q1 q2 q3 q4, l = x.enc q0 q1 q2 q3 q4 := by
    obtain ⟨q0, q1, q2, q3, q4, _, _, _, _, _, rfl, -⟩ := hI
    exact ⟨q0, q1, q2, q3, q4, rfl⟩
  obtain ⟨R, hR⟩ : ∃ R, R = sayD x := ⟨_, rfl⟩
  rw [← hR]
  refine Runs.walk ok119 Tryz.func119 rfl (by simp [Tryz.f119]) fun Q hQ => ?_
  simp only [Tryz.f119, strip, stripL, stripI, stripG, chkT, tagsB, tagsL, tagD, addT, tagA, lookN, tagOp, elmT, ty22, ty26, ty27, ty28, ty29, ty30, ty41, ty53, ty56, Nat.reduceEqDiff, if_false, reduceIte, Option.getD_some, Option.getD_none, dstAt, dstOk, Nat.reduceLT, decide_true, if_true]
  have fin : ∀ (HX : Heap) (tm : Ab.T) (c : Int) (y : Box) (l' : List Lf), R = (y, c) → BoxVal H HX fp l' y → tm 3 = .int c → tm 2 = .ptr (H.length + 1) 0 0 → blkAt HX (H.length + 1) = some ⟨32, .wr, [l']⟩ → Q .ret tm HX := by
    intro HX tm c y l' h1 hv t5 t4 hb4
    have hL' := hv.len
    have hT' : l'.take l'.length = l' := List.take_length
    rw [hL'] at hT'
    refine hQ _ _ _ (by simp) ?_
    have hres : resT env.τ tm HX (Tryz.f119.results.toList) = some [W.agg l', W.lf (.i .i64 c)] := by simp [Tryz.f119, t4, t5, hb4, hL', hT']
    rw [hres, optK_some, h1]
    exact ⟨_, rfl, hv.leave (by simp)⟩
  simp [Box.enc, Deed.enc, Wire.enc]
  obtain ⟨X, hX⟩ : ∃ X : Heap, X = H ++ [some ⟨32, .wr, [[.i .i64 x.id, .i .i64 x.ports, .i .i64 x.reg.epoch, .i .i64 x.reg.owner, .i .i64 x.reg.pair, q0, q1, q2, q3, q4]]⟩, some ⟨32, .wr, [[.i .i64 0, .i .i64 0, .i .i64 0, .i .i64 0, .i .i64 0, .sl none 0, .sl none 0, .sl none 0, .sl none 0, .sl none 0]]⟩] := ⟨_, rfl⟩
  have b0 : blkAt X H.length = some ⟨32, .wr, [[.i .i64 x.id, .i .i64 x.ports, .i .i64 x.reg.epoch, .i .i64 x.reg.owner, .i .i64 x.reg.pair, q0, q1, q2, q3, q4]]⟩ := by rw [hX]; simp
  have d0 := blkAt_len b0
  have bz : blkAt X (H.length + 1) = some ⟨32, .wr, [[.i .i64 0, .i .i64 0, .i .i64 0, .i .i64 0, .i .i64 0, .sl none 0, .sl none 0, .sl none 0, .sl none 0, .sl none 0]]⟩ := by rw [hX]; simp
  have dz := blkAt_len bz
  rw [← hX]
  have kX : Keep [] H X := by rw [hX]; exact Keep.app _ _ _
  have hI1 : IsBox X (x.enc q0 q1 q2 q3 q4) x fp := hI.keep kX (by simp)
  have val : ∀ (HX : Heap) (y : Box), BoxTo X HX H.length fp y → ∃ l', blkAt HX H.length = some ⟨32, .wr, [l']⟩ ∧ l'.length = 10 ∧ l'.take 10 = l' ∧ BoxVal H (HX.set (H.length + 1) (some ⟨32, .wr, [l']⟩)) fp l' y ∧ Keep (H.length :: fp) X HX := by
    intro HX y h
    rw [hX] at h ⊢
    exact h.val hlt (by omega) (by simp)
  have off : ∀ k : Nat, 0 < k → H.length + k ∉ H.length :: fp := fun k hk h => by
    rcases List.mem_cons.1 h with h | h
    · omega
    · have := hlt _ h; omega
  have done : ∀ (HX : Heap) (y : Box) (c : Int) (_ : R = (y, c)) (_ : BoxTo X HX H.length fp y), ∃ l', blkAt HX H.length = some ⟨32, .wr, [l']⟩ ∧ l'.length = 10 ∧ l'.take 10 = l' ∧ H.length < HX.length ∧ H.length + 1 < HX.length ∧ blkAt HX (H.length + 1) = some ⟨32, .wr, [[.i .i64 0, .i .i64 0, .i .i64 0, .i .i64 0, .i .i64 0, .sl none 0, .sl none 0, .sl none 0, .sl none 0, .sl none 0]]⟩ ∧ ∀ tm : Ab.T, tm 3 = .int c → tm 2 = .ptr (H.length + 1) 0 0 → Q .ret tm (HX.set (H.length + 1) (some ⟨32, .wr, [l']⟩)) := by
    intro HX y c h1 h
    obtain ⟨l', v1, v2, v3, v4, v5⟩ := val HX y h
    have hz := v5.blk bz (off _ (by omega))
    have hzl := blkAt_len hz
    exact ⟨l', v1, v2, v3, blkAt_len v1, hzl, hz, fun tm t5 t4 => fin _ tm c y l' h1 v4 t5 t4 (blkAt_set hzl)⟩
  have doneL : ∀ (HX : Heap) (y : Box) (c : Int) (L : List Lf) (_ : R = (y, c)) (_ : blkAt HX H.length = some ⟨32, .wr, [L]⟩) (_ : BoxTo X HX H.length fp y), H.length < HX.length ∧ H.length + 1 < HX.length ∧ blkAt HX (H.length + 1) = some ⟨32, .wr, [[.i .i64 0, .i .i64 0, .i .i64 0, .i .i64 0, .i .i64 0, .sl none 0, .sl none 0, .sl none 0, .sl none 0, .sl none 0]]⟩ ∧ ∀ tm : Ab.T, tm 3 = .int c → tm 2 = .ptr (H.length + 1) 0 0 → Q .ret tm (HX.set (H.length + 1) (some ⟨32, .wr, [L]⟩)) := by
    intro HX y c L h1 hb h
    obtain ⟨l', w1, w2, w3, w4, w5, w6, w7⟩ := done HX y c h1 h
    rw [hb] at w1
    injection w1 with w1
    simp only [Blk.mk.injEq, List.cons.injEq, and_true, true_and] at w1
    subst w1
    exact ⟨w4, w5, w6, w7⟩
  have same : ∀ (G : Heap) (c : Int) (_ : R = (x, c)) (tm : Ab.T), tm 3 = .int c → tm 2 = .ptr (H.length + 1) 0 0 → Q .ret tm ((X ++ G).set (H.length + 1) (some ⟨32, .wr, [[.i .i64 x.id, .i .i64 x.ports, .i .i64 x.reg.epoch, .i .i64 x.reg.owner, .i .i64 x.reg.pair, q0, q1, q2, q3, q4]]⟩)) := by
    intro G c h1 tm t5 t4
    obtain ⟨l', w1, -, -, -, -, -, w7⟩ := done (X ++ G) x c h1 (BoxTo.app b0 hI1 hid G)
    rw [blkAt_app b0] at w1
    injection w1 with w1
    simp only [Blk.mk.injEq, List.cons.injEq, and_true, true_and] at w1
    subst w1
    exact w7 tm t5 t4
  have same0 : ∀ (c : Int) (_ : R = (x, c)) (tm : Ab.T), tm 3 = .int c → tm 2 = .ptr (H.length + 1) 0 0 → Q .ret tm (X.set (H.length + 1) (some ⟨32, .wr, [[.i .i64 x.id, .i .i64 x.ports, .i .i64 x.reg.epoch, .i .i64 x.reg.owner, .i .i64 x.reg.pair, q0, q1, q2, q3, q4]]⟩)) := by
    intro c h1 tm t5 t4
    have := same [] c h1 tm t5 t4
    rwa [List.append_nil] at this
  have hI2 := hI1
  obtain ⟨p0, p1, p2, p3, p4, f0, f1, f2, f3, f4, hle, i0, ⟨a1, hp1, o1⟩, i2, ⟨a3, hp3, o3⟩, i4, rfl, hnd⟩ := hI2
  simp only [Box.enc, List.cons.injEq, and_true, true_and] at hle
  obtain ⟨rfl, rfl, rfl, rfl, rfl⟩ := hle
  subst hp1
  subst hp3
  have i3 : IsInS X (.sl a3 x.line.length) x.line f3 := ⟨a3, rfl, o3⟩
  have e1 := l15Who (hI1.rd) h2 (by omega)
  simp only [Box.enc] at e1
  simp [e1]
  by_cases hneg : whoM x < 0
  · simp [hneg, b0, d0, bz, dz]
    exact same0 3 (by rw [hR, sayD, if_pos (.inl hneg)]) _ (by simp) (by simp)
  obtain ⟨s, hs2, hw⟩ : ∃ s : Nat, s < 2 ∧ whoM x = (s : Int) := by
    rcases whoM_cases x with ⟨h, -⟩ | ⟨h, -⟩ | ⟨h, -⟩
    · exact ⟨0, by omega, h⟩
    · exact ⟨1, by omega, h⟩
    · omega
  have hs : s < x.two.length := by omega
  rw [hw] at hneg ⊢
  obtain ⟨bid, blo, r1, r2, r3, r4, row, fs, hl, hbne, hbl, hbb, hbe, hbm, hrow, hrd, hbfs, hidfs, hput⟩ := boxTwoOwn b0 hI1 hid hs
  simp only [Box.enc, List.cons.injEq, and_true, true_and] at hl
  obtain ⟨rfl, rfl, rfl, rfl, rfl⟩ := hl
  have hbH : bid < H.length := by
    have h1 := hI.rd
    obtain ⟨_, _, _, _, _, e1, ⟨a0, rws, e2, hss, hll, _⟩, -⟩ := h1
    simp only [Box.enc, List.cons.injEq, and_true, true_and] at e1
    obtain ⟨e1, -⟩ := e1
    rw [e2] at e1
    injection e1 with e1
    rw [← e1] at hss
    exact hss.len (by rintro rfl; simp at hll; omega)
  have b0s := b0
  rw [h2] at b0 same same0
  obtain ⟨m, hm⟩ : ∃ m, m = x.two[s] := ⟨_, rfl⟩
  rw [← hm] at hrd
  have hmx : m ∈ x.two := by rw [hm]; exact List.getElem_mem hs
  have hmlog := hok.log m hmx
  have hmsz : m.sz ≤ 1048576 := by unfold Minder.sz; omega
  have hmA : mAt x (s : Int) = m := by simp [mAt, List.getD, List.getElem?_eq_getElem hs, hm]
  have hrdR := hrd.rd
  obtain ⟨a, rfl, oa⟩ := hrd
  have hrow' := hrow
  simp only [Minder.enc] at hrow
  have hs0 : (0 : Int) ≤ s := by omega
  have hsl2 : (s : Int) < 2 := by omega
  have hrl : s < blo.rows.length := (List.getElem?_eq_some_iff.1 hrow).1
  have hse : ∀ (Y : Heap) (y : Option Blk) (k : Nat), blkAt (List.set Y bid y) (H.length + k) = blkAt Y (H.length + k) := fun Y y k => blkAt_set_ne (by omega)
  have hse0 : ∀ (Y : Heap) (y : Option Blk), blkAt (List.set Y bid y) H.length = blkAt Y H.length := fun Y y => blkAt_set_ne (by omega)
  have hmi : mindsAt x (s : Int) = minds x.reg s m := by
    rw [mindsAt_s h2 hs2]
    have := hmA
    simp only [mAt, Int.toNat_natCast] at this
    rw [this]
  have hrok : x.reg.ok = true := by simp only [Box.ok, Bool.and_eq_true] at hxok; exact hxok.1.1.1.1.1.1.1.2
  have hp64 : I64 x.reg.pair := by simp [Reg.ok] at hrok; unfold I64; omega
  have mok := (Box.right hxok).ok m hmx
  have e2 := specReady_is hrdR hmsz x.reg.pair hp64
  simp only [Minder.enc] at e2
  simp [hneg, b0, d0, indexAddrV, elemIs, hbb, hbl, hbe, hs2, hs0, hsl2, hrow, h2, e2]
  cases hrdy : ready m x.reg.pair
  · simp [b0, d0, bz, dz]
    exact same0 3 (by rw [hR, sayD, hw, if_pos (.inr (by rw [hmA]; exact hrdy))]) _ (by simp) (by simp)
  obtain ⟨k, hk⟩ : ∃ k : Nat, m.said = (k : Int) := ⟨m.said.toNat, by simp [Minder.ok] at mok; omega⟩
  have hkl : k < m.log.length := by simp [ready] at hrdy; omega
  have hm64 : I64 m.said := by unfold I64; rw [hk]; unfold Minder.sz at hmsz; omega
  have hbr : (bridgeNew x.id x.ports).2 = true := by simp only [Box.ok, Bool.and_eq_true] at hxok; exact hxok.1.1.1.1.1.1.1.1
  have hbn := bridgeNew_yes hbr
  simp [b0, d0, indexAddrV, elemIs, hbb, hbl, hbe, hs2, hs0, hsl2, hrow, h2]
  refine stpL_runs_f (specSaying_is (log := m.log) ⟨a, rfl, oa.sl⟩ hmsz x.id (by unfold I64; omega) x.ports (by unfold I64; omega) m.said hm64) (by rintro _ _ ⟨_, _, _, _, hf⟩; exact hf.1) ?_
  rintro _ _ ⟨_, fq, rfl, oq, ⟨⟨G2, rfl⟩, hfq⟩⟩
  have hsl8 := saying_len x.id x.ports m.log m.said
  obtain ⟨L, hL⟩ : ∃ L, L = saying x.id x.ports m.log m.said := ⟨_, rfl⟩
  rw [← hL] at oq hsl8
  simp
  have hacc := specAccept_is (hI1.app G2).rd (by omega) oq.rd (by omega) (s : Int) (by unfold I64; omega)
  simp only [Box.enc, h2] at hacc
  refine stpL_runs_f hacc (by rintro _ _ ⟨_, _, _, _, hf⟩; exact hf.1) ?_
  rintro _ _ ⟨l3, f3', rfl, o4, ⟨⟨G3, rfl⟩, hf4⟩⟩
  have hax : accept x (s : Int) L = acceptB x L := by
    have := whoM_cases x
    rw [accept, if_pos]
    rw [hmi]
    have hc : minds x.reg s m = true := by
      rcases whoM_cases x with ⟨h, hh⟩ | ⟨h, hh⟩ | ⟨h, -⟩
      · obtain rfl : s = 0 := by omega
        have := mindsAt_s h2 (s := 0) (by omega)
        rw [hmi] at this
        rw [this]; exact hh
      · obtain rfl : s = 1 := by omega
        have := mindsAt_s h2 (s := 1) (by omega)
        rw [hmi] at this
        rw [this]; exact hh
      · omega
    exact hc
  rw [hax] at o4
  have hL3 := o4.len
  have hT3 : l3.take l3.length = l3 := List.take_length
  rw [hL3] at hT3
  have valF : ∀ (Y3 : Heap) (y : Box) (l6 : List Lf) (g7 : List Nat), IsBox Y3 l6 y g7 → (∀ i ∈ g7, X.length ≤ i) → Keep [] X Y3 → R = (y, 0) → ∀ tm : Ab.T, tm 3 = .int 0 → tm 2 = .ptr (H.length + 1) 0 0 → Q .ret tm (Y3.set (H.length + 1) (some ⟨32, .wr, [l6]⟩)) := by
    intro Y3 y l6 g7 ho hg hk hr tm t5 t4
    have hlX := hk.1
    refine fin _ tm 0 y l6 hr ⟨g7, ho.keep (Keep.set _ _) (fun i hi hj => by have := hg i hi; simp at hj; omega), ?_, fun i hi => .inr (by have := hg i hi; omega)⟩ t5 t4 (blkAt_set (by omega))
    exact ((kX.next hk (by simp)).next (Keep.set _ _) (by simp)).more (by simp)
  have o4' := o4.app [some ⟨32, .wr, [l3]⟩]
  simp only [List.append_assoc] at o4'
  have hlt4 := o4.lt
  simp [hL3, hT3]
  obtain ⟨K6, hK6⟩ : ∃ K6, K6 = X.length + (G2.length + G3.length) := ⟨_, rfl⟩
  obtain ⟨Y, hY⟩ : ∃ Y : Heap, Y = X ++ (G2 ++ (G3 ++ [some ⟨32, .wr, [l3]⟩])) := ⟨_, rfl⟩
  have y6 : blkAt Y K6 = some ⟨32, .wr, [l3]⟩ := by rw [hY, hK6]; simp
  have kXY : Keep [] X Y := by rw [hY]; exact Keep.app _ _ _
  have o6 : IsBox Y l3 (acceptB x L) f3' := by rw [hY]; exact o4'
  have hgX : ∀ i ∈ f3', X.length ≤ i := fun i hi => by have := hf4 i hi; simp at this; omega
  have hK6f : K6 ∉ f3' := fun h => by have := hlt4 _ h; simp at this; omega
  have hK6X : X.length ≤ K6 := by omega
  rw [← hY, ← hK6]
  have hsD0 : sayD x = (if (x.line.length : Int) < m.said + 1 then setLine (setTwo (acceptB x L) s ⟨m.up, m.life, m.epoch, m.log, k + 1, m.acked, m.ackLife⟩) (x.line ++ [m.log.getD m.said.toNat default]) else setTwo (acceptB x L) s ⟨m.up, m.life, m.epoch, m.log, k + 1, m.acked, m.ackLife⟩, 0) := by
    rw [sayD, if_neg (by rw [hw, hmA, hrdy]; simp)]
    have hL' : saying x.id x.ports m.log k = L := by rw [hL, hk]
    simp only [hw, hmA, hk, hL', Int.toNat_natCast]
  rw [← hR] at hsD0
  have b0Y := kXY.blk b0 (by simp)
  have hbbY := kXY.blk hbb (by simp)
  have dbY := blkAt_len hbbY
  have d0Y := blkAt_len b0Y
  clear hY hK6 o4 o4' hlt4
  have hl3 : ∃ (a8 : Option (Nat × Nat)), List.take 1 (List.drop 8 l3) = [.sl a8 x.line.length] := by
    obtain ⟨_, _, _, _, _, _, _, _, _, _, rfl, _, _, _, ⟨a8, rfl, _⟩, _⟩ := o6
    exact ⟨a8, rfl⟩
  obtain ⟨a8, hl8⟩ := hl3
  simp [hl8, builtinV, pureB, lenV, hk]
  refine selS_intro (fun hc => ?_) (fun hc => ?_)
  · simp at hc
    have hgd : m.log.getD m.said.toNat default = m.log[k] := by rw [hk, Int.toNat_natCast]; simp [List.getD, List.getElem?_eq_getElem hkl]
    rw [if_pos (by rw [hk]; omega), hgd] at hsD0
    obtain ⟨n0, n1, n2, n3, n4, e0, e1', e2', e3, e4, rfl, v0, v1, v2, ⟨a9, rfl, v3⟩, v4, rfl, hndv⟩ := o6
    simp only [Box.enc] at y6 hl8
    have hln9 : (acceptB x L).line = x.line := rfl
    rw [hln9] at v3
    have hbe9 : (acceptB x L).two.length = 2 := h2
    have dK9 := blkAt_len y6
    obtain ⟨id3, r3, bl3, rfl, hb3, hbe4, hrw3⟩ := (oa.keep kXY (by simp)).sl k _ (by simp [hkl]; rfl)
    have hid3 := blkAt_len hb3
    have hgl : (k : Int) < m.log.length := by omega
    simp [y6, dK9, hln9, b0Y, d0Y, hbbY, dbY, hbe, hs2, hs0, hsl2, hrow, h2, builtinV, pureB, lenV, indexAddrV, elemIs, hb3, hbe4, hid3, hrw3, hkl, hgl, In.enc]
    have hline60 : x.line.length ≤ 61 := hok.line
    refine stpL_append (e := 64) (rows := x.line.map In.enc) (ys := [m.log[k].enc]) (v3.app _) (Sl.of (by simp [In.enc])) rfl rfl rfl (by simp) (by simp; omega) (by simp) rfl fun a'' H'' fp'' ho'' hk'' hf'' => ?_
    have k2 : Keep e3 Y H'' := hk''.base
    have hi3 : K6 ∉ e3 := fun h => hK6f (by simp [h])
    have b2 := k2.blk y6 hi3
    have d2 := blkAt_len b2
    have hf9 : ∀ i ∈ fp'', i ∈ e3 ∨ Y.length ≤ i := fun i hi => (hf'' i hi).imp (fun h => h) (fun h => by rw [List.length_append] at h; omega)
    have hq : IsInS H'' (.sl a'' (x.line.length + 1)) (x.line ++ [m.log[k]]) fp'' := ⟨a'', by simp, by simpa using ho''⟩
    have hbx := boxLine (x := acceptB x L) dK9 hK6f v0 v1 v2 v4 hndv k2 hq hf9
    simp [b2, d2]
    simp only [Box.enc] at hbx
    obtain ⟨Y1, hY1⟩ : ∃ Y1 : Heap, Y1 = H''.set K6 (some ⟨32, .wr, [[.i .i64 (acceptB x L).id, .i .i64 (acceptB x L).ports, .i .i64 (acceptB x L).reg.epoch, .i .i64 (acceptB x L).reg.owner, .i .i64 (acceptB x L).reg.pair, n0, n1, n2, .sl a'' (x.line.length + 1), n4]]⟩) := ⟨_, rfl⟩
    rw [← hY1] at hbx ⊢
    clear hY1
    obtain ⟨l3, g3, y7, o7, hK7f, kYY, hg3⟩ := hbx
    have kXY1 := kXY.next kYY (fun i hi => by
      rcases List.mem_cons.1 hi with rfl | hi
      · exact hK6X
      · exact hgX i hi)
    have hgX1 : ∀ i ∈ g3, X.length ≤ i := fun i hi => by
      rcases hg3 i hi with h | h
      · exact hgX i h
      · have := kXY.1; omega
    clear y6 dK9 hi3 b2 v0 v1 v2 v3 v4 k2 hq hgX hK6f kXY hb3 hid3 b0Y hbbY dbY d0Y kYY hg3 hf9 hf'' hk'' ho'' hrw3 hndv d2
    have hsD : R = (setTwo (setLine (acceptB x L) (x.line ++ [m.log[k]])) s ⟨m.up, m.life, m.epoch, m.log, k + 1, m.acked, m.ackLife⟩, 0) := hsD0
    have dK := blkAt_len y7
    obtain ⟨bid6, blo7, u1, u2, u3, u4, row6, fs6, hl6, hbne6, hbl6, hbb6, hbe6, hbm6, hrow6, hrd6, hbfs6, hidfs6, hput6⟩ := boxTwoOwn y7 o7 hK7f (s := s) hs
    subst hl6
    have hm6 : (setLine (acceptB x L) (x.line ++ [m.log[k]])).two[s]'(by exact hs) = m := hm.symm
    rw [hm6] at hrd6
    obtain ⟨a6, rfl, oa6⟩ := hrd6
    have hbe3 : (setLine (acceptB x L) (x.line ++ [m.log[k]])).two.length = 2 := h2
    have y7' := y7
    simp only [Box.enc, hbe3] at y7'
    simp only [Minder.enc] at hrow6
    have hrl6 : s < blo7.rows.length := (List.getElem?_eq_some_iff.1 hrow6).1
    have hw1 : IntKind.i64.wrap ((k : Int) + 1) = (k : Int) + 1 := wrap64 (by omega) (by unfold Minder.sz at hmsz; omega)
    obtain ⟨g7, z1, z2, z3, z4, z5⟩ := hput6 Y1 [.b m.up, .i .i64 m.life, .i .i64 m.epoch, .sl a6 m.log.length, .i .i64 (k + 1), .i .i64 m.acked, .i .i64 m.ackLife] ⟨m.up, m.life, m.epoch, m.log, k + 1, m.acked, m.ackLife⟩ fs6 (Keep.refl _ _) ⟨a6, rfl, oa6⟩ (fun i hi => .inl hi)
    have z1' := z1
    simp only [Box.enc, hbe3] at z1' z2
    have dz1 := blkAt_len z1
    have kz := kXY1.next z4 (fun i hi => by
      rcases List.mem_cons.1 hi with rfl | hi
      · exact hK6X
      · exact hgX1 i hi)
    have bz7 := kz.blk bz (by simp)
    have dz7 := blkAt_len bz7
    simp [y7', dK, indexAddrV, elemIs, hbb6, hbl6, hbe6, hbm6, hs2, hs0, hsl2, hrow6, hw1]
    simp [z1', dz1, bz7, dz7]
    refine valF _ _ _ g7 z2 (fun i hi => by
      rcases z5 i hi with h | h
      · exact hgX1 i h
      · have := kXY1.1; omega) kz hsD _ ?_ ?_
    · simp
    · simp

  · simp at hc
    rw [if_neg (by rw [hk]; omega)] at hsD0
    have hsD := hsD0
    simp
    have dK := blkAt_len y6
    obtain ⟨bid6, blo6, u1, u2, u3, u4, row6, fs6, hl6, hbne6, hbl6, hbb6, hbe6, hbm6, hrow6, hrd6, hbfs6, hidfs6, hput6⟩ := boxTwoOwn y6 o6 hK6f (s := s) hs
    subst hl6
    have hm6 : (acceptB x L).two[s]'(by exact hs) = m := hm.symm
    rw [hm6] at hrd6
    obtain ⟨a6, rfl, oa6⟩ := hrd6
    have hbe3 : (acceptB x L).two.length = 2 := h2
    have y6' := y6
    simp only [Box.enc, hbe3] at y6'
    simp only [Minder.enc] at hrow6
    have hrl6 : s < blo6.rows.length := (List.getElem?_eq_some_iff.1 hrow6).1
    have hw1 : IntKind.i64.wrap ((k : Int) + 1) = (k : Int) + 1 := wrap64 (by omega) (by unfold Minder.sz at hmsz; omega)
    obtain ⟨g7, z1, z2, z3, z4, z5⟩ := hput6 Y [.b m.up, .i .i64 m.life, .i .i64 m.epoch, .sl a6 m.log.length, .i .i64 (k + 1), .i .i64 m.acked, .i .i64 m.ackLife] ⟨m.up, m.life, m.epoch, m.log, k + 1, m.acked, m.ackLife⟩ fs6 (Keep.refl _ _) ⟨a6, rfl, oa6⟩ (fun i hi => .inl hi)
    have z1' := z1
    simp only [Box.enc, hbe3] at z1' z2
    have dz1 := blkAt_len z1
    have kz := kXY.next z4 (fun i hi => by
      rcases List.mem_cons.1 hi with rfl | hi
      · exact hK6X
      · exact hgX i hi)
    have bz7 := kz.blk bz (by simp)
    have dz7 := blkAt_len bz7
    simp [y6', dK, indexAddrV, elemIs, hbb6, hbl6, hbe6, hbm6, hs2, hs0, hsl2, hrow6, hw1]
    simp [z1', dz1, bz7, dz7]
    refine valF _ _ _ g7 z2 (fun i hi => by
      rcases z5 i hi with h | h
      · exact hgX i h
      · have := kXY.1; omega) kz hsD _ ?_ ?_
    · simp
    · simp

theorem l15One {H : Heap} {l : List Lf} {x : Box} {fp : List Nat} (hI : IsBox H l x fp) (hok : Small x) (hxok : x.ok = true) (d : Deed) (hkd : 1 ≤ d.kind ∧ d.kind ≤ 12) :
    Runs env 88 [.agg l, .agg d.enc] H fun v H' => ∃ l', v = .tup [.agg l', .lf (.i .i64 (deedD x d).2)] ∧ BoxVal H H' fp l' (deedD x d).1 := by
  have hsz := hok.sz
  have h2 := hok.two
  have hlt := hI.lt
  have hid : H.length ∉ fp := fun h => by have := hlt _ h; omega
  obtain ⟨q0, q1, q2, q3, q4, rfl⟩ : ∃ q0 q1 q2 q3 q4, l = x.enc q0 q1 q2 q3 q4 := by
    obtain ⟨q0, q1, q2, q3, q4, _, _, _, _, _, rfl, -⟩ := hI
    exact ⟨q0, q1, q2, q3, q4, rfl⟩
  obtain ⟨R, hR⟩ : ∃ R, R = deedD x d := ⟨_, rfl⟩
  rw [← hR]
  refine Runs.walk ok88 Tryz.func88 rfl (by simp [Tryz.f88]) fun Q hQ => ?_
  simp only [Tryz.f88, strip, stripL, stripI, stripG, chkT, tagsB, tagsL, tagD, addT, tagA, lookN, tagOp, elmT, ty22, ty26, ty27, ty28, ty29, ty30, ty41, ty53, ty56, Nat.reduceEqDiff, if_false, reduceIte, Option.getD_some, Option.getD_none, dstAt, dstOk, Nat.reduceLT, decide_true, if_true]
  have fin : ∀ (HX : Heap) (tm : Ab.T) (c : Int) (y : Box) (l' : List Lf), R = (y, c) → BoxVal H HX fp l' y → tm 5 = .int c → tm 4 = .ptr (H.length + 2) 0 0 → blkAt HX (H.length + 2) = some ⟨32, .wr, [l']⟩ → Q .ret tm HX := by
    intro HX tm c y l' h1 hv t5 t4 hb4
    have hL' := hv.len
    have hT' : l'.take l'.length = l' := List.take_length
    rw [hL'] at hT'
    refine hQ _ _ _ (by simp) ?_
    have hres : resT env.τ tm HX (Tryz.f88.results.toList) = some [W.agg l', W.lf (.i .i64 c)] := by simp [Tryz.f88, t4, t5, hb4, hL', hT']
    rw [hres, optK_some, h1]
    exact ⟨_, rfl, hv.leave (by simp)⟩
  simp [Box.enc, Deed.enc, Wire.enc]
  obtain ⟨X, hX⟩ : ∃ X : Heap, X = H ++ [some ⟨32, .wr, [[.i .i64 x.id, .i .i64 x.ports, .i .i64 x.reg.epoch, .i .i64 x.reg.owner, .i .i64 x.reg.pair, q0, q1, q2, q3, q4]]⟩, some ⟨66, .wr, [[.i .i64 d.kind, .i .i64 d.a, .i .i64 d.inn.kind, .i .i64 d.inn.port, .i .i64 d.inn.vec.root, .i .i64 d.inn.vec.cost, .i .i64 d.inn.vec.bridge, .i .i64 d.inn.vec.port, .i .i64 d.inn.hops, .b d.inn.up]]⟩, some ⟨32, .wr, [[.i .i64 0, .i .i64 0, .i .i64 0, .i .i64 0, .i .i64 0, .sl none 0, .sl none 0, .sl none 0, .sl none 0, .sl none 0]]⟩] := ⟨_, rfl⟩
  have b0 : blkAt X H.length = some ⟨32, .wr, [[.i .i64 x.id, .i .i64 x.ports, .i .i64 x.reg.epoch, .i .i64 x.reg.owner, .i .i64 x.reg.pair, q0, q1, q2, q3, q4]]⟩ := by rw [hX]; simp
  have d0 := blkAt_len b0
  have bz : blkAt X (H.length + 2) = some ⟨32, .wr, [[.i .i64 0, .i .i64 0, .i .i64 0, .i .i64 0, .i .i64 0, .sl none 0, .sl none 0, .sl none 0, .sl none 0, .sl none 0]]⟩ := by rw [hX]; simp
  have dz := blkAt_len bz
  have bD : blkAt X (H.length + 1) = some ⟨66, .wr, [[.i .i64 d.kind, .i .i64 d.a, .i .i64 d.inn.kind, .i .i64 d.inn.port, .i .i64 d.inn.vec.root, .i .i64 d.inn.vec.cost, .i .i64 d.inn.vec.bridge, .i .i64 d.inn.vec.port, .i .i64 d.inn.hops, .b d.inn.up]]⟩ := by rw [hX]; simp
  have dD := blkAt_len bD
  rw [← hX]
  have kX : Keep [] H X := by rw [hX]; exact Keep.app _ _ _
  have hI1 : IsBox X (x.enc q0 q1 q2 q3 q4) x fp := hI.keep kX (by simp)
  have val : ∀ (HX : Heap) (y : Box), BoxTo X HX H.length fp y → ∃ l', blkAt HX H.length = some ⟨32, .wr, [l']⟩ ∧ l'.length = 10 ∧ l'.take 10 = l' ∧ BoxVal H (HX.set (H.length + 2) (some ⟨32, .wr, [l']⟩)) fp l' y ∧ Keep (H.length :: fp) X HX := by
    intro HX y h
    rw [hX] at h ⊢
    exact h.val hlt (by omega) (by simp)
  have off : ∀ k : Nat, 0 < k → H.length + k ∉ H.length :: fp := fun k hk h => by
    rcases List.mem_cons.1 h with h | h
    · omega
    · have := hlt _ h; omega
  have done : ∀ (HX : Heap) (y : Box) (c : Int) (_ : R = (y, c)) (_ : BoxTo X HX H.length fp y), ∃ l', blkAt HX H.length = some ⟨32, .wr, [l']⟩ ∧ l'.length = 10 ∧ l'.take 10 = l' ∧ H.length < HX.length ∧ H.length + 2 < HX.length ∧ blkAt HX (H.length + 2) = some ⟨32, .wr, [[.i .i64 0, .i .i64 0, .i .i64 0, .i .i64 0, .i .i64 0, .sl none 0, .sl none 0, .sl none 0, .sl none 0, .sl none 0]]⟩ ∧ ∀ tm : Ab.T, tm 5 = .int c → tm 4 = .ptr (H.length + 2) 0 0 → Q .ret tm (HX.set (H.length + 2) (some ⟨32, .wr, [l']⟩)) := by
    intro HX y c h1 h
    obtain ⟨l', v1, v2, v3, v4, v5⟩ := val HX y h
    have hz := v5.blk bz (off _ (by omega))
    have hzl := blkAt_len hz
    exact ⟨l', v1, v2, v3, blkAt_len v1, hzl, hz, fun tm t5 t4 => fin _ tm c y l' h1 v4 t5 t4 (blkAt_set hzl)⟩
  have doneL : ∀ (HX : Heap) (y : Box) (c : Int) (L : List Lf) (_ : R = (y, c)) (_ : blkAt HX H.length = some ⟨32, .wr, [L]⟩) (_ : BoxTo X HX H.length fp y), H.length < HX.length ∧ H.length + 2 < HX.length ∧ blkAt HX (H.length + 2) = some ⟨32, .wr, [[.i .i64 0, .i .i64 0, .i .i64 0, .i .i64 0, .i .i64 0, .sl none 0, .sl none 0, .sl none 0, .sl none 0, .sl none 0]]⟩ ∧ ∀ tm : Ab.T, tm 5 = .int c → tm 4 = .ptr (H.length + 2) 0 0 → Q .ret tm (HX.set (H.length + 2) (some ⟨32, .wr, [L]⟩)) := by
    intro HX y c L h1 hb h
    obtain ⟨l', w1, w2, w3, w4, w5, w6, w7⟩ := done HX y c h1 h
    rw [hb] at w1
    injection w1 with w1
    simp only [Blk.mk.injEq, List.cons.injEq, and_true, true_and] at w1
    subst w1
    exact ⟨w4, w5, w6, w7⟩
  have same : ∀ (G : Heap) (c : Int) (_ : R = (x, c)) (tm : Ab.T), tm 5 = .int c → tm 4 = .ptr (H.length + 2) 0 0 → Q .ret tm ((X ++ G).set (H.length + 2) (some ⟨32, .wr, [[.i .i64 x.id, .i .i64 x.ports, .i .i64 x.reg.epoch, .i .i64 x.reg.owner, .i .i64 x.reg.pair, q0, q1, q2, q3, q4]]⟩)) := by
    intro G c h1 tm t5 t4
    obtain ⟨l', w1, -, -, -, -, -, w7⟩ := done (X ++ G) x c h1 (BoxTo.app b0 hI1 hid G)
    rw [blkAt_app b0] at w1
    injection w1 with w1
    simp only [Blk.mk.injEq, List.cons.injEq, and_true, true_and] at w1
    subst w1
    exact w7 tm t5 t4
  have same0 : ∀ (c : Int) (_ : R = (x, c)) (tm : Ab.T), tm 5 = .int c → tm 4 = .ptr (H.length + 2) 0 0 → Q .ret tm (X.set (H.length + 2) (some ⟨32, .wr, [[.i .i64 x.id, .i .i64 x.ports, .i .i64 x.reg.epoch, .i .i64 x.reg.owner, .i .i64 x.reg.pair, q0, q1, q2, q3, q4]]⟩)) := by
    intro c h1 tm t5 t4
    have := same [] c h1 tm t5 t4
    rwa [List.append_nil] at this
  have sub : ∀ (HZ : Heap) (lz : List Lf) (y : Box), BoxVal X HZ fp lz y → lz.length = 10 ∧ lz.take 10 = lz ∧ blkAt HZ (H.length + 2) = some ⟨32, .wr, [[.i .i64 0, .i .i64 0, .i .i64 0, .i .i64 0, .i .i64 0, .sl none 0, .sl none 0, .sl none 0, .sl none 0, .sl none 0]]⟩ ∧ H.length + 2 < HZ.length ∧ True ∧ ∀ (G : Heap) (c : Int), R = (y, c) → ∀ tm : Ab.T, tm 5 = .int c → tm 4 = .ptr (H.length + 2) 0 0 → Q .ret tm (HZ.set (H.length + 2) (some ⟨32, .wr, [lz]⟩) ++ G) := by
    intro HZ lz y bv
    have hl := bv.len
    obtain ⟨fp', z1, z2, z3⟩ := bv
    have hzz := z2.blk bz (fun h => off 2 (by omega) (by simp [h]))
    have dzz := blkAt_len hzz
    refine ⟨hl, by rw [← hl]; exact List.take_length, hzz, dzz, trivial, fun G c hr tm t5 t4 => ?_⟩
    have hnf : ∀ i ∈ fp', i ∉ [H.length + 2] := fun i hi hj => by
      simp at hj
      rcases z3 i hi with h | h
      · have := hlt i h; omega
      · omega
    refine fin _ tm c y lz hr ⟨fp', (z1.keep (Keep.set _ _) hnf).app G, ?_, fun i hi => ?_⟩ t5 t4 (blkAt_app (blkAt_set dzz) G)
    · exact (((kX.trans z2 (by simp) (fun _ h _ => h)).trans (Keep.set _ _) (fun _ h _ => h) (fun i hi hlt => by simp at hi; omega))).trans (Keep.app [] _ G) (fun _ h _ => h) (by simp)
    · rcases z3 i hi with h | h
      · exact .inl h
      · exact .inr (by have := kX.1; omega)
  have hD := deedD.eq_1 x d
  rw [← hR] at hD
  have hIn := l15In hI1 hok d
  have hSay := l15Say hI1 hok hxok
  have hNet := l15Net hI1 hok hxok d
  simp only [Box.enc, Deed.enc] at hIn hSay hNet
  by_cases c1 : d.kind = 1
  · rw [if_pos c1] at hD
    simp [c1, b0, d0, bD, dD] at hIn ⊢
    refine stpL_runs (hIn) ?_
    rintro _ HZ ⟨lz, rfl, bv⟩
    obtain ⟨x1, x2, x3, x4, x5, x6⟩ := sub HZ lz _ bv
    simp [x1, x2, x3, x4]
    exact x6 _ (inD x d.inn).2 hD _ (by simp) (by simp)
  rw [if_neg c1] at hD
  by_cases c6 : d.kind = 6
  · rw [if_pos c6] at hD
    simp [c6, b0, d0, bD, dD]
    refine stpL_runs (hSay) ?_
    rintro _ HZ ⟨lz, rfl, bv⟩
    obtain ⟨x1, x2, x3, x4, x5, x6⟩ := sub HZ lz _ bv
    simp [x1, x2, x3, x4]
    exact x6 _ (sayD x).2 hD _ (by simp) (by simp)
  rw [if_neg c6] at hD
  by_cases c345 : d.kind = 3 ∨ d.kind = 4 ∨ d.kind = 5
  · rw [if_pos c345] at hD
    have hNet := hNet c345
    rcases c345 with c | c | c
    all_goals
      rw [c] at hNet
      simp [c, b0, d0, bD, dD]
      refine stpL_runs (hNet) ?_
      rintro _ HZ ⟨lz, rfl, bv⟩
      obtain ⟨x1, x2, x3, x4, x5, x6⟩ := sub HZ lz _ bv
      simp [x1, x2, x3, x4]
      exact x6 _ (onWireD x d).2 hD _ (by simp) (by simp)
  rw [if_neg c345] at hD
  have c3 : ¬ d.kind = 3 := fun h => c345 (.inl h)
  have c4 : ¬ d.kind = 4 := fun h => c345 (.inr (.inl h))
  have c5 : ¬ d.kind = 5 := fun h => c345 (.inr (.inr h))
  simp [c1, c6, c3, c4, c5, l1In, bD, dD]
  by_cases hs01 : 0 ≤ d.a ∧ d.a ≤ 1
  · rw [if_neg (by simpa using hs01)] at hD
    obtain ⟨s, hs2, hda⟩ : ∃ s : Nat, s < 2 ∧ d.a = (s : Int) := ⟨d.a.toNat, by omega, by omega⟩
    have h01 : (!decide (0 ≤ d.a) || !decide (d.a ≤ 1)) = false := by simp [hs01]
    rw [h01]
    have hShip := l15Ship hI1 hok hxok s hs2
    have hFall := l15Fall hI1 hok hxok d hs2 hda
    have hReg := l15Reg hI1 hok hxok d hs2 hda
    simp only [Box.enc, Deed.enc] at hShip hFall hReg
    have hD2 := onMinderD.eq_1 x d
    by_cases c2 : d.kind = 2
    · rw [hD2, if_pos c2, hda] at hD
      simp [c2, b0, d0, bD, dD, hda]
      refine stpL_runs (hShip) ?_
      rintro _ HZ ⟨lz, rfl, bv⟩
      obtain ⟨x1, x2, x3, x4, x5, x6⟩ := sub HZ lz _ bv
      simp [x1, x2, x3, x4]
      exact x6 _ (shipD x s).2 hD _ (by simp) (by simp)
    by_cases c7 : d.kind = 7 ∨ d.kind = 8 ∨ d.kind = 12
    · have hFall := hFall c7
      rcases c7 with c | c | c
      all_goals
        rw [c] at hFall
        simp [c, b0, d0, bD, dD]
        refine stpL_runs (hFall) ?_
        rintro _ HZ ⟨lz, rfl, bv⟩
        obtain ⟨x1, x2, x3, x4, x5, x6⟩ := sub HZ lz _ bv
        simp [x1, x2, x3, x4]
        exact x6 _ (onMinderD x d).2 hD _ (by simp) (by simp)
    have c9 : d.kind = 9 ∨ d.kind = 10 ∨ d.kind = 11 := by omega
    have hReg := hReg c9
    rcases c9 with c | c | c
    all_goals
      rw [c] at hReg
      simp [c, b0, d0, bD, dD]
      refine stpL_runs (hReg) ?_
      rintro _ HZ ⟨lz, rfl, bv⟩
      obtain ⟨x1, x2, x3, x4, x5, x6⟩ := sub HZ lz _ bv
      simp [x1, x2, x3, x4]
      exact x6 _ (onMinderD x d).2 hD _ (by simp) (by simp)
  · rw [if_pos hs01] at hD
    have h01 : (!decide (0 ≤ d.a) || !decide (d.a ≤ 1)) = true := by
      rcases Int.lt_or_le d.a 0 with h | h
      · simp [show ¬ 0 ≤ d.a by omega]
      · simp [show ¬ d.a ≤ 1 by omega]
    rw [h01]
    simp [b0, d0, bz, dz]
    exact same0 2 hD _ (by simp) (by simp)

theorem specDo_is {H : Heap} {l : List Lf} {x : Box} (h : RdBox H l x) (hn : x.sz ≤ 1048576) (d : Deed) :
    Runs env 41 [.agg l, .agg d.enc] H fun v H' => ∃ l' fp, v = .tup [.agg l', .lf (.i .i64 (doIt x d).2)] ∧ IsBox H' l' (doIt x d).1 fp ∧ Fresh H H' fp := by
  have hR := h
  have hD := doIt.eq_1 x d
  have e1 := fun G => specBoxOk_is (hR.app G) (by omega)
  obtain ⟨q0, q1, q2, q3, q4, rfl⟩ : ∃ q0 q1 q2 q3 q4, l = x.enc q0 q1 q2 q3 q4 := by
    obtain ⟨q0, q1, q2, q3, q4, rfl, -⟩ := h
    exact ⟨q0, q1, q2, q3, q4, rfl⟩
  simp only [Box.enc] at e1
  refine Runs.walk ok41 Tryz.func41 rfl (by simp [Tryz.f41]) fun Q hQ => ?_
  simp only [Tryz.f41, strip, stripL, stripI, stripG, chkT, tagsB, tagsL, tagD, addT, tagA, lookN, tagOp, elmT, ty22, ty26, ty27, ty28, ty29, ty30, ty41, ty53, ty56, Nat.reduceEqDiff, if_false, reduceIte, Option.getD_some, Option.getD_none, dstAt, dstOk, Nat.reduceLT, decide_true, if_true]
  have fin : ∀ (HF : Heap) (tm : Ab.T) (l' : List Lf) (z : Box) (c' : Int) (f' : List Nat), tm 4 = .ptr (H.length + 2) 0 0 → blkAt HF (H.length + 2) = some ⟨32, .wr, [l']⟩ → IsBox HF l' z f' → tm 5 = .int c' → doIt x d = (z, c') → Keep [] H HF → (∀ i ∈ f', H.length ≤ i) → Q .ret tm HF := by
    intro HF tm l' z c' f' t4 hb4 ho4 t5 hz hK hf
    have hL' := ho4.len
    have hT' : l'.take l'.length = l' := List.take_length
    rw [hL'] at hT'
    refine hQ _ _ _ (by simp) ?_
    have hres : resT env.τ tm HF (Tryz.f41.results.toList) = some [W.agg l', W.lf (.i .i64 c')] := by simp [Tryz.f41, t4, t5, hb4, hL', hT']
    rw [hres, optK_some, hz]
    obtain ⟨fp, h1, h2⟩ := ho4.leave (H := H) (ws := [W.agg l', W.lf (.i .i64 c')]) ⟨hK.ext, hf⟩ (by simp)
    exact ⟨_, fp, rfl, h1, h2⟩
  have boxZ : ∀ G : Heap, IsBox G [.i .i64 0, .i .i64 0, .i .i64 0, .i .i64 0, .i .i64 0, .sl none 0, .sl none 0, .sl none 0, .sl none 0, .sl none 0] ⟨0, 0, ⟨0, 0, 0⟩, [], [], [], [], []⟩ [] := fun G =>
    ⟨.sl none 0, .sl none 0, .sl none 0, .sl none 0, .sl none 0, [], [], [], [], [], rfl, IsL.emp _ _ _, ⟨none, rfl, Own.nil _ _⟩, ⟨none, rfl, Own.nil _ _⟩, ⟨none, rfl, Own.nil _ _⟩, ⟨none, rfl, Own.nil _ _⟩, rfl, by simp⟩
  simp [Box.enc, Deed.enc]
  obtain ⟨X, hX⟩ : ∃ X : Heap, X = H ++ [some ⟨32, .wr, [[.i .i64 x.id, .i .i64 x.ports, .i .i64 x.reg.epoch, .i .i64 x.reg.owner, .i .i64 x.reg.pair, q0, q1, q2, q3, q4]]⟩, some ⟨66, .wr, [[.i .i64 d.kind, .i .i64 d.a, .i .i64 d.inn.kind, .i .i64 d.inn.port, .i .i64 d.inn.vec.root, .i .i64 d.inn.vec.cost, .i .i64 d.inn.vec.bridge, .i .i64 d.inn.vec.port, .i .i64 d.inn.hops, .b d.inn.up]]⟩, some ⟨32, .wr, [[.i .i64 0, .i .i64 0, .i .i64 0, .i .i64 0, .i .i64 0, .sl none 0, .sl none 0, .sl none 0, .sl none 0, .sl none 0]]⟩] := ⟨_, rfl⟩
  have b0 : blkAt X H.length = some ⟨32, .wr, [[.i .i64 x.id, .i .i64 x.ports, .i .i64 x.reg.epoch, .i .i64 x.reg.owner, .i .i64 x.reg.pair, q0, q1, q2, q3, q4]]⟩ := by rw [hX]; simp
  have d0 := blkAt_len b0
  have bz : blkAt X (H.length + 2) = some ⟨32, .wr, [[.i .i64 0, .i .i64 0, .i .i64 0, .i .i64 0, .i .i64 0, .sl none 0, .sl none 0, .sl none 0, .sl none 0, .sl none 0]]⟩ := by rw [hX]; simp
  have dz := blkAt_len bz
  have bD : blkAt X (H.length + 1) = some ⟨66, .wr, [[.i .i64 d.kind, .i .i64 d.a, .i .i64 d.inn.kind, .i .i64 d.inn.port, .i .i64 d.inn.vec.root, .i .i64 d.inn.vec.cost, .i .i64 d.inn.vec.bridge, .i .i64 d.inn.vec.port, .i .i64 d.inn.hops, .b d.inn.up]]⟩ := by rw [hX]; simp
  have dD := blkAt_len bD
  have hlX : X.length = H.length + 3 := by rw [hX]; simp
  have e1X := e1 [some ⟨32, .wr, [[.i .i64 x.id, .i .i64 x.ports, .i .i64 x.reg.epoch, .i .i64 x.reg.owner, .i .i64 x.reg.pair, q0, q1, q2, q3, q4]]⟩, some ⟨66, .wr, [[.i .i64 d.kind, .i .i64 d.a, .i .i64 d.inn.kind, .i .i64 d.inn.port, .i .i64 d.inn.vec.root, .i .i64 d.inn.vec.cost, .i .i64 d.inn.vec.bridge, .i .i64 d.inn.vec.port, .i .i64 d.inn.hops, .b d.inn.up]]⟩, some ⟨32, .wr, [[.i .i64 0, .i .i64 0, .i .i64 0, .i .i64 0, .i .i64 0, .sl none 0, .sl none 0, .sl none 0, .sl none 0, .sl none 0]]⟩]
  rw [← hX] at e1X ⊢
  have kX : Keep [] H X := by rw [hX]; exact Keep.app _ _ _
  have hRX : RdBox X (x.enc q0 q1 q2 q3 q4) x := hR.base kX
  clear hX
  have bad : ∀ tm : Ab.T, ¬ ((1 ≤ d.kind ∧ d.kind ≤ 12) ∧ x.ok = true) → tm 4 = .ptr (H.length + 2) 0 0 → tm 5 = .int 1 → Q .ret tm (X.set (H.length + 2) (some ⟨32, .wr, [[.i .i64 0, .i .i64 0, .i .i64 0, .i .i64 0, .i .i64 0, .sl none 0, .sl none 0, .sl none 0, .sl none 0, .sl none 0]]⟩)) := by
    intro tm hno t4 t5
    rw [if_neg hno] at hD
    exact fin _ tm _ _ 1 [] t4 (blkAt_set dz) (boxZ _) t5 hD (kX.next (Keep.set _ _) (by simp)) (by simp)
  simp [e1X]
  cases hok : x.ok
  · simp [bz, dz]
    exact bad _ (by simp [hok]) (by simp) (by simp)
  simp [bD, dD, l1In]
  by_cases hk : 1 ≤ d.kind ∧ d.kind ≤ 12
  · have hkb : (!decide (1 ≤ d.kind) || !decide (d.kind ≤ 12)) = false := by simp [hk]
    rw [hkb]
    rw [if_pos ⟨hk, hok⟩] at hD
    have hcp := specCopyBox hRX hn
    simp only [Box.enc] at hcp
    simp [b0, d0]
    refine stpL_runs_f hcp (by rintro _ _ ⟨_, _, _, _, hf⟩; exact hf.1) ?_
    rintro _ _ ⟨l1, f1, rfl, o1, ⟨⟨G1, rfl⟩, hf1⟩⟩
    have hsm := (Box.smallOf hok).1
    have h15 := l15One o1 hsm hok d hk
    simp only [Deed.enc] at h15
    have bDA := blkAt_app bD G1
    have dD2 := blkAt_len bDA
    rw [List.length_append] at dD2
    simp [bDA, dD2]
    refine stpL_runs_w h15 rfl (by rintro _ _ ⟨_, _, _, _, hk, _⟩; have := hk.1; exact this) ?_
    rintro _ H4 ⟨l4, rfl, bv⟩
    obtain ⟨f4, o4, k4, hf4⟩ := bv
    obtain ⟨y, hy⟩ : ∃ y, y = (deedD x d).1 := ⟨_, rfl⟩
    obtain ⟨c, hc⟩ : ∃ c, c = (deedD x d).2 := ⟨_, rfl⟩
    have hsy := (deedD_small hok d).sz
    rw [← hy] at hsy o4
    rw [← hc]
    rw [doR, ← hy, ← hc] at hD
    have hno : ∀ i, i < X.length → i ∉ f1 := fun i hi hj => by have := hf1 i hj; omega
    have k3 : Keep [] X H4 := (Keep.app [] X G1).next k4 (fun i hi => hf1 i hi)
    have b04 := k3.blk b0 (by simp)
    have bz4 := k3.blk bz (by simp)
    have d04 := blkAt_len b04
    have dz4 := blkAt_len bz4
    have hL4 := o4.len
    have hT4 : l4.take l4.length = l4 := List.take_length
    rw [hL4] at hT4
    have hf40 : ∀ i ∈ f4, H.length + 3 ≤ i := fun i hi => by
      rcases hf4 i hi with h | h
      · have := hf1 i h; omega
      · rw [List.length_append] at h; omega
    have e2 := fun G => specBoxOk_is (o4.app G).rd (by omega)
    have k04 : Keep [] H H4 := kX.next k3 (by simp)
    have b04A := fun G => blkAt_app b04 G
    have bz4A := fun G => blkAt_app bz4 G
    have g1 : H.length < H4.length + 1 := by omega
    have g2 : H.length + 2 < H4.length + 1 := by omega
    simp [hL4, hT4]
    by_cases hc0 : c = 0
    · rw [if_pos hc0] at hD
      cases hyo : y.ok
      · rw [if_neg (by simp [hyo])] at hD
        simp [hc0, hL4, hT4, e2, hyo, b04A, g1]
        have hcp2 := fun G => specCopyBox (hR.base (k04.next (Keep.app [] H4 G) (by simp))) hn
        simp only [Box.enc] at hcp2
        refine stpL_runs (hcp2 _) ?_
        rintro _ _ ⟨l5, f5, rfl, o5, ⟨⟨G5, rfl⟩, hf5⟩⟩
        have hL5 := o5.len
        have hT5 : l5.take l5.length = l5 := List.take_length
        rw [hL5] at hT5
        have o5' := o5
        simp only [List.append_assoc, List.cons_append, List.nil_append] at o5'
        have hb5 := fun G => blkAt_app bz4 G
        have d5 : H.length + 2 < H4.length + (G5.length + 1) := by omega
        simp [hb5, d5, hL5, hT5]
        refine fin _ _ l5 x 4 f5 ?_ (blkAt_set (by simp; omega)) (o5'.keep (Keep.set _ _) (fun i hi hj => by have := hf5 i hi; simp at hj this; omega)) ?_ hD ((k04.next (Keep.app [] _ _) (by simp)).next (Keep.set _ _) (by simp)) (fun i hi => by have := hf5 i hi; have := k04.1; simp only [List.length_append] at *; omega)
        · simp
        · simp
      · rw [if_pos hyo] at hD
        simp [hc0, hL4, hT4, e2, hyo, bz4A, g2]
        refine fin _ _ l4 y 0 f4 ?_ (blkAt_set (by simp; omega)) ((o4.app _).keep (Keep.set _ _) (fun i hi hj => by have := hf40 i hi; simp at hj; omega)) ?_ hD ((k04.next (Keep.app [] _ _) (by simp)).next (Keep.set _ _) (by simp)) (fun i hi => by have := hf40 i hi; omega)
        · simp
        · simp
    · rw [if_neg hc0] at hD
      simp [hc0, b04A, g1]
      have hcp2 := fun G => specCopyBox (hR.base (k04.next (Keep.app [] H4 G) (by simp))) hn
      simp only [Box.enc] at hcp2
      refine stpL_runs (hcp2 _) ?_
      rintro _ _ ⟨l5, f5, rfl, o5, ⟨⟨G5, rfl⟩, hf5⟩⟩
      have hL5 := o5.len
      have hT5 : l5.take l5.length = l5 := List.take_length
      rw [hL5] at hT5
      have o5' := o5
      simp only [List.append_assoc, List.cons_append, List.nil_append] at o5'
      have hb5 := fun G => blkAt_app bz4 G
      have d5 : H.length + 2 < H4.length + (G5.length + 1) := by omega
      simp [hb5, d5, hL5, hT5]
      refine fin _ _ l5 x c f5 ?_ (blkAt_set (by simp; omega)) (o5'.keep (Keep.set _ _) (fun i hi hj => by have := hf5 i hi; simp at hj this; omega)) ?_ hD ((k04.next (Keep.app [] _ _) (by simp)).next (Keep.set _ _) (by simp)) (fun i hi => by have := hf5 i hi; have := k04.1; simp only [List.length_append] at *; omega)
      · simp
      · simp
  · have hkb : (!decide (1 ≤ d.kind) || !decide (d.kind ≤ 12)) = true := by
      rcases Int.lt_or_le d.kind 1 with h | h
      · simp [show ¬ 1 ≤ d.kind by omega]
      · simp [show ¬ d.kind ≤ 12 by omega]
    rw [hkb]
    simp [bz, dz]
    exact bad _ (fun h => hk h.1) (by simp) (by simp)

def foldP (x : Box) (list : List Deed) (i : Nat) : Box × List Int := (list.take i).foldl stepAll (x, [])
theorem foldP_zero (x : Box) (list : List Deed) : foldP x list 0 = (x, []) := rfl
theorem foldP_step (x : Box) (list : List Deed) {i : Nat} (h : i < list.length) : foldP x list (i + 1) = stepAll (foldP x list i) list[i] := by
  unfold foldP
  rw [List.take_add_one, List.getElem?_eq_getElem h, List.foldl_append]; rfl
theorem doIt_ok {x : Box} {d : Deed} (h : (doIt x d).2 = 0) : (doIt x d).1.ok = true := by
  unfold doIt at h ⊢
  split at h
  · rename_i hk
    rw [if_pos hk]
    unfold doR at h ⊢
    split at h
    · rename_i h2
      rw [if_pos h2]
      split at h
      · rename_i h3; rw [if_pos h3]; exact h3
      · exact absurd h (by simp)
    · rename_i h2; exact absurd h h2
  · exact absurd h (by simp)
theorem foldP_ok {x : Box} (list : List Deed) (hok : x.ok = true) : ∀ i, i ≤ list.length → (foldP x list i).1.ok = true
  | 0, _ => hok
  | i + 1, h => by
    rw [foldP_step x list (by omega)]
    unfold stepAll
    dsimp only
    split
    · rename_i h0; exact doIt_ok h0
    · exact foldP_ok list hok i (by omega)
theorem foldP_len (x : Box) (list : List Deed) : ∀ i, i ≤ list.length → (foldP x list i).2.length = i
  | 0, _ => rfl
  | i + 1, h => by
    rw [foldP_step x list (by omega)]
    simp [stepAll, foldP_len x list i (by omega)]
theorem doAll_yes {x : Box} {list : List Deed} (hl : list.length ≤ 300) (hok : x.ok = true) : doAll x list = foldP x list list.length := by
  rw [doAll, if_neg (by rw [hok]; simp; omega), foldP, List.take_length]
theorem doAll_sz0 {x : Box} {list : List Deed} (hn : x.sz ≤ 1048576) (_ : list.length ≤ 1048576) : ((doAll x list).1).sz ≤ 1048576 := by
  by_cases h : list.length ≤ 300 ∧ x.ok = true
  · rw [doAll_yes h.1 h.2]
    have := (Box.smallOf (foldP_ok list h.2 list.length (Nat.le_refl _))).1.sz
    omega
  · rw [doAll, if_pos (by
      cases hx : x.ok
      · exact .inr rfl
      · exact .inl (by have : ¬ list.length ≤ 300 := fun hl => h ⟨hl, hx⟩; omega))]
    exact hn
theorem doAll_sz1 {x : Box} {list : List Deed} (_ : x.sz ≤ 1048576) (_ : list.length ≤ 1048576) : ((doAll x list).2).length ≤ 1048576 := by
  by_cases h : list.length ≤ 300 ∧ x.ok = true
  · rw [doAll_yes h.1 h.2, foldP_len _ _ _ (Nat.le_refl _)]
    omega
  · rw [doAll, if_pos (by
      cases hx : x.ok
      · exact .inr rfl
      · exact .inl (by have : ¬ list.length ≤ 300 := fun hl => h ⟨hl, hx⟩; omega))]
    simp

theorem bigL {H : Heap} {a : Option (Nat × Nat)} {n : Nat} : run env 8 [.w (.lf (.sl a n))] H = some (.bool (decide ((1048576 : Int) < n)), H) := by
  refine run_walk ok8 Tryz.func8 rfl (by simp [Tryz.f8]) fun Q hQ => ?_
  simp only [Tryz.f8, strip, stripL, stripI, stripG, chkT, tagsB, tagsL, tagD, addT, tagA, lookN, tagOp, elmT, ty22, ty26, ty27, ty28, ty29, ty30, ty41, ty53, ty56, Nat.reduceEqDiff, if_false, reduceIte, Option.getD_some, Option.getD_none, dstAt, dstOk, Nat.reduceLT, decide_true, if_true]
  simp [builtinV, pureB, lenV]
  refine hQ _ _ _ (by simp) ?_
  simp [Tryz.f8]

def encU (x : Int) : List Lf := [.i .u8 x]
/-- A cursor over n bytes. -/
def Cur (H : Heap) (c n : Nat) : Prop := ∃ (a : Option (Nat × Nat)) (i h : Int) (bs : List Int), blkAt H c = some ⟨113, .wr, [[.sl a n, .i .i64 i, .i .i64 h]]⟩ ∧ 0 ≤ i ∧ i ≤ n ∧ bs.length = n ∧ n ≤ 1048576 ∧ (∀ id r, a = some (id, r) → bs ≠ [] → id < c) ∧ Sl H 5 a (bs.map encU)
theorem Cur.lt {H : Heap} {c n : Nat} (h : Cur H c n) : c < H.length := let ⟨_, _, _, _, h1, _⟩ := h; blkAt_len h1
theorem Cur.keep {H H' : Heap} {c n : Nat} {f : List Nat} (h : Cur H c n) (hk : Keep f H H') (hf : ∀ i ∈ f, c < i) : Cur H' c n := by
  obtain ⟨a, i, h, bs, h1, h2, h3, h4, h5, h6, h7⟩ := h
  have hlt := blkAt_len h1
  refine ⟨a, i, h, bs, hk.blk h1 (fun hc => by have := hf c hc; omega), h2, h3, h4, h5, h6, ?_⟩
  by_cases hb : bs = []
  · subst hb; exact Sl.nil _ _ _
  · exact h7.keep hk (fun id r he hi => by have := hf id hi; have := h6 id r he hb; omega)
theorem Cur.app {H : Heap} {c n : Nat} (h : Cur H c n) (G : Heap) : Cur (H ++ G) c n := h.keep (Keep.app [] H G) (by simp)
theorem Cur.ne {H : Heap} {c n id : Nat} {b : Blk} (h : Cur H c n) (hb : blkAt H id = some b) (he : b.elem ≠ 113) : id ≠ c := by
  obtain ⟨a, i, h, bs, h1, -⟩ := h
  rintro rfl
  rw [h1] at hb
  injection hb with hb
  rw [← hb] at he
  exact he rfl
/-- From H to H' the cursor may have gone on, nothing else that was has turned. -/
def CurTo (H H' : Heap) (c n : Nat) : Prop := Keep [c] H H' ∧ Cur H' c n
theorem CurTo.refl {H : Heap} {c n : Nat} (h : Cur H c n) : CurTo H H c n := ⟨Keep.refl _ _, h⟩
theorem CurTo.app {H H' : Heap} {c n : Nat} (h : CurTo H H' c n) (G : Heap) : CurTo H (H' ++ G) c n := ⟨h.1.trans (Keep.app [] _ G) (fun _ h _ => h) (by simp), h.2.app G⟩
theorem CurTo.next {H H1 H2 : Heap} {c n : Nat} (h : CurTo H H1 c n) (h2 : CurTo H1 H2 c n) : CurTo H H2 c n := ⟨h.1.trans h2.1 (fun _ h _ => h) (fun _ h _ => h), h2.2⟩
theorem CurTo.base {H G H' : Heap} {c n : Nat} (h : CurTo (H ++ G) H' c n) : CurTo H H' c n := ⟨h.1.base, h.2⟩
theorem CurTo.set {H H' : Heap} {c n : Nat} (h : CurTo H H' c n) {id : Nat} (hid : H.length ≤ id) (hc : c < id) (y : Option Blk) : CurTo H (H'.set id y) c n :=
  ⟨h.1.trans (Keep.set _ _) (fun _ h _ => h) (fun i hi hlt => by simp at hi; omega), h.2.keep (Keep.set _ _) (by simpa using hc)⟩
theorem CurTo.own {H H' H2 : Heap} {c n : Nat} (h : CurTo H H' c n) {f : List Nat} (hk : Keep f H' H2) (hf : ∀ i ∈ f, H.length ≤ i) (hc : c < H.length) : CurTo H H2 c n :=
  ⟨h.1.trans hk (fun _ h _ => h) (fun i hi hlt => by have := hf i hi; omega), h.2.keep hk (fun i hi => by have := hf i hi; omega)⟩
theorem CurTo.leave {H H' : Heap} {c n : Nat} (h : CurTo H H' c n) (hc : Cur H c n) (ws : List W) : CurTo H (Go.Ab.leave H H' ws) c n := by
  rcases leave_or H H' ws with e | ⟨e, -⟩ <;> rw [e]
  · exact h
  · exact CurTo.refl hc
theorem CurTo.len {H H' : Heap} {c n : Nat} (h : CurTo H H' c n) : H.length ≤ H'.length := h.1.1
/-- Of what was there only the cursor's block turned. -/
theorem CurTo.only {H H' : Heap} {c n : Nat} (h : CurTo H H' c n) (hc : Cur H c n) : onlyT (some 113) H H' = true := by
  unfold onlyT
  simp only [List.all_eq_true, List.mem_range, Bool.or_eq_true, decide_eq_true_eq]
  intro id hid
  by_cases he : id = c
  · subst he
    obtain ⟨a, i, h0, bs, h1, -⟩ := hc
    obtain ⟨a', i', h0', bs', h1', -⟩ := h.2
    have e1 := blkAt_some h1
    have e2 := blkAt_some h1'
    right
    rw [e1, e2]
    rfl
  · exact .inl (h.1.2 id hid (by simpa using he))

/-- A call of a function that draws. -/
theorem stpL_cur {call : Fun} {draw : Bool} {tm : Ab.T} {H : Heap} {Q : Ex → Ab.T → Heap → Prop} {fr : List Fr} {is : List I2} {f : Nat} {args : List V} {d : Option Nat} {K : V → Heap → Prop} {x y : List (Nat × Nat × Nat)} {c n : Nat} (h : Runs env f args H K) (hc : Cur H c n) (hto : ∀ v H', K v H' → CurTo H H' c n)
    (hk : ∀ v H', K v H' → stpL env call (some (v, H')) d draw is fr tm Q) (hw : env.wr f = true := by rfl) (hn : env.wt f = some 113 := by rfl) : stpL env call (guardCall env draw (.w (.lf (.fn f x y))) H (run env f args H)) d draw is fr tm Q := by
  obtain ⟨v, H', hr, hK⟩ := h
  have : guardCall env draw (.w (.lf (.fn f x y))) H (run env f args H) = some (v, H') := by
    rw [hr]
    unfold guardCall
    split
    · rfl
    · have h1 := hto v H' hK
      simp [hw, hn, h1.len, h1.only hc]
  rw [this]
  exact hk v H' hK

theorem and255 (a : Int) : 0 ≤ IntKind.i64.wrap ((BitVec.ofInt 64 a &&& 255#64).toNat : Nat) ∧ IntKind.i64.wrap ((BitVec.ofInt 64 a &&& 255#64).toNat : Nat) ≤ 255 := by
  have h : (BitVec.ofInt 64 a &&& 255#64).toNat ≤ 255 := by
    rw [BitVec.toNat_and]
    exact Nat.le_trans Nat.and_le_right (by decide)
  rw [wrap64 (by omega) (by omega)]
  omega
theorem l1Byte {H : Heap} {c n : Nat} (hc : Cur H c n) : Runs env 107 [.ptr c 0 0] H fun v H' => (∃ x : Int, v = .int x ∧ 0 ≤ x ∧ x ≤ 255) ∧ CurTo H H' c n := by
  have hc0 := hc
  obtain ⟨a, i, h, bs, h1, h2, h3, h4, h5, h6, h7⟩ := hc
  have hl := blkAt_len h1
  refine Runs.walk ok107 Tryz.func107 rfl (by simp [Tryz.f107]) fun Q hQ => ?_
  simp only [Tryz.f107, strip, stripL, stripI, stripG, chkT, tagsB, tagsL, tagD, addT, tagA, lookN, tagOp, elmT, ty22, ty26, ty27, ty28, ty29, ty30, ty41, ty53, ty56, Nat.reduceEqDiff, if_false, reduceIte, Option.getD_some, Option.getD_none, dstAt, dstOk, Nat.reduceLT, decide_true, if_true]
  have hset : ∀ y : Blk, blkAt (H.set c (some y)) c = some y := fun y => blkAt_set hl
  have hto : ∀ (i' h' : Int), 0 ≤ i' → i' ≤ n → CurTo H (H.set c (some ⟨113, .wr, [[.sl a n, .i .i64 i', .i .i64 h']]⟩)) c n := fun i' h' g1 g2 =>
    ⟨Keep.set _ _, a, i', h', bs, hset _, g1, g2, h4, h5, h6, by
      by_cases hb : bs = []
      · subst hb; exact Sl.nil _ _ _
      · exact h7.keep (Keep.set _ _) (fun id r he hi => by have := h6 id r he hb; simp at hi; omega)⟩
  simp [h1, hl, hset, builtinV, pureB, lenV, binV, binInt, cmpI, arI, IntKind.bits]
  refine selS_intro (fun hc1 => ?_) (fun hc1 => ?_)
  · simp at hc1
    obtain ⟨k, rfl⟩ : ∃ k : Nat, i = (k : Int) := ⟨i.toNat, by omega⟩
    have hk : k < bs.length := by omega
    obtain ⟨id3, r3, bl3, rfl, hb3, hbe3, hrow3⟩ := h7 k _ (by rw [List.getElem?_map, List.getElem?_eq_getElem hk]; rfl)
    have hid3 := blkAt_len hb3
    have hlt3 : id3 < c := h6 id3 r3 rfl (by rintro rfl; simp at hk)
    have hse : ∀ y : Option Blk, blkAt (H.set c y) id3 = some bl3 := fun y => by rw [blkAt_set_ne (by omega)]; exact hb3
    have hkn : k < n := by omega
    have hkI : (k : Int) < n := by omega
    have hw : IntKind.i64.wrap ((k : Int) + 1) = (k : Int) + 1 := wrap64 (by omega) (by omega)
    simp [hset, hl, hse, hid3, hbe3, hrow3, indexAddrV, elemIs, hkn, hkI, encU, binV, binInt, cmpI, arI, IntKind.bits, convV, hw]
    refine hQ _ _ _ (by simp) ?_
    simp [Tryz.f107]
    exact ⟨and255 _, (hto _ _ (by omega) (by omega)).leave hc0 _⟩
  · simp at hc1
    simp
    refine hQ _ _ _ (by simp) ?_
    simp [Tryz.f107]
    exact ⟨and255 _, (hto _ _ h2 h3).leave hc0 _⟩

theorem tmod_le {s k : Int} (hs : 0 ≤ s) (hk : 0 < k) : s.tmod k ≤ s := by
  rw [Int.tmod_eq_emod_of_nonneg hs]
  obtain ⟨a, rfl⟩ := Int.eq_ofNat_of_zero_le hs
  obtain ⟨b, rfl⟩ := Int.eq_ofNat_of_zero_le (show 0 ≤ k by omega)
  have := Nat.mod_le a b
  omega
theorem l1Below {H : Heap} {c n : Nat} (hc : Cur H c n) (k : Int) : Runs env 66 [.ptr c 0 0, .int k] H fun v H' => (∃ x : Int, v = .int x ∧ 0 ≤ x ∧ (0 < k → x < k) ∧ x ≤ 4294967295) ∧ CurTo H H' c n := by
  refine Runs.walk ok66 Tryz.func66 rfl (by simp [Tryz.f66]) fun Q hQ => ?_
  simp only [Tryz.f66, strip, stripL, stripI, stripG, chkT, tagsB, tagsL, tagD, addT, tagA, lookN, tagOp, elmT, ty22, ty26, ty27, ty28, ty29, ty30, ty41, ty53, ty56, Nat.reduceEqDiff, if_false, reduceIte, Option.getD_some, Option.getD_none, dstAt, dstOk, Nat.reduceLT, decide_true, if_true]
  have fin : ∀ (HF : Heap) (tm : Ab.T) (x : Int), tm 4 = .int x → 0 ≤ x → (0 < k → x < k) → x ≤ 4294967295 → CurTo H HF c n → Q .ret tm HF := by
    intro HF tm x t4 h1 h2 h3 hto
    refine hQ _ _ _ (by simp) ?_
    simp [Tryz.f66, t4]
    exact ⟨⟨h1, h2, h3⟩, hto.leave hc _⟩
  simp
  by_cases hk : k ≤ 0
  · simp [hk]
    exact fin _ _ 0 (by simp) (by omega) (by omega) (by omega) (CurTo.refl hc)
  have hk0 : ¬ k = 0 := by omega
  simp [hk]
  by_cases hk2 : k ≤ 256
  · simp [hk2]
    refine stpL_runs (l1Byte hc) ?_
    rintro _ H1 ⟨⟨x, rfl, hx1, hx2⟩, hto⟩
    simp [hk0]
    have h1 := Int.tmod_nonneg k hx1
    have h2 := Int.tmod_lt_of_pos x (show 0 < k by omega)
    exact fin _ _ (x.tmod k) (by simp) h1 (fun _ => h2) (by omega) hto
  · simp [hk2]
    refine stpL_runs (l1Byte hc) ?_
    rintro _ H1 ⟨⟨x, rfl, hx1, hx2⟩, hto1⟩
    simp
    refine stpL_runs (l1Byte hto1.2) ?_
    rintro _ H2 ⟨⟨y, rfl, hy1, hy2⟩, hto2⟩
    simp
    refine stpL_runs (l1Byte hto2.2) ?_
    rintro _ H3 ⟨⟨z, rfl, hz1, hz2⟩, hto3⟩
    simp
    refine stpL_runs (l1Byte hto3.2) ?_
    rintro _ H4 ⟨⟨w, rfl, hw1, hw2⟩, hto4⟩
    have g1 : IntKind.i64.wrap (x * 16777216) = x * 16777216 := wrap64 (by omega) (by omega)
    have g2 : IntKind.i64.wrap (y * 65536) = y * 65536 := wrap64 (by omega) (by omega)
    have g3 : IntKind.i64.wrap (x * 16777216 + y * 65536) = x * 16777216 + y * 65536 := wrap64 (by omega) (by omega)
    have g4 : IntKind.i64.wrap (z * 256) = z * 256 := wrap64 (by omega) (by omega)
    have g5 : IntKind.i64.wrap (x * 16777216 + y * 65536 + z * 256) = x * 16777216 + y * 65536 + z * 256 := wrap64 (by omega) (by omega)
    have g6 : IntKind.i64.wrap (x * 16777216 + y * 65536 + z * 256 + w) = x * 16777216 + y * 65536 + z * 256 + w := wrap64 (by omega) (by omega)
    simp [hk0, g1, g2, g3, g4, g5, g6]
    obtain ⟨s, hs⟩ : ∃ s, s = x * 16777216 + y * 65536 + z * 256 + w := ⟨_, rfl⟩
    have hs0 : 0 ≤ s := by omega
    have h1 := Int.tmod_nonneg k hs0
    have h2 := Int.tmod_lt_of_pos s (show 0 < k by omega)
    have h3 : s.tmod k ≤ s := tmod_le hs0 (by omega)
    refine fin _ _ (s.tmod k) ?_ h1 (fun _ => h2) (by omega) (((hto1.next hto2).next hto3).next hto4)
    simp [hs]

theorem l1Once {H : Heap} {c n : Nat} (hc : Cur H c n) (k : Int) : Runs env 108 [.ptr c 0 0, .int k] H fun v H' => (∃ b : Bool, v = .bool b) ∧ CurTo H H' c n := by
  refine Runs.walk ok108 Tryz.func108 rfl (by simp [Tryz.f108]) fun Q hQ => ?_
  simp only [Tryz.f108, strip, stripL, stripI, stripG, chkT, tagsB, tagsL, tagD, addT, tagA, lookN, tagOp, elmT, ty22, ty26, ty27, ty28, ty29, ty30, ty41, ty53, ty56, Nat.reduceEqDiff, if_false, reduceIte, Option.getD_some, Option.getD_none, dstAt, dstOk, Nat.reduceLT, decide_true, if_true]
  simp
  refine stpL_runs (l1Below hc k) ?_
  rintro _ H1 ⟨⟨x, rfl, hx1, hx2⟩, hto⟩
  simp
  refine hQ _ _ _ (by simp) ?_
  simp [Tryz.f108]
  exact ⟨by omega, hto.leave hc _⟩

theorem l1PickInt {H : Heap} {c n : Nat} (hc : Cur H c n) {a : Option (Nat × Nat)} {xs : List Int} (hs : Sl H 3 a (xs.map encI)) (hx : xs ≠ []) (hlen : xs.length ≤ 1048576) :
    Runs env 68 [.ptr c 0 0, .w (.lf (.sl a xs.length))] H fun v H' => (∃ x : Int, v = .int x ∧ x ∈ xs) ∧ CurTo H H' c n := by
  have hpos : 0 < xs.length := List.length_pos_iff.2 hx
  refine Runs.walk ok68 Tryz.func68 rfl (by simp [Tryz.f68]) fun Q hQ => ?_
  simp only [Tryz.f68, strip, stripL, stripI, stripG, chkT, tagsB, tagsL, tagD, addT, tagA, lookN, tagOp, elmT, ty22, ty26, ty27, ty28, ty29, ty30, ty41, ty53, ty56, Nat.reduceEqDiff, if_false, reduceIte, Option.getD_some, Option.getD_none, dstAt, dstOk, Nat.reduceLT, decide_true, if_true]
  simp [builtinV, pureB, lenV]
  refine stpL_runs (l1Below hc xs.length) ?_
  rintro _ H1 ⟨⟨x, rfl, hx1, hx2, -⟩, hto⟩
  have hxl := hx2 (by omega)
  obtain ⟨k, rfl⟩ : ∃ k : Nat, x = (k : Int) := ⟨x.toNat, by omega⟩
  have hk : k < xs.length := by omega
  obtain ⟨id3, r3, bl3, rfl, hb3, hbe3, hrow3⟩ := hs k _ (by rw [List.getElem?_map, List.getElem?_eq_getElem hk]; rfl)
  have hne := hc.ne hb3 (by rw [hbe3]; decide)
  have hb4 := hto.1.blk hb3 (by simpa using hne)
  have hid4 := blkAt_len hb4
  have hkI : (k : Int) < xs.length := by omega
  simp [hb4, hid4, hbe3, hrow3, indexAddrV, elemIs, hk, hkI, encI]
  refine hQ _ _ _ (by simp) ?_
  simp [Tryz.f68]
  exact hto.leave hc _

theorem l6DrawRight {H : Heap} {c n : Nat} (hc : Cur H c n) : Runs env 141 [.ptr c 0 0] H fun v H' => (∃ x : Vec, v = .agg x.enc) ∧ CurTo H H' c n := by
  have hcl := hc.lt
  refine Runs.walk ok141 Tryz.func141 rfl (by simp [Tryz.f141]) fun Q hQ => ?_
  simp only [Tryz.f141, strip, stripL, stripI, stripG, chkT, tagsB, tagsL, tagD, addT, tagA, lookN, tagOp, elmT, ty22, ty26, ty27, ty28, ty29, ty30, ty41, ty53, ty56, Nat.reduceEqDiff, if_false, reduceIte, Option.getD_some, Option.getD_none, dstAt, dstOk, Nat.reduceLT, decide_true, if_true]
  have fin : ∀ (HF : Heap) (tm : Ab.T) (x : Vec), tm 2 = .ptr H.length 0 0 → blkAt HF H.length = some ⟨60, .wr, [x.enc]⟩ → CurTo H HF c n → Q .ret tm HF := by
    intro HF tm x t2 hb hto
    refine hQ _ _ _ (by simp) ?_
    have hres : resT env.τ tm HF (Tryz.f141.results.toList) = some [W.agg x.enc] := by simp [Tryz.f141, t2, hb]
    rw [hres, optK_some]
    exact ⟨⟨x, rfl⟩, hto.leave hc _⟩
  have hcX := hc.app [some ⟨60, .wr, [[.i .i64 0, .i .i64 0, .i .i64 0, .i .i64 0]]⟩]
  have bzX : blkAt (H ++ [some ⟨60, .wr, [[.i .i64 0, .i .i64 0, .i .i64 0, .i .i64 0]]⟩]) H.length = some ⟨60, .wr, [[.i .i64 0, .i .i64 0, .i .i64 0, .i .i64 0]]⟩ := by simp
  have hlX : (H ++ [some ⟨60, .wr, [[.i .i64 0, .i .i64 0, .i .i64 0, .i .i64 0]]⟩] : Heap).length = H.length + 1 := by simp
  simp
  refine stpL_runs (l1Below hcX 4) ?_
  rintro _ H1 ⟨⟨x, rfl, hx⟩, hto1⟩
  simp
  refine stpL_runs (l1Below hto1.2 4) ?_
  rintro _ H2 ⟨⟨y, rfl, hy⟩, hto2⟩
  have hto := hto1.next hto2
  have bz2 := hto.1.blk bzX (by simp; omega)
  have dz2 := blkAt_len bz2
  have hcc2 := hto.base
  have hl2 := hto.len
  rw [hlX] at hl2
  obtain ⟨r, hr⟩ : ∃ r, r = IntKind.i64.wrap (1 + x) := ⟨_, rfl⟩
  simp [← hr]
  have hcM := hto.2.app [some ⟨60, .wr, [[.i .i64 r, .i .i64 0, .i .i64 0, .i .i64 y]]⟩]
  refine stpL_cur (l1Below hcM 3) hcM (fun v H' h => h.2) ?_
  rintro _ H3 ⟨⟨z, rfl, hz⟩, hto3⟩
  have b3 : blkAt H3 H2.length = some ⟨60, .wr, [[.i .i64 r, .i .i64 0, .i .i64 0, .i .i64 y]]⟩ := hto3.1.blk (by simp) (by simp; omega)
  have bz3 := hto3.1.blk (blkAt_app bz2 _) (by simp; omega)
  have d3 := blkAt_len b3
  have dz3 := blkAt_len bz3
  have hcc3 := hcc2.next hto3.base
  obtain ⟨g, hg⟩ : ∃ g, g = IntKind.i64.wrap (r + z) := ⟨_, rfl⟩
  have hset : ∀ (Y : Heap) (y : Blk), H2.length < Y.length → blkAt (List.set Y H2.length (some y)) H2.length = some y := fun Y y h => blkAt_set h
  have hne3 : ∀ (Y : Heap) (y : Option Blk), blkAt (List.set Y H2.length y) H.length = blkAt Y H.length := fun Y y => blkAt_set_ne (by omega)
  simp [b3, d3, ← hg, hset]
  refine selS_intro (fun hq => ?_) (fun hq => ?_)
  · simp
    have hcS := (hcc3.set (id := H2.length) (by omega) (by omega) (some ⟨60, .wr, [[.i .i64 r, .i .i64 0, .i .i64 g, .i .i64 y]]⟩))
    refine stpL_runs (l1Below hcS.2 3) ?_
    rintro _ H4 ⟨⟨u, rfl, hu⟩, hto4⟩
    have b4 := hto4.1.blk (blkAt_set d3) (by simp; omega)
    have bz4 := hto4.1.blk (show blkAt (H3.set H2.length _) H.length = _ from (hne3 _ _).trans bz3) (by simp; omega)
    have d4 := blkAt_len b4
    have dz4 := blkAt_len bz4
    have hcc4 := hcS.next hto4
    simp [b4, d4, bz4, dz4, hset, hne3]
    refine fin _ _ ⟨_, _, _, _⟩ ?_ (blkAt_set (Nat.lt_of_lt_of_eq dz4 (List.length_set).symm)) ((hcc4.set (by omega) (by omega) _).set (by omega) (by omega) _)
    simp
  · simp [b3, d3, bz3, dz3, hset, hne3]
    refine fin _ _ ⟨_, _, _, _⟩ ?_ (blkAt_set (Nat.lt_of_lt_of_eq dz3 (List.length_set).symm)) ((hcc3.set (by omega) (by omega) _).set (by omega) (by omega) _)
    simp

theorem l6Draw {H : Heap} {c n : Nat} (hc : Cur H c n) : Runs env 125 [.ptr c 0 0] H fun v H' => (∃ x : Vec, v = .agg x.enc) ∧ CurTo H H' c n := by
  have hcl := hc.lt
  refine Runs.walk ok125 Tryz.func125 rfl (by simp [Tryz.f125]) fun Q hQ => ?_
  simp only [Tryz.f125, strip, stripL, stripI, stripG, chkT, tagsB, tagsL, tagD, addT, tagA, lookN, tagOp, elmT, ty22, ty26, ty27, ty28, ty29, ty30, ty41, ty53, ty56, Nat.reduceEqDiff, if_false, reduceIte, Option.getD_some, Option.getD_none, dstAt, dstOk, Nat.reduceLT, decide_true, if_true]
  have fin : ∀ (HF : Heap) (tm : Ab.T) (x : Vec), tm 2 = .ptr H.length 0 0 → blkAt HF H.length = some ⟨60, .wr, [x.enc]⟩ → CurTo H HF c n → Q .ret tm HF := by
    intro HF tm x t2 hb hto
    refine hQ _ _ _ (by simp) ?_
    have hres : resT env.τ tm HF (Tryz.f125.results.toList) = some [W.agg x.enc] := by simp [Tryz.f125, t2, hb]
    rw [hres, optK_some]
    exact ⟨⟨x, rfl⟩, hto.leave hc _⟩
  have hcX := hc.app [some ⟨60, .wr, [[.i .i64 0, .i .i64 0, .i .i64 0, .i .i64 0]]⟩]
  have bzX : blkAt (H ++ [some ⟨60, .wr, [[.i .i64 0, .i .i64 0, .i .i64 0, .i .i64 0]]⟩]) H.length = some ⟨60, .wr, [[.i .i64 0, .i .i64 0, .i .i64 0, .i .i64 0]]⟩ := by simp
  have hlX : (H ++ [some ⟨60, .wr, [[.i .i64 0, .i .i64 0, .i .i64 0, .i .i64 0]]⟩] : Heap).length = H.length + 1 := by simp
  simp
  refine stpL_runs (l6DrawRight hcX) ?_
  rintro _ H1 ⟨⟨x, rfl⟩, hto1⟩
  have bz1 := hto1.1.blk bzX (by simp; omega)
  have dz1 := blkAt_len bz1
  have hcc1 := hto1.base
  have hl1 := hto1.len
  rw [hlX] at hl1
  simp [Vec.enc]
  have hcM := hto1.2.app [some ⟨60, .wr, [[.i .i64 x.root, .i .i64 x.cost, .i .i64 x.bridge, .i .i64 x.port]]⟩]
  refine stpL_runs (l1Below hcM 10) ?_
  rintro _ H2 ⟨⟨k, rfl, -⟩, hto2⟩
  have b3 : blkAt H2 H1.length = some ⟨60, .wr, [[.i .i64 x.root, .i .i64 x.cost, .i .i64 x.bridge, .i .i64 x.port]]⟩ := hto2.1.blk (by simp) (by simp; omega)
  have bz2 := hto2.1.blk (blkAt_app bz1 _) (by simp; omega)
  have d3 := blkAt_len b3
  have dz2 := blkAt_len bz2
  have hcc2 := hcc1.next hto2.base
  have hne3 : ∀ (Y : Heap) (y : Option Blk), blkAt (List.set Y H1.length y) H.length = blkAt Y H.length := fun Y y => blkAt_set_ne (by omega)
  have hne4 : ∀ (Y : Heap) (y : Blk), H1.length < Y.length → blkAt (List.set Y H1.length (some y)) H1.length = some y := fun Y y h => blkAt_set h
  by_cases c0 : k = 0
  · simp [c0]
    have hcL := hto2.2.app [some ⟨3, .wr, [encI 0, encI 9, encI 10]⟩]
    simp only [encI] at hcL
    refine stpL_runs (l1PickInt (xs := [0, 9, 10]) hcL (Sl.of (by simp [encI])) (by simp) (by simp)) ?_
    rintro _ H3 ⟨⟨y, rfl, -⟩, hto3⟩
    have hto3 := hto3.base
    have b33 := hto3.1.blk b3 (by simp; omega)
    have bz3 := hto3.1.blk bz2 (by simp; omega)
    have d33 := blkAt_len b33
    have dz3 := blkAt_len bz3
    have hcc3 := hcc2.next hto3
    simp [b33, d33, bz3, dz3, hne3, hne4, Vec.enc]
    refine fin _ _ ⟨y, x.cost, x.bridge, x.port⟩ ?_ (blkAt_set (Nat.lt_of_lt_of_eq dz3 (List.length_set).symm)) ((hcc3.set (by omega) (by omega) _).set (by omega) (by omega) _)
    simp
  by_cases c1 : k = 1
  · simp [c1]
    have hcL := hto2.2.app [some ⟨3, .wr, [encI (-1), encI 0, encI 20, encI 21]⟩]
    simp only [encI] at hcL
    refine stpL_runs (l1PickInt (xs := [(-1), 0, 20, 21]) hcL (Sl.of (by simp [encI])) (by simp) (by simp)) ?_
    rintro _ H3 ⟨⟨y, rfl, -⟩, hto3⟩
    have hto3 := hto3.base
    have b33 := hto3.1.blk b3 (by simp; omega)
    have bz3 := hto3.1.blk bz2 (by simp; omega)
    have d33 := blkAt_len b33
    have dz3 := blkAt_len bz3
    have hcc3 := hcc2.next hto3
    simp [b33, d33, bz3, dz3, hne3, hne4, Vec.enc]
    refine fin _ _ ⟨x.root, y, x.bridge, x.port⟩ ?_ (blkAt_set (Nat.lt_of_lt_of_eq dz3 (List.length_set).symm)) ((hcc3.set (by omega) (by omega) _).set (by omega) (by omega) _)
    simp
  by_cases c2 : k = 2
  · simp [c2]
    have hcL := hto2.2.app [some ⟨3, .wr, [encI 0, encI 9, encI 10]⟩]
    simp only [encI] at hcL
    refine stpL_runs (l1PickInt (xs := [0, 9, 10]) hcL (Sl.of (by simp [encI])) (by simp) (by simp)) ?_
    rintro _ H3 ⟨⟨y, rfl, -⟩, hto3⟩
    have hto3 := hto3.base
    have b33 := hto3.1.blk b3 (by simp; omega)
    have bz3 := hto3.1.blk bz2 (by simp; omega)
    have d33 := blkAt_len b33
    have dz3 := blkAt_len bz3
    have hcc3 := hcc2.next hto3
    simp [b33, d33, bz3, dz3, hne3, hne4, Vec.enc]
    refine fin _ _ ⟨x.root, x.cost, y, x.port⟩ ?_ (blkAt_set (Nat.lt_of_lt_of_eq dz3 (List.length_set).symm)) ((hcc3.set (by omega) (by omega) _).set (by omega) (by omega) _)
    simp
  by_cases c3 : k = 3
  · simp [c3]
    have hcL := hto2.2.app [some ⟨3, .wr, [encI (-1), encI 3, encI 4]⟩]
    simp only [encI] at hcL
    refine stpL_runs (l1PickInt (xs := [(-1), 3, 4]) hcL (Sl.of (by simp [encI])) (by simp) (by simp)) ?_
    rintro _ H3 ⟨⟨y, rfl, -⟩, hto3⟩
    have hto3 := hto3.base
    have b33 := hto3.1.blk b3 (by simp; omega)
    have bz3 := hto3.1.blk bz2 (by simp; omega)
    have d33 := blkAt_len b33
    have dz3 := blkAt_len bz3
    have hcc3 := hcc2.next hto3
    simp [b33, d33, bz3, dz3, hne3, hne4, Vec.enc]
    refine fin _ _ ⟨x.root, x.cost, x.bridge, y⟩ ?_ (blkAt_set (Nat.lt_of_lt_of_eq dz3 (List.length_set).symm)) ((hcc3.set (by omega) (by omega) _).set (by omega) (by omega) _)
    simp
  simp [c0, c1, c2, c3, b3, d3, bz2, dz2]
  refine fin _ _ ⟨_, _, _, _⟩ ?_ (blkAt_set dz2) (hcc2.set (by omega) (by omega) _)
  simp

theorem l8DrawIn {H : Heap} {c n : Nat} (hc : Cur H c n) : Runs env 109 [.ptr c 0 0] H fun v H' => (∃ x : In, v = .agg x.enc) ∧ CurTo H H' c n := by
  have hcl := hc.lt
  refine Runs.walk ok109 Tryz.func109 rfl (by simp [Tryz.f109]) fun Q hQ => ?_
  simp only [Tryz.f109, strip, stripL, stripI, stripG, chkT, tagsB, tagsL, tagD, addT, tagA, lookN, tagOp, elmT, ty22, ty26, ty27, ty28, ty29, ty30, ty41, ty53, ty56, Nat.reduceEqDiff, if_false, reduceIte, Option.getD_some, Option.getD_none, dstAt, dstOk, Nat.reduceLT, decide_true, if_true]
  have fin : ∀ (HF : Heap) (tm : Ab.T) (x : In), tm 2 = .ptr H.length 0 0 → blkAt HF H.length = some ⟨64, .wr, [x.enc]⟩ → CurTo H HF c n → Q .ret tm HF := by
    intro HF tm x t2 hb hto
    refine hQ _ _ _ (by simp) ?_
    have hres : resT env.τ tm HF (Tryz.f109.results.toList) = some [W.agg x.enc] := by simp [Tryz.f109, t2, hb]
    rw [hres, optK_some]
    exact ⟨⟨x, rfl⟩, hto.leave hc _⟩
  have hcX := hc.app [some ⟨64, .wr, [[.i .i64 0, .i .i64 0, .i .i64 0, .i .i64 0, .i .i64 0, .i .i64 0, .i .i64 0, .b false]]⟩]
  have bzX : blkAt (H ++ [some ⟨64, .wr, [[.i .i64 0, .i .i64 0, .i .i64 0, .i .i64 0, .i .i64 0, .i .i64 0, .i .i64 0, .b false]]⟩]) H.length = some ⟨64, .wr, [[.i .i64 0, .i .i64 0, .i .i64 0, .i .i64 0, .i .i64 0, .i .i64 0, .i .i64 0, .b false]]⟩ := by simp
  have hlX : (H ++ [some ⟨64, .wr, [[.i .i64 0, .i .i64 0, .i .i64 0, .i .i64 0, .i .i64 0, .i .i64 0, .i .i64 0, .b false]]⟩] : Heap).length = H.length + 1 := by simp
  simp
  refine stpL_runs (l1Below hcX 4) ?_
  rintro _ H1 ⟨⟨p, rfl, -⟩, hto1⟩
  have bz1 := hto1.1.blk bzX (by simp; omega)
  have hcc1 := hto1.base
  have hl1 := hto1.len
  rw [hlX] at hl1
  simp
  refine stpL_runs (l1Below hto1.2 4) ?_
  rintro _ H2 ⟨⟨k, rfl, -⟩, hto2⟩
  have bz2 := hto2.1.blk bz1 (by simp; omega)
  have dz2 := blkAt_len bz2
  have hcc2 := hcc1.next hto2
  by_cases c0 : k = 0
  · simp [c0, bz2, dz2]
    refine fin _ _ ⟨_, _, ⟨_, _, _, _⟩, _, _⟩ ?_ (blkAt_set dz2) (hcc2.set (by omega) (by omega) _)
    simp
  by_cases c1 : k = 1
  · simp [c1]
    refine stpL_runs (l1Once hto2.2 3) ?_
    rintro _ H3 ⟨⟨b, rfl⟩, hto3⟩
    have bz3 := hto3.1.blk bz2 (by simp; omega)
    have dz3 := blkAt_len bz3
    simp [bz3, dz3]
    refine fin _ _ ⟨_, _, ⟨_, _, _, _⟩, _, _⟩ ?_ (blkAt_set dz3) ((hcc2.next hto3).set (by omega) (by omega) _)
    simp
  simp [c0, c1]
  refine stpL_runs (l6DrawRight hto2.2) ?_
  rintro _ H3 ⟨⟨v, rfl⟩, hto3⟩
  have bz3 := hto3.1.blk bz2 (by simp; omega)
  simp
  refine stpL_runs (l1Below hto3.2 4) ?_
  rintro _ H4 ⟨⟨h, rfl, -⟩, hto4⟩
  have bz4 := hto4.1.blk bz3 (by simp; omega)
  have dz4 := blkAt_len bz4
  simp [bz4, dz4, Vec.enc]
  refine fin _ _ ⟨_, _, ⟨_, _, _, _⟩, _, _⟩ ?_ (blkAt_set dz4) (((hcc2.next hto3).next hto4).set (by omega) (by omega) _)
  simp

theorem l8DrawBent {H : Heap} {c n : Nat} (hc : Cur H c n) : Runs env 92 [.ptr c 0 0] H fun v H' => (∃ x : In, v = .agg x.enc) ∧ CurTo H H' c n := by
  have hcl := hc.lt
  refine Runs.walk ok92 Tryz.func92 rfl (by simp [Tryz.f92]) fun Q hQ => ?_
  simp only [Tryz.f92, strip, stripL, stripI, stripG, chkT, tagsB, tagsL, tagD, addT, tagA, lookN, tagOp, elmT, ty22, ty26, ty27, ty28, ty29, ty30, ty41, ty53, ty56, Nat.reduceEqDiff, if_false, reduceIte, Option.getD_some, Option.getD_none, dstAt, dstOk, Nat.reduceLT, decide_true, if_true]
  have fin : ∀ (HF : Heap) (tm : Ab.T) (x : In), tm 2 = .ptr H.length 0 0 → blkAt HF H.length = some ⟨64, .wr, [x.enc]⟩ → CurTo H HF c n → Q .ret tm HF := by
    intro HF tm x t2 hb hto
    refine hQ _ _ _ (by simp) ?_
    have hres : resT env.τ tm HF (Tryz.f92.results.toList) = some [W.agg x.enc] := by simp [Tryz.f92, t2, hb]
    rw [hres, optK_some]
    exact ⟨⟨x, rfl⟩, hto.leave hc _⟩
  have hcX := hc.app [some ⟨64, .wr, [[.i .i64 0, .i .i64 0, .i .i64 0, .i .i64 0, .i .i64 0, .i .i64 0, .i .i64 0, .b false]]⟩]
  have bzX : blkAt (H ++ [some ⟨64, .wr, [[.i .i64 0, .i .i64 0, .i .i64 0, .i .i64 0, .i .i64 0, .i .i64 0, .i .i64 0, .b false]]⟩]) H.length = some ⟨64, .wr, [[.i .i64 0, .i .i64 0, .i .i64 0, .i .i64 0, .i .i64 0, .i .i64 0, .i .i64 0, .b false]]⟩ := by simp
  have hlX : (H ++ [some ⟨64, .wr, [[.i .i64 0, .i .i64 0, .i .i64 0, .i .i64 0, .i .i64 0, .i .i64 0, .i .i64 0, .b false]]⟩] : Heap).length = H.length + 1 := by simp
  simp
  refine stpL_runs (l8DrawIn hcX) ?_
  rintro _ H1 ⟨⟨x, rfl⟩, hto1⟩
  have bz1 := hto1.1.blk bzX (by simp; omega)
  have dz1 := blkAt_len bz1
  have hcc1 := hto1.base
  have hl1 := hto1.len
  rw [hlX] at hl1
  simp [In.enc]
  have hcM := hto1.2.app [some ⟨64, .wr, [[.i .i64 x.kind, .i .i64 x.port, .i .i64 x.vec.root, .i .i64 x.vec.cost, .i .i64 x.vec.bridge, .i .i64 x.vec.port, .i .i64 x.hops, .b x.up]]⟩]
  refine stpL_runs (l1Below hcM 12) ?_
  rintro _ H2 ⟨⟨k, rfl, -⟩, hto2⟩
  have b3 : blkAt H2 H1.length = some ⟨64, .wr, [[.i .i64 x.kind, .i .i64 x.port, .i .i64 x.vec.root, .i .i64 x.vec.cost, .i .i64 x.vec.bridge, .i .i64 x.vec.port, .i .i64 x.hops, .b x.up]]⟩ := hto2.1.blk (by simp) (by simp; omega)
  have bz2 := hto2.1.blk (blkAt_app bz1 _) (by simp; omega)
  have d3 := blkAt_len b3
  have dz2 := blkAt_len bz2
  have hcc2 := hcc1.next hto2.base
  have hne3 : ∀ (Y : Heap) (y : Option Blk), blkAt (List.set Y H1.length y) H.length = blkAt Y H.length := fun Y y => blkAt_set_ne (by omega)
  have hne4 : ∀ (Y : Heap) (y : Blk), H1.length < Y.length → blkAt (List.set Y H1.length (some y)) H1.length = some y := fun Y y h => blkAt_set h
  by_cases c0 : k = 0
  · simp [c0]
    refine stpL_runs (l1Below hto2.2 6) ?_
    rintro _ H3 ⟨⟨y, rfl, -⟩, hto3⟩
    have b33 := hto3.1.blk b3 (by simp; omega)
    have bz3 := hto3.1.blk bz2 (by simp; omega)
    have d33 := blkAt_len b33
    have dz3 := blkAt_len bz3
    have hcc3 := hcc2.next hto3
    simp [b33, d33, bz3, dz3, hne3, hne4, Vec.enc]
    refine fin _ _ ⟨IntKind.i64.wrap (y - 1), x.port, x.vec, x.hops, x.up⟩ ?_ (blkAt_set (Nat.lt_of_lt_of_eq dz3 (List.length_set).symm)) ((hcc3.set (by omega) (by omega) _).set (by omega) (by omega) _)
    simp
  by_cases c1 : k = 1
  · simp [c1]
    have hcL := hto2.2.app [some ⟨3, .wr, [encI (-1), encI 3, encI 4]⟩]
    simp only [encI] at hcL
    refine stpL_runs (l1PickInt (xs := [(-1), 3, 4]) hcL (Sl.of (by simp [encI])) (by simp) (by simp)) ?_
    rintro _ H3 ⟨⟨y, rfl, -⟩, hto3⟩
    have hto3 := hto3.base
    have b33 := hto3.1.blk b3 (by simp; omega)
    have bz3 := hto3.1.blk bz2 (by simp; omega)
    have d33 := blkAt_len b33
    have dz3 := blkAt_len bz3
    have hcc3 := hcc2.next hto3
    simp [b33, d33, bz3, dz3, hne3, hne4, Vec.enc]
    refine fin _ _ ⟨x.kind, y, x.vec, x.hops, x.up⟩ ?_ (blkAt_set (Nat.lt_of_lt_of_eq dz3 (List.length_set).symm)) ((hcc3.set (by omega) (by omega) _).set (by omega) (by omega) _)
    simp
  by_cases c2 : k = 2
  · simp [c2]
    refine stpL_runs (l6Draw hto2.2) ?_
    rintro _ H3 ⟨⟨y, rfl⟩, hto3⟩
    have b33 := hto3.1.blk b3 (by simp; omega)
    have bz3 := hto3.1.blk bz2 (by simp; omega)
    have d33 := blkAt_len b33
    have dz3 := blkAt_len bz3
    have hcc3 := hcc2.next hto3
    simp [b33, d33, bz3, dz3, hne3, hne4, Vec.enc]
    refine fin _ _ ⟨x.kind, x.port, y, x.hops, x.up⟩ ?_ (blkAt_set (Nat.lt_of_lt_of_eq dz3 (List.length_set).symm)) ((hcc3.set (by omega) (by omega) _).set (by omega) (by omega) _)
    simp
  by_cases c3 : k = 3
  · simp [c3]
    have hcL := hto2.2.app [some ⟨3, .wr, [encI (-1), encI 8, encI 9]⟩]
    simp only [encI] at hcL
    refine stpL_runs (l1PickInt (xs := [(-1), 8, 9]) hcL (Sl.of (by simp [encI])) (by simp) (by simp)) ?_
    rintro _ H3 ⟨⟨y, rfl, -⟩, hto3⟩
    have hto3 := hto3.base
    have b33 := hto3.1.blk b3 (by simp; omega)
    have bz3 := hto3.1.blk bz2 (by simp; omega)
    have d33 := blkAt_len b33
    have dz3 := blkAt_len bz3
    have hcc3 := hcc2.next hto3
    simp [b33, d33, bz3, dz3, hne3, hne4, Vec.enc]
    refine fin _ _ ⟨x.kind, x.port, x.vec, y, x.up⟩ ?_ (blkAt_set (Nat.lt_of_lt_of_eq dz3 (List.length_set).symm)) ((hcc3.set (by omega) (by omega) _).set (by omega) (by omega) _)
    simp
  simp [c0, c1, c2, c3, b3, d3, bz2, dz2]
  refine fin _ _ ⟨_, _, ⟨_, _, _, _⟩, _, _⟩ ?_ (blkAt_set dz2) (hcc2.set (by omega) (by omega) _)
  simp

theorem l1New {H : Heap} {a : Option (Nat × Nat)} {bs : List Int} (hs : Sl H 5 a (bs.map encU)) (hn : bs.length ≤ 1048576) : Runs env 47 [.w (.lf (.sl a bs.length))] H fun v H' => ∃ c, v = .ptr c 0 0 ∧ Cur H' c bs.length ∧ H.length ≤ c ∧ Keep [] H H' := by
  have hw : IntKind.i64.wrap (27397 + (bs.length : Int)) = 27397 + (bs.length : Int) := wrap64 (by omega) (by omega)
  refine Runs.walk ok47 Tryz.func47 rfl (by simp [Tryz.f47]) fun Q hQ => ?_
  simp only [Tryz.f47, strip, stripL, stripI, stripG, chkT, tagsB, tagsL, tagD, addT, tagA, lookN, tagOp, elmT, ty22, ty26, ty27, ty28, ty29, ty30, ty41, ty53, ty56, Nat.reduceEqDiff, if_false, reduceIte, Option.getD_some, Option.getD_none, dstAt, dstOk, Nat.reduceLT, decide_true, if_true]
  have fin : ∀ (tm : Ab.T) (h : Int), tm 2 = .ptr H.length 0 0 → Q .ret tm (H ++ [some ⟨113, .wr, [[.sl a bs.length, .i .i64 0, .i .i64 h]]⟩]) := by
    intro tm h t2
    refine hQ _ _ _ (by simp) ?_
    simp [Tryz.f47, t2, leave, refFree]
    refine ⟨⟨a, 0, h, bs, by simp, by omega, by omega, rfl, hn, fun id r he hb => ?_, hs.app _⟩, Keep.app _ _ _⟩
    subst he
    exact hs.len (by simpa using hb)
  simp [builtinV, pureB, lenV, hw]
  refine wpS_loop (fun j tm H' => ∃ (i : Nat) (h : Int), i + j = bs.length ∧ tm 0 = .w (.lf (.sl a bs.length)) ∧ tm 3 = .int h ∧ tm 4 = .int i ∧ H' = H) bs.length (by rw [env_K]; omega) ⟨0, 27397 + bs.length, by simp, by simp, by simp, by simp, rfl⟩ ?_
  rintro j tm H1 hj ⟨i, h, hij, t0, t3, t4, rfl⟩ Q2 hn2 he2 hr2
  simp [t0, t3, t4, builtinV, pureB, lenV]
  have out : ∀ tm : Ab.T, tm 0 = .w (.lf (.sl a bs.length)) → tm 3 = .int h → Q2 (.exit 0) tm H1 := by
    intro tm s0 s3
    refine he2 _ _ _ ?_
    simp [s0, s3]
    refine fin _ h ?_
    simp
  by_cases hc1 : (i : Int) < bs.length
  · have hk : i < bs.length := by omega
    by_cases hc2 : (i : Int) < 4000
    · obtain ⟨id3, r3, bl3, rfl, hb3, hbe3, hrow3⟩ := hs i _ (by rw [List.getElem?_map, List.getElem?_eq_getElem hk]; rfl)
      have hid3 := blkAt_len hb3
      have hw2 : IntKind.i64.wrap ((i : Int) + 1) = (i : Int) + 1 := wrap64 (by omega) (by omega)
      have hc2' : i < 4000 := by omega
      simp [hc1, hk, hc2, hc2', t0, t3, t4, hb3, hid3, hbe3, hrow3, indexAddrV, elemIs, encU, binV, binInt, cmpI, arI, IntKind.bits, convV, hw2]
      refine hn2 (j - 1) _ _ (by omega) ⟨i + 1, _, by omega, by simp [t0], by simp; rfl, by simp, rfl⟩
    · have hc2' : ¬ i < 4000 := by omega
      simp [hc1, hk, hc2, hc2', t0, t3, t4]
      exact out _ (by simp [t0]) (by simp [t3])
  · have hk : ¬ i < bs.length := by omega
    simp [hc1, hk, t0, t3, t4]
    exact out _ (by simp [t0]) (by simp [t3])

theorem l15DrawDeed {H : Heap} {c n : Nat} (hc : Cur H c n) {l : List Lf} {x : Box} (h : RdBox H l x) (hn : x.net.length ≤ 1048576) : Runs env 86 [.ptr c 0 0, .agg l] H fun v H' => (∃ d : Deed, v = .agg d.enc ∧ 1 ≤ d.kind ∧ d.kind ≤ 12) ∧ CurTo H H' c n := by
  have hcl := hc.lt
  obtain ⟨q0, q1, q2, q3, q4, rfl, -, ⟨a1, rfl, -⟩, -⟩ := h
  refine Runs.walk ok86 Tryz.func86 rfl (by simp [Tryz.f86]) fun Q hQ => ?_
  simp only [Tryz.f86, strip, stripL, stripI, stripG, chkT, tagsB, tagsL, tagD, addT, tagA, lookN, tagOp, elmT, ty22, ty26, ty27, ty28, ty29, ty30, ty41, ty53, ty56, Nat.reduceEqDiff, if_false, reduceIte, Option.getD_some, Option.getD_none, dstAt, dstOk, Nat.reduceLT, decide_true, if_true]
  obtain ⟨X, hX⟩ : ∃ X : Heap, X = H ++ [some ⟨32, .wr, [[.i .i64 x.id, .i .i64 x.ports, .i .i64 x.reg.epoch, .i .i64 x.reg.owner, .i .i64 x.reg.pair, q0, .sl a1 x.net.length, q2, q3, q4]]⟩, some ⟨66, .wr, [[.i .i64 0, .i .i64 0, .i .i64 0, .i .i64 0, .i .i64 0, .i .i64 0, .i .i64 0, .i .i64 0, .i .i64 0, .b false]]⟩] := ⟨_, rfl⟩
  have b0X : blkAt X H.length = some ⟨32, .wr, [[.i .i64 x.id, .i .i64 x.ports, .i .i64 x.reg.epoch, .i .i64 x.reg.owner, .i .i64 x.reg.pair, q0, .sl a1 x.net.length, q2, q3, q4]]⟩ := by rw [hX]; simp
  have bzX : blkAt X (H.length + 1) = some ⟨66, .wr, [[.i .i64 0, .i .i64 0, .i .i64 0, .i .i64 0, .i .i64 0, .i .i64 0, .i .i64 0, .i .i64 0, .i .i64 0, .b false]]⟩ := by rw [hX]; simp
  have hcX : CurTo H X c n := by rw [hX]; exact (CurTo.refl hc).app _
  simp [Box.enc]
  rw [← hX]
  have hlX : X.length = H.length + 2 := by rw [hX]; simp
  clear hX
  have fin : ∀ (HF : Heap) (tm : Ab.T) (d : Deed) (L : List Lf), L = d.enc → tm 4 = .ptr (H.length + 1) 0 0 → H.length + 1 < HF.length → CurTo H HF c n → 1 ≤ d.kind → d.kind ≤ 12 → Q .ret tm (HF.set (H.length + 1) (some ⟨66, .wr, [L]⟩)) := by
    intro HF tm d L hL t4 hlt hto h1 h2
    subst hL
    refine hQ _ _ _ (by simp) ?_
    have hb : blkAt (HF.set (H.length + 1) (some ⟨66, .wr, [d.enc]⟩)) (H.length + 1) = some ⟨66, .wr, [d.enc]⟩ := blkAt_set hlt
    have hres : resT env.τ tm (HF.set (H.length + 1) (some ⟨66, .wr, [d.enc]⟩)) (Tryz.f86.results.toList) = some [W.agg d.enc] := by simp [Tryz.f86, t4, hb]
    rw [hres, optK_some]
    exact ⟨⟨d, rfl, h1, h2⟩, (hto.set (by omega) (by omega) _).leave hc _⟩
  refine stpL_runs (l1Below hcX.2 2) ?_
  rintro _ H1 ⟨⟨w, rfl, -⟩, hto1⟩
  simp
  refine stpL_runs (l1Below hto1.2 18) ?_
  rintro _ H2 ⟨⟨k, rfl, -⟩, hto2⟩
  have hto := hto1.next hto2
  have b0 := hto.1.blk b0X (by simp; omega)
  have bz := hto.1.blk bzX (by simp; omega)
  have d0 := blkAt_len b0
  have dz := blkAt_len bz
  have hcc := hcX.next hto
  have hne : ∀ (Y : Heap) (y : Option Blk) (i : Nat), H.length + 1 < i → blkAt (List.set Y i y) (H.length + 1) = blkAt Y (H.length + 1) := fun Y y i h => blkAt_set_ne (by omega)
  have shut : ∀ (tm : Ab.T) (kd a : Int), 1 ≤ kd → kd ≤ 12 → tm 4 = .ptr (H.length + 1) 0 0 → Q .ret tm (H2.set (H.length + 1) (some ⟨66, .wr, [[.i .i64 kd, .i .i64 a, .i .i64 0, .i .i64 0, .i .i64 0, .i .i64 0, .i .i64 0, .i .i64 0, .i .i64 0, .b false]]⟩)) := fun tm kd a h1 h2 t4 => fin _ tm ⟨kd, a, ⟨0, 0, ⟨0, 0, 0, 0⟩, 0, false⟩⟩ _ rfl t4 dz hcc h1 h2
  by_cases c012 : k = 0 ∨ k = 1 ∨ k = 2
  · rcases c012 with rfl | rfl | rfl
    all_goals
      simp
      refine stpL_runs (l8DrawIn hto2.2) ?_
      rintro _ H3 ⟨⟨y, rfl⟩, hto3⟩
      have b03 := hto3.1.blk b0 (by simp; omega)
      have bz3 := hto3.1.blk bz (by simp; omega)
      have d03 := blkAt_len b03
      have dz3 := blkAt_len bz3
      have hcc3 := hcc.next hto3
      have hl3 := hcc3.len
      have hl23 := hto3.len
      have hl12 := hto.len
      simp [In.enc]
      by_cases ck : y.kind = 2
      · have bz3A := fun G => blkAt_app bz3 G
        have g9 : H.length + 1 < H3.length + 1 := by omega
        simp [ck, bz3A, g9, -set_lt]
        refine fin _ _ ⟨1, 0, ⟨2, y.port, y.vec, y.hops, y.up⟩⟩ _ rfl ?_ (by simp; omega) (hcc3.app _) (by simp) (by simp)
        simp
      · have b03A := fun G => blkAt_app b03 G
        simp [ck, b03A, show H.length < H3.length + 1 by omega, l1Max]
        have hcM := (hto3.app [some ⟨64, .wr, [[.i .i64 y.kind, .i .i64 y.port, .i .i64 y.vec.root, .i .i64 y.vec.cost, .i .i64 y.vec.bridge, .i .i64 y.vec.port, .i .i64 y.hops, .b y.up]]⟩])
        refine stpL_runs (l1Below hcM.2 (max x.ports 1)) ?_
        rintro _ H4 ⟨⟨z, rfl, -⟩, hto4⟩
        have b7 : blkAt H4 H3.length = some ⟨64, .wr, [[.i .i64 y.kind, .i .i64 y.port, .i .i64 y.vec.root, .i .i64 y.vec.cost, .i .i64 y.vec.bridge, .i .i64 y.vec.port, .i .i64 y.hops, .b y.up]]⟩ := hto4.1.blk (by simp) (by simp; omega)
        have bz4 := hto4.1.blk (blkAt_app bz3 _) (by simp; omega)
        have d7 := blkAt_len b7
        have dz4 := blkAt_len bz4
        have hset7 : ∀ y : Blk, blkAt (List.set H4 H3.length (some y)) H3.length = some y := fun y => blkAt_set d7
        have hne7 : ∀ y : Option Blk, blkAt (List.set H4 H3.length y) (H.length + 1) = blkAt H4 (H.length + 1) := fun y => blkAt_set_ne (by omega)
        simp [b7, d7, hset7, hne7, bz4, dz4]
        refine fin _ _ ⟨1, 0, ⟨y.kind, z, y.vec, y.hops, y.up⟩⟩ _ rfl ?_ (by simpa using dz4) (((hcc3.app _).next hto4).set (by omega) (by omega) _) (by simp) (by simp)
        simp
  have n0 : ¬ k = 0 := fun h => c012 (.inl h)
  have n1 : ¬ k = 1 := fun h => c012 (.inr (.inl h))
  have n2 : ¬ k = 2 := fun h => c012 (.inr (.inr h))
  by_cases c345 : k = 3 ∨ k = 4 ∨ k = 5
  · rcases c345 with rfl | rfl | rfl
    all_goals
      simp [bz, dz]
      refine shut _ 2 _ (by omega) (by omega) ?_
      simp
  have n3 : ¬ k = 3 := fun h => c345 (.inl h)
  have n4 : ¬ k = 4 := fun h => c345 (.inr (.inl h))
  have n5 : ¬ k = 5 := fun h => c345 (.inr (.inr h))
  by_cases c6789 : k = 6 ∨ k = 7 ∨ k = 8 ∨ k = 9
  · rcases c6789 with rfl | rfl | rfl | rfl
    all_goals
      simp [b0, d0, builtinV, pureB, lenV, l1Max]
      refine stpL_runs (l1Below hto2.2 (max (x.net.length : Int) 1)) ?_
      rintro _ H3 ⟨⟨z, rfl, -⟩, hto3⟩
      have bz3 := hto3.1.blk bz (by simp; omega)
      have dz3 := blkAt_len bz3
      simp [bz3, dz3]
      refine fin _ _ ⟨3, z, ⟨0, 0, ⟨0, 0, 0, 0⟩, 0, false⟩⟩ _ rfl ?_ dz3 (hcc.next hto3) (by simp) (by simp)
      simp
  have n6 : ¬ k = 6 := fun h => c6789 (.inl h)
  have n7 : ¬ k = 7 := fun h => c6789 (.inr (.inl h))
  have n8 : ¬ k = 8 := fun h => c6789 (.inr (.inr (.inl h)))
  have n9 : ¬ k = 9 := fun h => c6789 (.inr (.inr (.inr h)))
  by_cases c10 : k = 10 ∨ k = 11
  · rcases c10 with rfl | rfl
    all_goals
      simp [bz, dz]
      refine shut _ 6 0 (by omega) (by omega) ?_
      simp
  have n10 : ¬ k = 10 := fun h => c10 (.inl h)
  have n11 : ¬ k = 11 := fun h => c10 (.inr h)
  by_cases c12 : k = 12
  · subst c12
    simp [bz, dz]
    refine shut _ 10 _ (by omega) (by omega) ?_
    simp
  by_cases c13 : k = 13
  · subst c13
    simp
    have hcL := hto2.2.app [some ⟨3, .wr, [encI 4, encI 5, encI 11]⟩]
    simp only [encI] at hcL
    refine stpL_runs (l1PickInt (xs := [4, 5, 11]) hcL (Sl.of (by simp [encI])) (by simp) (by simp)) ?_
    rintro _ H3 ⟨⟨z, rfl, hz⟩, hto3⟩
    have hto3 := hto3.base
    have bz3 := hto3.1.blk bz (by simp; omega)
    have dz3 := blkAt_len bz3
    simp [bz3, dz3]
    refine fin _ _ ⟨z, _, ⟨0, 0, ⟨0, 0, 0, 0⟩, 0, false⟩⟩ _ rfl ?_ dz3 (hcc.next hto3) (by simp at hz; simp only; omega) (by simp at hz; simp only; omega)
    simp
  by_cases c14 : k = 14
  · subst c14
    simp [bz, dz]
    refine shut _ 7 _ (by omega) (by omega) ?_
    simp
  by_cases c15 : k = 15
  · subst c15
    simp [bz, dz]
    refine shut _ 8 _ (by omega) (by omega) ?_
    simp
  by_cases c16 : k = 16
  · subst c16
    simp [bz, dz]
    refine shut _ 9 _ (by omega) (by omega) ?_
    simp
  · simp [n0, n1, n2, n3, n4, n5, n6, n7, n8, n9, n10, n11, c12, c13, c14, c15, c16, bz, dz]
    refine shut _ 12 _ (by omega) (by omega) ?_
    simp

theorem l15DrawRun {H : Heap} {c n : Nat} (hc : Cur H c n) (most : Int) (hm0 : 0 ≤ most) (hm1 : most ≤ 1000) : Runs env 83 [.ptr c 0 0, .int most] H fun v H' => (∃ (l : List Lf) (x : Box) (fp : List Nat) (q : Lf) (ds : List Deed) (fd : List Nat) (l2 : List Lf) (y : Box) (fp2 : List Nat), v = .tup [.agg l, .lf q, .agg l2] ∧ IsBox H' l x fp ∧ IsDeedS H' q ds fd ∧ IsBox H' l2 y fp2 ∧ x.ok = true ∧ y.ok = true ∧ (boxNew x.id x.ports).2 = true ∧ ds.length ≤ most ∧ (∀ i ∈ fp, H.length ≤ i) ∧ (∀ i ∈ fd, H.length ≤ i) ∧ (∀ i ∈ fp2, H.length ≤ i) ∧ (∀ i ∈ fp2, i ∉ fd) ∧ ∀ i ∈ fp, i ∉ fd ∧ i ∉ fp2) ∧ CurTo H H' c n := by
  have hcl := hc.lt
  refine Runs.walk ok83 Tryz.func83 rfl (by simp [Tryz.f83]) fun Q hQ => ?_
  simp only [Tryz.f83, strip, stripL, stripI, stripG, chkT, tagsB, tagsL, tagD, addT, tagA, lookN, tagOp, elmT, ty22, ty26, ty27, ty28, ty29, ty30, ty41, ty53, ty56, Nat.reduceEqDiff, if_false, reduceIte, Option.getD_some, Option.getD_none, dstAt, dstOk, Nat.reduceLT, decide_true, if_true]
  obtain ⟨X, hX⟩ : ∃ X : Heap, X = H ++ [some ⟨32, .wr, [[.i .i64 0, .i .i64 0, .i .i64 0, .i .i64 0, .i .i64 0, .sl none 0, .sl none 0, .sl none 0, .sl none 0, .sl none 0]]⟩, some ⟨32, .wr, [[.i .i64 0, .i .i64 0, .i .i64 0, .i .i64 0, .i .i64 0, .sl none 0, .sl none 0, .sl none 0, .sl none 0, .sl none 0]]⟩] := ⟨_, rfl⟩
  have bzX : blkAt X H.length = some ⟨32, .wr, [[.i .i64 0, .i .i64 0, .i .i64 0, .i .i64 0, .i .i64 0, .sl none 0, .sl none 0, .sl none 0, .sl none 0, .sl none 0]]⟩ := by rw [hX]; simp
  have bwX : blkAt X (H.length + 1) = some ⟨32, .wr, [[.i .i64 0, .i .i64 0, .i .i64 0, .i .i64 0, .i .i64 0, .sl none 0, .sl none 0, .sl none 0, .sl none 0, .sl none 0]]⟩ := by rw [hX]; simp
  have hcX : CurTo H X c n := by rw [hX]; exact (CurTo.refl hc).app _
  simp
  rw [← hX]
  have hlX : X.length = H.length + 2 := by rw [hX]; simp
  clear hX
  refine stpL_runs (l1Below hcX.2 5) ?_
  rintro _ H1 ⟨⟨a, rfl, ha0, ha1, -⟩, hto1⟩
  simp
  refine stpL_runs (l1Below hto1.2 4) ?_
  rintro _ H2 ⟨⟨b, rfl, hb0, hb1, -⟩, hto2⟩
  have hto := hto1.next hto2
  have w1 : IntKind.i64.wrap (1 + a) = 1 + a := wrap64 (by omega) (by omega)
  have w2 : IntKind.i64.wrap (1 + b) = 1 + b := wrap64 (by omega) (by omega)
  simp [w1, w2]
  refine stpL_runs (specBoxNew_is (1 + a) (by unfold I64; omega) (1 + b) (by unfold I64; omega)) ?_
  rintro _ _ ⟨l1, f1, rfl, o1, ⟨⟨G3, rfl⟩, hf1⟩⟩
  have hbn : (bridgeNew (1 + a) (1 + b)).2 = true := by unfold bridgeNew; rw [if_pos (by simp; omega)]
  have hbx : boxNew (1 + a) (1 + b) = (⟨1 + a, 1 + b, ⟨1, 0, 0⟩, [newM0, newM1], [], List.replicate (1 + b).toNat false, [], []⟩, true) := by simp [boxNew, hbn]
  have hx0 := boxNew_ok hbn
  have hxid : (boxNew (boxNew (1 + a) (1 + b)).1.id (boxNew (1 + a) (1 + b)).1.ports).2 = true := by rw [hbx]; simp only; rw [hbx]
  rw [show (boxNew (1 + a) (1 + b)).1 = (⟨1 + a, 1 + b, ⟨1, 0, 0⟩, [newM0, newM1], [], List.replicate (1 + b).toNat false, [], []⟩ : Box) by rw [hbx]] at o1 hxid
  obtain ⟨x0, hx0d⟩ : ∃ x0 : Box, x0 = ⟨1 + a, 1 + b, ⟨1, 0, 0⟩, [newM0, newM1], [], List.replicate (1 + b).toNat false, [], []⟩ := ⟨_, rfl⟩
  rw [← hx0d] at o1 hx0 hxid
  have hs0 := (Box.smallOf hx0).1.sz
  have hL1 := o1.len
  have hT1 : l1.take l1.length = l1 := List.take_length
  rw [hL1] at hT1
  have hlt1 := o1.lt
  simp [hL1, hT1]
  have o1a := o1.app [some ⟨32, .wr, [l1]⟩]
  have hcp := specCopyBox o1a.rd (by omega)
  rw [List.append_assoc] at hcp o1a
  refine stpL_runs hcp ?_
  rintro _ _ ⟨l2, f2, rfl, o2, ⟨⟨G4, rfl⟩, hf2⟩⟩
  have hL2 := o2.len
  have hT2 : l2.take l2.length = l2 := List.take_length
  rw [hL2] at hT2
  have hlt2 := o2.lt
  simp [hL2, hT2]
  obtain ⟨K7, hK7⟩ : ∃ K, K = H2.length + G3.length := ⟨_, rfl⟩
  obtain ⟨K9, hK9⟩ : ∃ K, K = H2.length + (G3.length + (G4.length + 1)) := ⟨_, rfl⟩
  obtain ⟨KD, hKD⟩ : ∃ K, K = H2.length + (G3.length + (G4.length + 2)) := ⟨_, rfl⟩
  obtain ⟨Y, hY⟩ : ∃ Y : Heap, Y = H2 ++ (G3 ++ some ⟨32, .wr, [l1]⟩ :: (G4 ++ [some ⟨32, .wr, [l2]⟩, some ⟨66, .wr, []⟩])) := ⟨_, rfl⟩
  have h2l : H.length + 2 ≤ H2.length := by have := hto.len; omega
  have y7 : blkAt Y K7 = some ⟨32, .wr, [l1]⟩ := by rw [hY, hK7]; simp
  have y9 : blkAt Y K9 = some ⟨32, .wr, [l2]⟩ := by rw [hY, hK9]; simp
  have yD : blkAt Y KD = some ⟨66, .wr, []⟩ := by rw [hY, hKD]; simp
  have oy1 : IsBox Y l1 x0 f1 := by
    have := o1a.app (G4 ++ [some ⟨32, .wr, [l2]⟩, some ⟨66, .wr, []⟩])
    simp only [List.append_assoc, List.cons_append, List.nil_append] at this
    rw [hY]; exact this
  have oy2 : IsBox Y l2 x0 f2 := by
    have := o2.app [some ⟨32, .wr, [l2]⟩, some ⟨66, .wr, []⟩]
    simp only [List.append_assoc, List.cons_append, List.nil_append] at this
    rw [hY]; exact this
  have hcY : CurTo H Y c n := by rw [hY]; exact (hcX.next hto).app _
  have bz2 := hto.1.blk bzX (by simp; omega)
  have bw2 := hto.1.blk bwX (by simp; omega)
  have bzY := (show blkAt Y H.length = blkAt H2 H.length by rw [hY]; exact blkAt_lt (blkAt_len bz2) _).trans bz2
  have bwY := (show blkAt Y (H.length + 1) = blkAt H2 (H.length + 1) by rw [hY]; exact blkAt_lt (blkAt_len bw2) _).trans bw2
  have hf1Y : ∀ k ∈ f1, H.length + 2 ≤ k ∧ k ≠ K7 ∧ k ≠ K9 ∧ k < K7 := fun k hk => by have := hf1 k hk; have := hlt1 k hk; simp at this; omega
  have hf2Y : ∀ k ∈ f2, H.length + 2 ≤ k ∧ k ≠ K7 ∧ k ≠ K9 ∧ K7 < k ∧ k < K9 := fun k hk => by have h1 := hf2 k hk; have h2 := hlt2 k hk; simp at h1 h2; omega
  have oD : IsDeedS Y (.sl (some (KD, 0)) 0) [] [KD] := ⟨some (KD, 0), rfl, Own.of yD⟩
  rw [← hY, ← hK7, ← hK9, ← hKD]
  have hKs : H.length + 2 ≤ K7 ∧ K7 < K9 ∧ K9 < KD := by omega
  clear hY hK7 hK9 hKD o1 o1a o2 hf1 hf2 hlt1 hlt2 hcp
  have hwm : IntKind.i64.wrap (most + 1) = most + 1 := wrap64 (by omega) (by omega)
  simp [hwm]
  refine stpL_runs (l1Below hcY.2 (most + 1)) ?_
  rintro _ S ⟨⟨nn, rfl, hn0, hn1, -⟩, htoS⟩
  have hnm := hn1 (by omega)
  obtain ⟨N, rfl⟩ : ∃ N : Nat, nn = (N : Int) := ⟨nn.toNat, by omega⟩
  have no : ∀ i, H.length ≤ i → i ∉ [c] := fun i hi hj => by simp at hj; omega
  have s7 := htoS.1.blk y7 (no _ (by omega))
  have s9 := htoS.1.blk y9 (no _ (by omega))
  have bzS := htoS.1.blk bzY (no _ (by omega))
  have bwS := htoS.1.blk bwY (no _ (by omega))
  have os1 := oy1.keep htoS.1 (fun k hk => no k (by have := hf1Y k hk; omega))
  have os2 := oy2.keep htoS.1 (fun k hk => no k (by have := hf2Y k hk; omega))
  have oDS := oD.keep htoS.1 (fun k hk => no k (by simp at hk; omega))
  have hcS := hcY.next htoS
  clear y7 y9 yD oy1 oy2 oD bzY bwY htoS hcY
  simp
  refine wpS_loop (fun j tm H' => ∃ (i : Nat) (l : List Lf) (y : Box) (f : List Nat) (q : Lf) (ds : List Deed) (fd : List Nat), i + j = N ∧ tm 0 = .ptr c 0 0 ∧ tm 4 = .ptr H.length 0 0 ∧ tm 6 = .ptr (H.length + 1) 0 0 ∧ tm 7 = .ptr K7 0 0 ∧ tm 9 = .ptr K9 0 0 ∧ tm 10 = .w (.lf q) ∧ tm 11 = .int N ∧ tm 12 = .int i ∧ blkAt H' K7 = some ⟨32, .wr, [l1]⟩ ∧ IsBox H' l1 x0 f1 ∧ blkAt H' K9 = some ⟨32, .wr, [l]⟩ ∧ IsBox H' l y f ∧ y.ok = true ∧ IsDeedS H' q ds fd ∧ ds.length = i ∧ CurTo H H' c n ∧ blkAt H' H.length = some ⟨32, .wr, [[.i .i64 0, .i .i64 0, .i .i64 0, .i .i64 0, .i .i64 0, .sl none 0, .sl none 0, .sl none 0, .sl none 0, .sl none 0]]⟩ ∧ blkAt H' (H.length + 1) = some ⟨32, .wr, [[.i .i64 0, .i .i64 0, .i .i64 0, .i .i64 0, .i .i64 0, .sl none 0, .sl none 0, .sl none 0, .sl none 0, .sl none 0]]⟩ ∧ (∀ k ∈ f, K7 < k ∧ k ≠ K9) ∧ (∀ k ∈ fd, K9 < k) ∧ ∀ k ∈ f, k ∉ fd) N (by rw [env_K]; omega)
    ⟨0, l2, x0, f2, .sl (some (KD, 0)) 0, [], [KD], by simp, by simp, by simp, by simp, by simp, by simp, by simp, by simp, by simp, s7, os1, s9, os2, hx0, oDS, rfl, hcS, bzS, bwS, fun k hk => by have := hf2Y k hk; omega, by simp; omega, fun k hk hk2 => by have := hf2Y k hk; simp at hk2; omega⟩ ?_
  rintro j tm A hj ⟨i, l, y, f, q, ds, fd, hij, t0, t4, t6, t7, t9, t10, t11, t12, a7, oa1, a9, oa, hyok, oq, hdl, hcA, bzA, bwA, hfa, hfda, hdj⟩ Q2 hn2 he2 hr2
  have hL := oa.len
  have hT : l.take l.length = l := List.take_length
  rw [hL] at hT
  have hD10 : l.drop 10 = [] := by rw [← hL]; exact List.drop_length
  have d7 := blkAt_len a7
  have d9 := blkAt_len a9
  have hysz := (Box.smallOf hyok).1
  have hysz2 := hysz.sz
  simp [t12, t11]
  refine selS_intro (fun hc1 => ?_) (fun hc1 => ?_)
  · simp at hc1
    have hw : IntKind.i64.wrap ((i : Int) + 1) = (i : Int) + 1 := wrap64 (by omega) (by omega)
    simp [t0, t9, a9, d9, hL, hT]
    refine stpL_runs (l15DrawDeed hcA.2 oa.rd (by have := hysz.net; omega)) ?_
    rintro _ B ⟨⟨d, rfl, hd1, hd2⟩, htoB⟩
    have b7 := htoB.1.blk a7 (no _ (by omega))
    have b9 := htoB.1.blk a9 (no _ (by omega))
    have bzB := htoB.1.blk bzA (no _ (by omega))
    have bwB := htoB.1.blk bwA (no _ (by omega))
    have ob1 := oa1.keep htoB.1 (fun k hk => no k (by have := hf1Y k hk; omega))
    have ob := oa.keep htoB.1 (fun k hk => no k (by have := hfa k hk; omega))
    have oqB := oq.keep htoB.1 (fun k hk => no k (by have := hfda k hk; omega))
    have hcB := hcA.next htoB
    have hAB := htoB.len
    have d9B := blkAt_len b9
    clear oa oa1 oq a7 a9 bzA bwA htoB hcA
    obtain ⟨aq, rfl, owq⟩ := oqB
    simp [Deed.enc, t10]
    refine stpL_append (e := 66) (rows := ds.map Deed.enc) (ys := [d.enc]) (owq.app _) (Sl.of (by simp [Deed.enc])) rfl rfl rfl (by simp) (by simp; omega) (by simp) rfl fun aa C fc hoC hkC hfC => ?_
    have kC : Keep fd B C := hkC.base
    have hltq := owq.lt
    have c13 : blkAt C B.length = some ⟨66, .wr, [[.i .i64 d.kind, .i .i64 d.a, .i .i64 d.inn.kind, .i .i64 d.inn.port, .i .i64 d.inn.vec.root, .i .i64 d.inn.vec.cost, .i .i64 d.inn.vec.bridge, .i .i64 d.inn.vec.port, .i .i64 d.inn.hops, .b d.inn.up]]⟩ := hkC.blk (by simp) (fun h => by have := hltq _ h; omega)
    have c7 := kC.blk b7 (fun h => by have := hfda _ h; omega)
    have c9 := kC.blk b9 (fun h => by have := hfda _ h; omega)
    have bzC := kC.blk bzB (fun h => by have := hfda _ h; omega)
    have bwC := kC.blk bwB (fun h => by have := hfda _ h; omega)
    have oc1 := ob1.keep kC (fun k hk h => by have := hfda _ h; have := hf1Y k hk; omega)
    have oc := ob.keep kC hdj
    have hcC := hcB.own kC (fun k hk => by have := hfda k hk; omega) hcl
    have hBC := kC.1
    have hltb := ob.lt
    have hfc : ∀ k ∈ fc, K9 < k ∧ (k ∈ fd ∨ B.length ≤ k) := fun k hk => by
      rcases hfC k hk with h | h
      · exact ⟨hfda k h, .inl h⟩
      · simp at h; exact ⟨by omega, .inr (by omega)⟩
    have hqC : IsDeedS C (.sl aa (ds.length + 1)) (ds ++ [d]) fc := ⟨aa, by simp, by simpa using hoC⟩
    have d9C := blkAt_len c9
    have d13 := blkAt_len c13
    have hdjC : ∀ k ∈ f, k ∉ fc := fun k hk h => by
      rcases (hfc k h).2 with h | h
      · exact hdj k hk h
      · have := hltb k hk; omega
    have h49 : (H.length != K9) = true := by simp; omega
    simp [t4, t9, c9, d9C, hL, hT, h49]
    refine stpL_runs_f (specCopyBox oc.rd (by omega)) (by rintro _ _ ⟨_, _, _, _, hf⟩; exact hf.1) ?_
    rintro _ _ ⟨l4, f4, rfl, o4, ⟨⟨G4', rfl⟩, hf4⟩⟩
    have h15 := l15One o4 hysz hyok d ⟨hd1, hd2⟩
    simp only [Deed.enc] at h15
    have c13A := blkAt_app c13 G4'
    have d13A : B.length < C.length + G4'.length := by omega
    simp [c13A, d13A]
    refine stpL_runs_w h15 rfl (by rintro _ _ ⟨_, _, _, _, hk, _⟩; have := hk.1; exact this) ?_
    rintro _ D ⟨l5, rfl, bv⟩
    obtain ⟨f5, o5, k5, hf5⟩ := bv
    obtain ⟨z, hz⟩ : ∃ z, z = (deedD y d).1 := ⟨_, rfl⟩
    obtain ⟨cd, hcd⟩ : ∃ cd, cd = (deedD y d).2 := ⟨_, rfl⟩
    have hzs := (deedD_small hyok d).sz
    rw [← hz] at hzs o5
    rw [← hcd]
    have kD : Keep [] C D := (Keep.app [] C G4').next k5 (fun i hi => hf4 i hi)
    have hCD := kD.1
    have e7 := kD.blk c7 (by simp)
    have e9 := kD.blk c9 (by simp)
    have bzD := kD.blk bzC (by simp)
    have bwD := kD.blk bwC (by simp)
    have od1 := oc1.keep kD (by simp)
    have od := oc.keep kD (by simp)
    have hqD := hqC.keep kD (by simp)
    have hcD := hcC.own kD (by simp) hcl
    have hf5' : ∀ k ∈ f5, C.length ≤ k := fun k hk => by
      rcases hf5 k hk with h | h
      · exact hf4 k h
      · rw [List.length_append] at h; omega
    have hL5 := o5.len
    have hT5 : l5.take l5.length = l5 := List.take_length
    rw [hL5] at hT5
    have d9D := blkAt_len e9
    have hltc := hqC.lt
    have e2 := fun G => specBoxOk_is (o5.app G).rd (by omega)
    have o5A := fun G => o5.app G
    have next : ∀ (tm2 : Ab.T), tm2 0 = .ptr c 0 0 → tm2 4 = .ptr H.length 0 0 → tm2 6 = .ptr (H.length + 1) 0 0 → tm2 7 = .ptr K7 0 0 → tm2 9 = .ptr K9 0 0 → tm2 10 = .w (.lf (.sl aa (ds.length + 1))) → tm2 11 = .int N → tm2 12 = .int ((i : Int) + 1) → ∀ G, Q2 .normal tm2 (D ++ G) := by
      intro tm2 s0 s4 s6 s7 s9 s10 s11 s12 G
      refine hn2 (j - 1) _ _ (by omega) ⟨i + 1, l, y, f, _, ds ++ [d], fc, by omega, s0, s4, s6, s7, s9, s10, s11, by simpa using s12, blkAt_app e7 G, od1.app G, blkAt_app e9 G, od.app G, hyok, hqD.app G, by simp [hdl], hcD.app G, blkAt_app bzD G, blkAt_app bwD G, hfa, fun k hk => (hfc k hk).1, hdjC⟩
    have step : ∀ (tm2 : Ab.T), z.ok = true → tm2 0 = .ptr c 0 0 → tm2 4 = .ptr H.length 0 0 → tm2 6 = .ptr (H.length + 1) 0 0 → tm2 7 = .ptr K7 0 0 → tm2 9 = .ptr K9 0 0 → tm2 10 = .w (.lf (.sl aa (ds.length + 1))) → tm2 11 = .int N → tm2 12 = .int ((i : Int) + 1) → ∀ G, Q2 .normal tm2 ((D ++ G).set K9 (some ⟨32, .wr, [l5]⟩)) := by
      intro tm2 hzok s0 s4 s6 s7 s9 s10 s11 s12 G
      have ks := Keep.set (id := K9) (D ++ G) (some ⟨32, .wr, [l5]⟩)
      have ne9 : ∀ i, i ≠ K9 → i ∉ [K9] := fun i hi hj => hi (by simpa using hj)
      refine hn2 (j - 1) _ _ (by omega) ⟨i + 1, l5, z, f5, _, ds ++ [d], fc, by omega, s0, s4, s6, s7, s9, s10, s11, by simpa using s12, ks.blk (blkAt_app e7 G) (ne9 _ (by omega)), (od1.app G).keep ks (fun k hk => ne9 k (by have := hf1Y k hk; omega)), blkAt_set (by simp; omega), (o5.app G).keep ks (fun k hk => ne9 k (by have := hf5' k hk; omega)), hzok, (hqD.app G).keep ks (fun k hk => ne9 k (by have := (hfc k hk).1; omega)), by simp [hdl], (hcD.app G).set (by omega) (by omega) _, ks.blk (blkAt_app bzD G) (ne9 _ (by omega)), ks.blk (blkAt_app bwD G) (ne9 _ (by omega)), fun k hk => by have := hf5' k hk; omega, fun k hk => (hfc k hk).1, fun k hk h => ?_⟩
      have h1 := hltc k h
      have h2 := hf5' k hk
      omega
    simp [hL5, hT5]
    by_cases hc0 : cd = 0
    · simp [hc0, hL5, hT5, e2]
      cases hzok : z.ok
      · simp [t12, hw]
        refine next _ ?_ ?_ ?_ ?_ ?_ ?_ ?_ ?_ _
        all_goals simp [t0, t4, t6, t7, t9, t11]
      · have e9A := fun G => blkAt_app e9 G
        have g9 : K9 < D.length + 1 := by omega
        simp [t9, e9A, g9, hL, hD10, hL5, hT5, t12, hw]
        refine step _ hzok ?_ ?_ ?_ ?_ ?_ ?_ ?_ ?_ _
        all_goals simp [t0, t4, t6, t7, t9, t11]
    · simp [hc0, t12, hw]
      refine next _ ?_ ?_ ?_ ?_ ?_ ?_ ?_ ?_ _
      all_goals simp [t0, t4, t6, t7, t9, t11]
  · simp at hc1
    simp
    refine he2 _ _ _ ?_
    have h49 : (H.length != K9) = true := by simp; omega
    have h4a : ¬ H.length = K7 := by omega
    have dzA := blkAt_len bzA
    have dwA := blkAt_len bwA
    have hsw : ∀ y : Option Blk, blkAt (A.set H.length y) (H.length + 1) = blkAt A (H.length + 1) := fun y => blkAt_set_ne (by omega)
    simp [t4, t6, t7, t9, t10, a7, d7, a9, d9, hL1, hT1, hL, hT, h49, bzA, dzA, bwA, dwA, hsw]
    refine hQ _ _ _ (by simp) ?_
    obtain ⟨HF, hHF⟩ : ∃ HF : Heap, HF = (A.set H.length (some ⟨32, .wr, [l1]⟩)).set (H.length + 1) (some ⟨32, .wr, [l]⟩) := ⟨_, rfl⟩
    have kF : Keep [H.length, H.length + 1] A HF := by
      rw [hHF]
      exact (Keep.set _ _).trans (Keep.set _ _) (fun i hi _ => by simp at hi; simp [hi]) (fun i hi _ => by simp at hi; simp [hi])
    have nF : ∀ k, H.length + 2 ≤ k → k ∉ [H.length, H.length + 1] := fun k hk h => by simp at h; omega
    have f4 : blkAt HF H.length = some ⟨32, .wr, [l1]⟩ := by rw [hHF, blkAt_set_ne (by omega)]; exact blkAt_set dzA
    have f6 : blkAt HF (H.length + 1) = some ⟨32, .wr, [l]⟩ := by rw [hHF]; exact blkAt_set (by simpa using dwA)
    have of1 := oa1.keep kF (fun k hk => nF k (by have := hf1Y k hk; omega))
    have of2 := oa.keep kF (fun k hk => nF k (by have := hfa k hk; omega))
    have oqF := oq.keep kF (fun k hk => nF k (by have := hfda k hk; omega))
    have hcF : CurTo H HF c n := by rw [hHF]; exact (hcA.set (by omega) (by omega) _).set (by omega) (by omega) _
    have hil : i = N := by omega
    rw [← hHF]
    obtain ⟨aq, rfl, owq⟩ := oqF
    simp [Tryz.f83, f4, f6, hL1, hT1, hL, hT, t4, t6, -Int.ofNat_le]
    refine ⟨?_, hcF.leave hc _⟩
    rcases leave_opt H HF [W.agg l1, W.lf (.sl aq ds.length), W.agg l] with e | ⟨e, hr⟩ <;> rw [e]
    · refine ⟨l1, x0, f1, _, ds, fd, l, ⟨rfl, rfl, rfl⟩, of1, ⟨aq, rfl, owq⟩, y, f, of2, hx0, hyok, hxid, by omega, fun k hk => by have := hf1Y k hk; omega, fun k hk => by have := hfda k hk; omega, fun k hk => by have := hfa k hk; omega, hdj, fun k hk => ⟨fun h => by have := hfda k h; have := hf1Y k hk; omega, fun h => by have := hfa k h; have := hf1Y k hk; omega⟩⟩
    · simp at hr
      refine ⟨l1, x0, [], _, ds, [], l, ⟨rfl, rfl, rfl⟩, of1.free (by simpa using hr.1) H, (IsSl.free ⟨aq, rfl, owq⟩ hr.2.1 H), y, [], of2.free (by simpa using hr.2.2) H, hx0, hyok, hxid, by omega, by simp, by simp, by simp, by simp, by simp⟩

theorem l15DrawRight {H : Heap} {c n : Nat} (hc : Cur H c n) : Runs env 89 [.ptr c 0 0] H fun v H' => (∃ (l : List Lf) (x : Box) (fp : List Nat), v = .agg l ∧ IsBox H' l x fp ∧ x.ok = true ∧ ∀ i ∈ fp, H.length ≤ i) ∧ CurTo H H' c n := by
  have hcl := hc.lt
  refine Runs.walk ok89 Tryz.func89 rfl (by simp [Tryz.f89]) fun Q hQ => ?_
  simp only [Tryz.f89, strip, stripL, stripI, stripG, chkT, tagsB, tagsL, tagD, addT, tagA, lookN, tagOp, elmT, ty22, ty26, ty27, ty28, ty29, ty30, ty41, ty53, ty56, Nat.reduceEqDiff, if_false, reduceIte, Option.getD_some, Option.getD_none, dstAt, dstOk, Nat.reduceLT, decide_true, if_true]
  have hcX := hc.app [some ⟨32, .wr, [[.i .i64 0, .i .i64 0, .i .i64 0, .i .i64 0, .i .i64 0, .sl none 0, .sl none 0, .sl none 0, .sl none 0, .sl none 0]]⟩]
  simp
  refine stpL_runs (l15DrawRun hcX 50 (by omega) (by omega)) ?_
  rintro _ S ⟨⟨l1, x, f1, q, ds, fd, l2, y, f2, rfl, o1, oq, o2, hx, hy, hxn, hln, hf1, hfd, hf2, -, -⟩, hto⟩
  have bz := hto.1.blk (id := H.length) (b := ⟨32, .wr, [[.i .i64 0, .i .i64 0, .i .i64 0, .i .i64 0, .i .i64 0, .sl none 0, .sl none 0, .sl none 0, .sl none 0, .sl none 0]]⟩) (by simp) (by simp; omega)
  have hL1 := o1.len
  have hT1 : l1.take l1.length = l1 := List.take_length
  rw [hL1] at hT1
  have hL2 := o2.len
  have hT2 : l2.take l2.length = l2 := List.take_length
  rw [hL2] at hT2
  have hl := hto.len
  simp at hl
  have hlt2 := o2.lt
  have bzA := fun G => blkAt_app bz G
  have g1 : H.length < S.length + (1 + 1) := by omega
  have g2 : H.length < S.length + 2 := by omega
  simp [hL1, hT1, hL2, hT2, bzA, g1, g2, -set_lt]
  refine hQ _ _ _ (by simp) ?_
  obtain ⟨HF, hHF⟩ : ∃ HF : Heap, HF = List.set (S ++ [some ⟨32, .wr, [l1]⟩, some ⟨32, .wr, [l2]⟩] : Heap) H.length (some ⟨32, .wr, [l2]⟩) := ⟨_, rfl⟩
  have f0 : blkAt HF H.length = some ⟨32, .wr, [l2]⟩ := by rw [hHF]; exact blkAt_set (by simp; omega)
  have hcF : CurTo H HF c n := by rw [hHF]; exact ((hto.base).app _).set (by omega) (by omega) _
  have oF : IsBox HF l2 y f2 := by rw [hHF]; exact (o2.app _).keep (Keep.set _ _) (fun k hk h => by have := hf2 k hk; simp at h this; omega)
  rw [← hHF]
  simp [Tryz.f89, f0, hL2, hT2]
  refine ⟨?_, hcF.leave hc _⟩
  rcases leave_opt H HF [W.agg l2] with e | ⟨e, hr⟩ <;> rw [e]
  · exact ⟨y, f2, oF, hy, fun k hk => by have := hf2 k hk; simp at this; omega⟩
  · exact ⟨y, [], oF.free (by simpa using hr) H, hy, by simp⟩

theorem l12DrawRight {H : Heap} {c n : Nat} (hc : Cur H c n) : Runs env 124 [.ptr c 0 0] H fun v H' => (∃ (l : List Lf) (m : Minder) (fp : List Nat), v = .agg l ∧ IsMinder H' l m fp ∧ m.ok = true ∧ ∀ i ∈ fp, H.length ≤ i) ∧ CurTo H H' c n := by
  have hcl := hc.lt
  refine Runs.walk ok124 Tryz.func124 rfl (by simp [Tryz.f124]) fun Q hQ => ?_
  simp only [Tryz.f124, strip, stripL, stripI, stripG, chkT, tagsB, tagsL, tagD, addT, tagA, lookN, tagOp, elmT, ty22, ty26, ty27, ty28, ty29, ty30, ty41, ty53, ty56, Nat.reduceEqDiff, if_false, reduceIte, Option.getD_some, Option.getD_none, dstAt, dstOk, Nat.reduceLT, decide_true, if_true]
  have hcX := hc.app [some ⟨52, .wr, [[.b false, .i .i64 0, .i .i64 0, .sl none 0, .i .i64 0, .i .i64 0, .i .i64 0]]⟩]
  simp
  refine stpL_runs (l15DrawRight hcX) ?_
  rintro _ S ⟨⟨l, x, fp, rfl, ox, hx, hfp⟩, hto⟩
  have bz := hto.1.blk (id := H.length) (b := ⟨52, .wr, [[.b false, .i .i64 0, .i .i64 0, .sl none 0, .i .i64 0, .i .i64 0, .i .i64 0]]⟩) (by simp) (by simp; omega)
  have hL := ox.len
  have h2 := (Box.right hx).two
  obtain ⟨q0, q1, q2, q3, q4, f0, f1, f2, f3, f4, rfl, ⟨a, rows, fp0, fps, rfl, ho, hp, rfl, hnd0⟩, -, -, -, -, rfl, -⟩ := ox
  have hl := hto.len
  simp at hl
  simp [Box.enc, fieldV, env_P, Tryz.underlying32]
  refine stpL_runs (l1Below hto.2 2) ?_
  rintro _ T ⟨⟨k, rfl, hk0, hk1, -⟩, hto2⟩
  have hk2 := hk1 (by omega)
  obtain ⟨k, rfl⟩ : ∃ k' : Nat, k = (k' : Int) := ⟨k.toNat, by omega⟩
  have hkl : k < x.two.length := by omega
  obtain ⟨g1, g2, hM⟩ := hp.get hkl
  obtain ⟨id, bl, rfl, rfl, hb, hbe, hbm, hpre⟩ := ho.blk (by rintro rfl; simp at g1)
  obtain ⟨tl, htl⟩ := hpre
  have hrow : bl.rows[k]? = some rows[k] := by rw [← htl, List.getElem?_append_left g1, List.getElem?_eq_getElem g1]
  have no : ∀ i, H.length ≤ i → i ∉ [c] := fun i hi hj => by simp at hj; omega
  have hidH : H.length ≤ id := by have := hfp id (by simp); simp at this; omega
  have hbT := hto2.1.blk hb (no _ hidH)
  have dT := blkAt_len hbT
  have hMT := hM.keep hto2.1 (fun i hi => no i (by have := hfp i (by simp only [List.mem_append]; exact .inl (.inr (flat_mem (List.getElem?_eq_getElem g2) hi))); simp at this; omega))
  have mok := (Box.right hx).ok _ (List.getElem_mem hkl)
  have hms : x.two[k].sz ≤ 1048576 := by simp [Minder.ok, logOk] at mok; unfold Minder.sz; omega
  have hLr := hMT.len
  have hTr : rows[k].take rows[k].length = rows[k] := List.take_length
  rw [hLr] at hTr
  have hkI : (k : Int) < x.two.length := by omega
  have hkI0 : (0 : Int) ≤ k := by omega
  simp [indexAddrV, elemIs, hbT, dT, hbe, hkl, hkI, hrow, hLr, hTr]
  refine stpL_runs (specCopyM hMT.rd hms) ?_
  rintro _ _ ⟨l5, f5, rfl, o5, ⟨⟨G5, rfl⟩, hf5⟩⟩
  have bz2 := hto2.1.blk bz (no _ (by omega))
  have bz3 := blkAt_app bz2 G5
  have d3 := blkAt_len bz3
  have hL5 := o5.len
  have hT5 : l5.take l5.length = l5 := List.take_length
  rw [hL5] at hT5
  have hlT := hto2.len
  have d3' : H.length < T.length + G5.length := by simpa using d3
  simp [bz3, d3', hL5, hT5, -set_lt]
  refine hQ _ _ _ (by simp) ?_
  obtain ⟨HF, hHF⟩ : ∃ HF : Heap, HF = List.set (T ++ G5) H.length (some ⟨52, .wr, [l5]⟩) := ⟨_, rfl⟩
  have f0' : blkAt HF H.length = some ⟨52, .wr, [l5]⟩ := by rw [hHF]; exact blkAt_set d3
  have hcF : CurTo H HF c n := by rw [hHF]; exact ((hto.base.next hto2).app _).set (by omega) (by omega) _
  have oF := o5.keep (Keep.set (id := H.length) (T ++ G5) (some ⟨52, .wr, [l5]⟩)) (fun i hi h => by have := hf5 i hi; simp at h; omega)
  rw [← hHF] at oF ⊢
  simp [Tryz.f124, f0', hL5, hT5]
  refine ⟨?_, hcF.leave hc _⟩
  rcases leave_opt H HF [W.agg l5] with e | ⟨e, hr⟩ <;> rw [e]
  · exact ⟨x.two[k], f5, oF, mok, fun i hi => by have := hf5 i hi; omega⟩
  · exact ⟨x.two[k], [], oF.free (by simpa using hr) H, mok, by simp⟩

theorem l12Draw {H : Heap} {c n : Nat} (hc : Cur H c n) : Runs env 90 [.ptr c 0 0] H fun v H' => (∃ (l : List Lf) (m : Minder) (fp : List Nat), v = .agg l ∧ IsMinder H' l m fp ∧ m.sz ≤ 100 ∧ I64 m.ackLife ∧ ∀ i ∈ fp, H.length ≤ i) ∧ CurTo H H' c n := by
  have hcl := hc.lt
  refine Runs.walk ok90 Tryz.func90 rfl (by simp [Tryz.f90]) fun Q hQ => ?_
  simp only [Tryz.f90, strip, stripL, stripI, stripG, chkT, tagsB, tagsL, tagD, addT, tagA, lookN, tagOp, elmT, ty22, ty26, ty27, ty28, ty29, ty30, ty41, ty53, ty56, Nat.reduceEqDiff, if_false, reduceIte, Option.getD_some, Option.getD_none, dstAt, dstOk, Nat.reduceLT, decide_true, if_true]
  have fin : ∀ (HF : Heap) (tm : Ab.T) (x : Minder) (a : Option (Nat × Nat)) (fp : List Nat), tm 2 = .ptr H.length 0 0 → blkAt HF H.length = some ⟨52, .wr, [x.enc a]⟩ → Own HF 64 a (x.log.map In.enc) fp → x.sz ≤ 100 → I64 x.ackLife → (∀ i ∈ fp, H.length ≤ i) → CurTo H HF c n → Q .ret tm HF := by
    intro HF tm x a fp t2 hb ho hs hak hf hto
    refine hQ _ _ _ (by simp) ?_
    have hres : resT env.τ tm HF (Tryz.f90.results.toList) = some [W.agg (x.enc a)] := by simp [Tryz.f90, t2, hb, Minder.enc]
    rw [hres, optK_some]
    refine ⟨?_, hto.leave hc _⟩
    have oF : IsMinder HF (x.enc a) x fp := ⟨a, rfl, ho⟩
    rcases leave_opt H HF [W.agg (x.enc a)] with e | ⟨e, hr⟩ <;> rw [e]
    · exact ⟨_, x, fp, rfl, oF, hs, hak, hf⟩
    · exact ⟨_, x, [], rfl, oF.free (by simpa using hr) H, hs, hak, by simp⟩
  have hcX := hc.app [some ⟨52, .wr, [[.b false, .i .i64 0, .i .i64 0, .sl none 0, .i .i64 0, .i .i64 0, .i .i64 0]]⟩]
  have bzX : blkAt (H ++ [some ⟨52, .wr, [[.b false, .i .i64 0, .i .i64 0, .sl none 0, .i .i64 0, .i .i64 0, .i .i64 0]]⟩]) H.length = some ⟨52, .wr, [[.b false, .i .i64 0, .i .i64 0, .sl none 0, .i .i64 0, .i .i64 0, .i .i64 0]]⟩ := by simp
  have hlX : (H ++ [some ⟨52, .wr, [[.b false, .i .i64 0, .i .i64 0, .sl none 0, .i .i64 0, .i .i64 0, .i .i64 0]]⟩] : Heap).length = H.length + 1 := by simp
  simp
  refine stpL_runs (l12DrawRight hcX) ?_
  rintro _ H1 ⟨⟨l, m, fp, rfl, ⟨a, rfl, ow⟩, mok, hfp⟩, hto1⟩
  have hms : m.log.length ≤ 60 := by simp [Minder.ok, logOk] at mok; omega
  have hakm : I64 m.ackLife := by simp [Minder.ok] at mok; unfold I64; omega
  have bz1 := hto1.1.blk bzX (by simp; omega)
  have dz1 := blkAt_len bz1
  have hcc1 := hto1.base
  have hl1 := hto1.len
  have hlt1 := ow.lt
  rw [hlX] at hl1 hfp
  simp [Minder.enc]
  have hcM := hto1.2.app [some ⟨52, .wr, [[.b m.up, .i .i64 m.life, .i .i64 m.epoch, .sl a m.log.length, .i .i64 m.said, .i .i64 m.acked, .i .i64 m.ackLife]]⟩]
  refine stpL_runs (l1Below hcM 10) ?_
  rintro _ H2 ⟨⟨k, rfl, -⟩, hto2⟩
  have b3 : blkAt H2 H1.length = some ⟨52, .wr, [[.b m.up, .i .i64 m.life, .i .i64 m.epoch, .sl a m.log.length, .i .i64 m.said, .i .i64 m.acked, .i .i64 m.ackLife]]⟩ := hto2.1.blk (by simp) (by simp; omega)
  have bz2 := hto2.1.blk (blkAt_app bz1 _) (by simp; omega)
  have d3 := blkAt_len b3
  have dz2 := blkAt_len bz2
  have hcc2 := hcc1.next hto2.base
  have no : ∀ i ∈ fp, i ∉ [c] := fun i hi h => by have := hfp i hi; simp at h; omega
  have ow2 := (ow.app [some ⟨52, .wr, [[.b m.up, .i .i64 m.life, .i .i64 m.epoch, .sl a m.log.length, .i .i64 m.said, .i .i64 m.acked, .i .i64 m.ackLife]]⟩]).keep hto2.1 no
  have hl2 := hto2.len
  simp at hl2
  have hne3 : ∀ (Y : Heap) (y : Option Blk), blkAt (List.set Y H1.length y) H.length = blkAt Y H.length := fun Y y => blkAt_set_ne (by omega)
  have hne4 : ∀ (Y : Heap) (y : Blk), H1.length < Y.length → blkAt (List.set Y H1.length (some y)) H1.length = some y := fun Y y h => blkAt_set h
  have kp : ∀ (Y : Heap) (y z : Option Blk), Own Y 64 a (m.log.map In.enc) fp → Own ((List.set Y H1.length y).set H.length z) 64 a (m.log.map In.enc) fp := fun Y y z h =>
    (h.keep (Keep.set (id := H1.length) Y y) (fun i hi h => by have := hlt1 i hi; simp at h; omega)).keep (Keep.set (id := H.length) _ z) (fun i hi h => by have := hfp i hi; simp at h; omega)
  have kp1 : ∀ (Y : Heap) (z : Option Blk), Own Y 64 a (m.log.map In.enc) fp → Own (Y.set H.length z) 64 a (m.log.map In.enc) fp := fun Y z h =>
    h.keep (Keep.set (id := H.length) _ z) (fun i hi h => by have := hfp i hi; simp at h; omega)
  have hf' : ∀ i ∈ fp, H.length ≤ i := fun i hi => by have := hfp i hi; omega
  by_cases c0 : k = 0
  · simp [c0, b3, d3, bz2, dz2, hne3, hne4]
    refine fin _ _ ⟨!m.up, m.life, m.epoch, m.log, m.said, m.acked, m.ackLife⟩ a fp ?_ (blkAt_set (Nat.lt_of_lt_of_eq dz2 (List.length_set).symm)) (kp _ _ _ ow2) (by simp [Minder.sz]; omega) hakm hf' ((hcc2.set (by omega) (by omega) _).set (by omega) (by omega) _)
    simp
  by_cases c1 : k = 1
  · simp [c1]
    refine stpL_runs (l1Below hto2.2 9) ?_
    rintro _ H3 ⟨⟨y, rfl, -⟩, hto3⟩
    have b33 := hto3.1.blk b3 (by simp; omega)
    have bz3 := hto3.1.blk bz2 (by simp; omega)
    have ow3 := ow2.keep hto3.1 no
    have d33 := blkAt_len b33
    have dz3 := blkAt_len bz3
    have hcc3 := hcc2.next hto3
    simp [b33, d33, bz3, dz3, hne3, hne4]
    refine fin _ _ ⟨m.up, m.life, m.epoch, m.log, IntKind.i64.wrap (y - 1), m.acked, m.ackLife⟩ a fp ?_ (blkAt_set (Nat.lt_of_lt_of_eq dz3 (List.length_set).symm)) (kp _ _ _ ow3) (by simp [Minder.sz]; omega) hakm hf' ((hcc3.set (by omega) (by omega) _).set (by omega) (by omega) _)
    simp
  by_cases c2 : k = 2
  · simp [c2]
    refine stpL_runs (l1Below hto2.2 9) ?_
    rintro _ H3 ⟨⟨y, rfl, -⟩, hto3⟩
    have b33 := hto3.1.blk b3 (by simp; omega)
    have bz3 := hto3.1.blk bz2 (by simp; omega)
    have ow3 := ow2.keep hto3.1 no
    have d33 := blkAt_len b33
    have dz3 := blkAt_len bz3
    have hcc3 := hcc2.next hto3
    simp [b33, d33, bz3, dz3, hne3, hne4]
    refine fin _ _ ⟨m.up, m.life, m.epoch, m.log, m.said, IntKind.i64.wrap (y - 1), m.ackLife⟩ a fp ?_ (blkAt_set (Nat.lt_of_lt_of_eq dz3 (List.length_set).symm)) (kp _ _ _ ow3) (by simp [Minder.sz]; omega) hakm hf' ((hcc3.set (by omega) (by omega) _).set (by omega) (by omega) _)
    simp
  by_cases c3 : k = 3
  · simp [c3, b3, d3]
    refine stpL_cur (l8DrawBent hto2.2) hto2.2 (fun v H' h => h.2) ?_
    rintro _ H3 ⟨⟨y, rfl⟩, hto3⟩
    have b33 := hto3.1.blk b3 (by simp; omega)
    have bz3 := hto3.1.blk bz2 (by simp; omega)
    have ow3 := ow2.keep hto3.1 no
    have hcc3 := hcc2.next hto3
    have hl3 := hto3.len
    simp [In.enc]
    refine stpL_append (e := 64) (rows := m.log.map In.enc) (ys := [y.enc]) (ow3.app _) (Sl.of (by simp [In.enc])) rfl rfl rfl (by simp) (by simp; omega) (by simp) rfl fun aa C fc hoC hkC hfC => ?_
    have kC : Keep fp H3 C := hkC.base
    have hC := kC.1
    have bC := kC.blk b33 (fun h => by have := hlt1 _ h; omega)
    have bzC := kC.blk bz3 (fun h => by have := hfp _ h; omega)
    have dC := blkAt_len bC
    have dzC := blkAt_len bzC
    have hcC := hcc3.own kC (fun k hk => by have := hfp k hk; omega) hcl
    have hfc : ∀ i ∈ fc, H.length < i ∧ i ≠ H1.length := fun i hi => by
      rcases hfC i hi with h | h
      · exact ⟨by have := hfp i h; omega, by have := hlt1 i h; omega⟩
      · simp at h; omega
    simp [bC, dC, bzC, dzC, hne3, hne4]
    refine fin _ _ ⟨m.up, m.life, m.epoch, m.log ++ [y], m.said, m.acked, m.ackLife⟩ aa fc ?_ (by simp [Minder.enc]; exact blkAt_set (Nat.lt_of_lt_of_eq dzC (List.length_set).symm)) ?_ (by simp [Minder.sz]; omega) hakm (fun i hi => by have := hfc i hi; omega) ((hcC.set (by omega) (by omega) _).set (by omega) (by omega) _)
    · simp
    · simp only [List.map_append, List.map_cons, List.map_nil]
      exact (hoC.keep (Keep.set (id := H1.length) C _) (fun i hi h => by have := hfc i hi; simp at h; omega)).keep (Keep.set (id := H.length) _ _) (fun i hi h => by have := hfc i hi; simp at h; omega)
  by_cases c4 : k = 4
  · simp [c4]
    have hcL := hto2.2.app [some ⟨3, .wr, [encI (-1), encI 0, encI 1, encI 100001]⟩]
    simp only [encI] at hcL
    refine stpL_runs (l1PickInt (xs := [(-1), 0, 1, 100001]) hcL (Sl.of (by simp [encI])) (by simp) (by simp)) ?_
    rintro _ H3 ⟨⟨y, rfl, -⟩, hto3⟩
    have hto3 := hto3.base
    have b33 := hto3.1.blk b3 (by simp; omega)
    have bz3 := hto3.1.blk bz2 (by simp; omega)
    have ow3 := ow2.keep hto3.1 no
    have d33 := blkAt_len b33
    have dz3 := blkAt_len bz3
    have hcc3 := hcc2.next hto3
    simp [b33, d33, bz3, dz3, hne3, hne4]
    refine fin _ _ ⟨m.up, m.life, y, m.log, m.said, m.acked, m.ackLife⟩ a fp ?_ (blkAt_set (Nat.lt_of_lt_of_eq dz3 (List.length_set).symm)) (kp _ _ _ ow3) (by simp [Minder.sz]; omega) hakm hf' ((hcc3.set (by omega) (by omega) _).set (by omega) (by omega) _)
    simp
  simp [c0, c1, c2, c3, c4, b3, d3, bz2, dz2]
  refine fin _ _ m a fp ?_ (blkAt_set dz2) (kp1 _ _ ow2) (by simp [Minder.sz]; omega) hakm hf' (hcc2.set (by omega) (by omega) _)
  simp

theorem l13DrawReg {H : Heap} {c n : Nat} (hc : Cur H c n) : Runs env 91 [.ptr c 0 0] H fun v H' => (∃ x : Reg, v = .agg x.enc) ∧ CurTo H H' c n := by
  have hcl := hc.lt
  refine Runs.walk ok91 Tryz.func91 rfl (by simp [Tryz.f91]) fun Q hQ => ?_
  simp only [Tryz.f91, strip, stripL, stripI, stripG, chkT, tagsB, tagsL, tagD, addT, tagA, lookN, tagOp, elmT, ty22, ty26, ty27, ty28, ty29, ty30, ty41, ty53, ty56, Nat.reduceEqDiff, if_false, reduceIte, Option.getD_some, Option.getD_none, dstAt, dstOk, Nat.reduceLT, decide_true, if_true]
  have fin : ∀ (HF : Heap) (tm : Ab.T) (x : Reg), tm 2 = .ptr (H.length) 0 0 → blkAt HF (H.length) = some ⟨25, .wr, [x.enc]⟩ → CurTo H HF c n → Q .ret tm HF := by
    intro HF tm x t2 hb hto
    refine hQ _ _ _ (by simp) ?_
    have hres : resT env.τ tm HF (Tryz.f91.results.toList) = some [W.agg x.enc] := by simp [Tryz.f91, t2, hb, Reg.enc]
    rw [hres, optK_some]
    exact ⟨⟨x, rfl⟩, hto.leave hc _⟩
  have hcX := hc.app [some ⟨25, .wr, [[.i .i64 0, .i .i64 0, .i .i64 0]]⟩]
  have bzX : blkAt (H ++ [some ⟨25, .wr, [[.i .i64 0, .i .i64 0, .i .i64 0]]⟩]) H.length = some ⟨25, .wr, [[.i .i64 0, .i .i64 0, .i .i64 0]]⟩ := by simp
  have hlX : (H ++ [some ⟨25, .wr, [[.i .i64 0, .i .i64 0, .i .i64 0]]⟩] : Heap).length = H.length + 1 := by simp
  simp
  refine stpL_runs (l15DrawRight hcX) ?_
  rintro _ H1 ⟨⟨l, x, fp, rfl, ox, -, -⟩, hto1⟩
  obtain ⟨q0, q1, q2, q3, q4, f0, f1, f2, f3, f4, rfl, -⟩ := ox
  obtain ⟨r, hr⟩ : ∃ r, r = x.reg := ⟨_, rfl⟩
  have bz1 := hto1.1.blk bzX (by simp; omega)
  have dz1 := blkAt_len bz1
  have hcc1 := hto1.base
  have hl1 := hto1.len
  rw [hlX] at hl1
  simp [Box.enc, fieldV, env_P, Tryz.underlying32, ← hr]
  have hcM := hto1.2.app [some ⟨25, .wr, [[.i .i64 r.epoch, .i .i64 r.owner, .i .i64 r.pair]]⟩]
  refine stpL_runs (l1Below hcM 10) ?_
  rintro _ H2 ⟨⟨k, rfl, -⟩, hto2⟩
  have b3 : blkAt H2 H1.length = some ⟨25, .wr, [[.i .i64 r.epoch, .i .i64 r.owner, .i .i64 r.pair]]⟩ := hto2.1.blk (by simp) (by simp; omega)
  have bz2 := hto2.1.blk (blkAt_app bz1 _) (by simp; omega)
  have d3 := blkAt_len b3
  have dz2 := blkAt_len bz2
  have hcc2 := hcc1.next hto2.base
  have hne3 : ∀ (Y : Heap) (y : Option Blk), blkAt (List.set Y H1.length y) H.length = blkAt Y H.length := fun Y y => blkAt_set_ne (by omega)
  have hne4 : ∀ (Y : Heap) (y : Blk), H1.length < Y.length → blkAt (List.set Y H1.length (some y)) H1.length = some y := fun Y y h => blkAt_set h
  by_cases c0 : k = 0
  · simp [c0]
    have hcL := hto2.2.app [some ⟨3, .wr, [encI 0, encI 1, encI 100000, encI 100001]⟩]
    simp only [encI] at hcL
    refine stpL_runs (l1PickInt (xs := [0, 1, 100000, 100001]) hcL (Sl.of (by simp [encI])) (by simp) (by simp)) ?_
    rintro _ H3 ⟨⟨y, rfl, -⟩, hto3⟩
    have hto3 := hto3.base
    have b33 := hto3.1.blk b3 (by simp; omega)
    have bz3 := hto3.1.blk bz2 (by simp; omega)
    have d33 := blkAt_len b33
    have dz3 := blkAt_len bz3
    have hcc3 := hcc2.next hto3
    simp [b33, d33, bz3, dz3, hne3, hne4, Reg.enc]
    refine fin _ _ ⟨y, r.owner, r.pair⟩ ?_ (blkAt_set (Nat.lt_of_lt_of_eq dz3 (List.length_set).symm)) ((hcc3.set (by omega) (by omega) _).set (by omega) (by omega) _)
    simp
  by_cases c1 : k = 1
  · simp [c1]
    refine stpL_runs (l1Below hto2.2 4) ?_
    rintro _ H3 ⟨⟨y, rfl, -⟩, hto3⟩
    have b33 := hto3.1.blk b3 (by simp; omega)
    have bz3 := hto3.1.blk bz2 (by simp; omega)
    have d33 := blkAt_len b33
    have dz3 := blkAt_len bz3
    have hcc3 := hcc2.next hto3
    simp [b33, d33, bz3, dz3, hne3, hne4, Reg.enc]
    refine fin _ _ ⟨r.epoch, IntKind.i64.wrap (y - 1), r.pair⟩ ?_ (blkAt_set (Nat.lt_of_lt_of_eq dz3 (List.length_set).symm)) ((hcc3.set (by omega) (by omega) _).set (by omega) (by omega) _)
    simp
  by_cases c2 : k = 2
  · simp [c2]
    have hcL := hto2.2.app [some ⟨3, .wr, [encI (-1), encI 0, encI 1, encI 2]⟩]
    simp only [encI] at hcL
    refine stpL_runs (l1PickInt (xs := [(-1), 0, 1, 2]) hcL (Sl.of (by simp [encI])) (by simp) (by simp)) ?_
    rintro _ H3 ⟨⟨y, rfl, -⟩, hto3⟩
    have hto3 := hto3.base
    have b33 := hto3.1.blk b3 (by simp; omega)
    have bz3 := hto3.1.blk bz2 (by simp; omega)
    have d33 := blkAt_len b33
    have dz3 := blkAt_len bz3
    have hcc3 := hcc2.next hto3
    simp [b33, d33, bz3, dz3, hne3, hne4, Reg.enc]
    refine fin _ _ ⟨r.epoch, r.owner, y⟩ ?_ (blkAt_set (Nat.lt_of_lt_of_eq dz3 (List.length_set).symm)) ((hcc3.set (by omega) (by omega) _).set (by omega) (by omega) _)
    simp
  simp [c0, c1, c2, b3, d3, bz2, dz2]
  refine fin _ _ r ?_ (blkAt_set dz2) (hcc2.set (by omega) (by omega) _)
  simp

theorem l15Spoil {H : Heap} {c n : Nat} (hc : Cur H c n) (d : Deed) : Runs env 85 [.ptr c 0 0, .agg d.enc] H fun v H' => (∃ x : Deed, v = .agg x.enc) ∧ CurTo H H' c n := by
  have hcl := hc.lt
  refine Runs.walk ok85 Tryz.func85 rfl (by simp [Tryz.f85]) fun Q hQ => ?_
  simp only [Tryz.f85, strip, stripL, stripI, stripG, chkT, tagsB, tagsL, tagD, addT, tagA, lookN, tagOp, elmT, ty22, ty26, ty27, ty28, ty29, ty30, ty41, ty53, ty56, Nat.reduceEqDiff, if_false, reduceIte, Option.getD_some, Option.getD_none, dstAt, dstOk, Nat.reduceLT, decide_true, if_true]
  have fin : ∀ (HF : Heap) (tm : Ab.T) (x : Deed), tm 4 = .ptr (H.length + 1) 0 0 → blkAt HF (H.length + 1) = some ⟨66, .wr, [x.enc]⟩ → CurTo H HF c n → Q .ret tm HF := by
    intro HF tm x t2 hb hto
    refine hQ _ _ _ (by simp) ?_
    have hres : resT env.τ tm HF (Tryz.f85.results.toList) = some [W.agg x.enc] := by simp [Tryz.f85, t2, hb, Deed.enc]
    rw [hres, optK_some]
    exact ⟨⟨x, rfl⟩, hto.leave hc _⟩
  have hcX := (CurTo.refl hc).app [some ⟨66, .wr, [[.i .i64 d.kind, .i .i64 d.a, .i .i64 d.inn.kind, .i .i64 d.inn.port, .i .i64 d.inn.vec.root, .i .i64 d.inn.vec.cost, .i .i64 d.inn.vec.bridge, .i .i64 d.inn.vec.port, .i .i64 d.inn.hops, .b d.inn.up]]⟩, some ⟨66, .wr, [[.i .i64 0, .i .i64 0, .i .i64 0, .i .i64 0, .i .i64 0, .i .i64 0, .i .i64 0, .i .i64 0, .i .i64 0, .b false]]⟩]
  simp [Deed.enc]
  refine stpL_runs (l1Below hcX.2 12) ?_
  rintro _ H2 ⟨⟨k, rfl, -⟩, hto2⟩
  have b3 : blkAt H2 H.length = some ⟨66, .wr, [[.i .i64 d.kind, .i .i64 d.a, .i .i64 d.inn.kind, .i .i64 d.inn.port, .i .i64 d.inn.vec.root, .i .i64 d.inn.vec.cost, .i .i64 d.inn.vec.bridge, .i .i64 d.inn.vec.port, .i .i64 d.inn.hops, .b d.inn.up]]⟩ := hto2.1.blk (by simp) (by simp; omega)
  have bz2 : blkAt H2 (H.length + 1) = some ⟨66, .wr, [[.i .i64 0, .i .i64 0, .i .i64 0, .i .i64 0, .i .i64 0, .i .i64 0, .i .i64 0, .i .i64 0, .i .i64 0, .b false]]⟩ := hto2.1.blk (by simp) (by simp; omega)
  have d3 := blkAt_len b3
  have dz2 := blkAt_len bz2
  have hcc2 := hcX.next hto2
  have hne3 : ∀ (Y : Heap) (y : Option Blk), blkAt (List.set Y H.length y) (H.length + 1) = blkAt Y (H.length + 1) := fun Y y => blkAt_set_ne (by omega)
  have hne4 : ∀ (Y : Heap) (y : Blk), H.length < Y.length → blkAt (List.set Y H.length (some y)) H.length = some y := fun Y y h => blkAt_set h
  by_cases c0 : k = 0
  · simp [c0]
    refine stpL_runs (l1Below hto2.2 15) ?_
    rintro _ H3 ⟨⟨y, rfl, -⟩, hto3⟩
    have b33 := hto3.1.blk b3 (by simp; omega)
    have bz3 := hto3.1.blk bz2 (by simp; omega)
    have d33 := blkAt_len b33
    have dz3 := blkAt_len bz3
    have hcc3 := hcc2.next hto3
    simp [b33, d33, bz3, dz3, hne3, hne4, Deed.enc]
    refine fin _ _ ⟨IntKind.i64.wrap (y - 1), d.a, d.inn⟩ ?_ (blkAt_set (Nat.lt_of_lt_of_eq dz3 (List.length_set).symm)) ((hcc3.set (by omega) (by omega) _).set (by omega) (by omega) _)
    simp
  by_cases c1 : k = 1
  · simp [c1]
    have hcL := hto2.2.app [some ⟨3, .wr, [encI (-1), encI 2, encI 9223372036854775807, encI (-9223372036854775808)]⟩]
    simp only [encI] at hcL
    refine stpL_runs (l1PickInt (xs := [(-1), 2, 9223372036854775807, (-9223372036854775808)]) hcL (Sl.of (by simp [encI])) (by simp) (by simp)) ?_
    rintro _ H3 ⟨⟨y, rfl, -⟩, hto3⟩
    have hto3 := hto3.base
    have b33 := hto3.1.blk b3 (by simp; omega)
    have bz3 := hto3.1.blk bz2 (by simp; omega)
    have d33 := blkAt_len b33
    have dz3 := blkAt_len bz3
    have hcc3 := hcc2.next hto3
    simp [b33, d33, bz3, dz3, hne3, hne4, Deed.enc]
    refine fin _ _ ⟨d.kind, y, d.inn⟩ ?_ (blkAt_set (Nat.lt_of_lt_of_eq dz3 (List.length_set).symm)) ((hcc3.set (by omega) (by omega) _).set (by omega) (by omega) _)
    simp
  by_cases c2 : k = 2
  · simp [c2]
    refine stpL_runs (l8DrawBent hto2.2) ?_
    rintro _ H3 ⟨⟨y, rfl⟩, hto3⟩
    have b33 := hto3.1.blk b3 (by simp; omega)
    have bz3 := hto3.1.blk bz2 (by simp; omega)
    have d33 := blkAt_len b33
    have dz3 := blkAt_len bz3
    have hcc3 := hcc2.next hto3
    simp [b33, d33, bz3, dz3, hne3, hne4, Deed.enc, In.enc]
    refine fin _ _ ⟨d.kind, d.a, y⟩ ?_ (blkAt_set (Nat.lt_of_lt_of_eq dz3 (List.length_set).symm)) ((hcc3.set (by omega) (by omega) _).set (by omega) (by omega) _)
    simp
  simp [c0, c1, c2, b3, d3, bz2, dz2]
  refine fin _ _ d ?_ (blkAt_set dz2) (hcc2.set (by omega) (by omega) _)
  simp

theorem keepCut {f : List Nat} {A B : Heap} (h : Keep f A B) : Keep f A (B.take A.length) := ⟨by have := h.1; simp; omega, fun id hi hn => by rw [List.getElem?_take_of_lt hi]; exact h.2 id hi hn⟩
theorem keepTake (n : Nat) (B : Heap) : Keep [] (B.take n) B := ⟨by simp; omega, fun id hi _ => by simp at hi; rw [List.getElem?_take_of_lt (by omega)]⟩
/-- A minder put into a box, where meanwhile a cursor went on. -/
theorem boxPut {A B : Heap} {c id : Nat} {l : List Lf} {x : Box} {fp : List Nat} (hb : blkAt A id = some ⟨32, .wr, [l]⟩) (hI : IsBox A l x fp) (hid : id ∉ fp) (hk : Keep [c] A B) (hc : c ∉ fp) (hci : c ≠ id) {s : Nat} (hs : s < x.two.length) {l2 : List Lf} {m : Minder} {f2 : List Nat} (hm : IsMinder B l2 m f2) (hf2 : ∀ i ∈ f2, A.length ≤ i) :
    ∃ (bid : Nat) (blo : Blk) (q1 q2 q3 q4 : Lf) (row : List Lf) (fp' : List Nat), l = x.enc (.sl (some (bid, 0)) x.two.length) q1 q2 q3 q4 ∧ bid ∈ fp ∧ bid ≠ id ∧ blkAt B bid = some blo ∧ blo.elem = 52 ∧ blo.md = .wr ∧ blo.rows[s]? = some row ∧ row.length = 7 ∧
      blkAt (B.set bid (some ⟨52, .wr, blo.rows.set s l2⟩)) id = some ⟨32, .wr, [l]⟩ ∧ IsBox (B.set bid (some ⟨52, .wr, blo.rows.set s l2⟩)) l (setTwo x s m) fp' ∧ ∀ i ∈ fp', i ∈ fp ∨ A.length ≤ i := by
  have k1 := keepCut hk
  have k2 := keepTake A.length B
  have hDl : (B.take A.length).length = A.length := by have := hk.1; simp; omega
  have hbD := k1.blk hb (by simpa using fun h => hci h.symm)
  have hID := hI.keep k1 (fun i hi h => by simp at h; subst h; exact hc hi)
  obtain ⟨bid, blo, q1, q2, q3, q4, row, rfl, hbne, hbl, hbb, hbe, hbm, hrow, hrd, hput⟩ := boxTwo hbD hID hid hs
  obtain ⟨fp', z1, z2, z3, z4, z5⟩ := hput B l2 m f2 k2 hm (fun i hi => by rw [hDl]; exact hf2 i hi)
  refine ⟨bid, blo, q1, q2, q3, q4, row, fp', rfl, ?_, hbne, k2.blk hbb (by simp), hbe, hbm, hrow, hrd.len, z1, z2, fun i hi => by have := z5 i hi; rwa [hDl] at this⟩
  obtain ⟨_, _, _, _, _, f0, f1, f2', f3, f4, e, ⟨a, rows, fp0, fps, ea, ho, -, ef, -⟩, -, -, -, -, ef2, -⟩ := hID
  simp only [Box.enc, List.cons.injEq, and_true, true_and] at e
  obtain ⟨e, -⟩ := e
  rw [ea] at e
  injection e with e
  have := ho.ids bid 0 e.symm
  rw [ef2, ef]
  simp [this]

def setPorts (x : Box) (p : Int) : Box := ⟨x.id, p, x.reg, x.two, x.net, x.gates, x.line, x.said⟩
def setGate (x : Box) (g : Bool) : Box := ⟨x.id, x.ports, x.reg, x.two, x.net, x.gates.set 0 g, x.line, x.said⟩
theorem boxPorts {H H1 : Heap} {id : Nat} {x : Box} {q0 q1 q2 q3 q4 : Lf} {fp : List Nat} (hidl : id < H.length) (hI : IsBox H (x.enc q0 q1 q2 q3 q4) x fp) (hid : id ∉ fp) (k : Keep [] H H1) (p : Int) :
    BoxTo H (H1.set id (some ⟨32, .wr, [(setPorts x p).enc q0 q1 q2 q3 q4]⟩)) id fp (setPorts x p) := by
  have ks := Keep.set (id := id) H1 (some ⟨32, .wr, [(setPorts x p).enc q0 q1 q2 q3 q4]⟩)
  have hl := k.1
  have h2 := (hI.keep k (by simp)).keep ks (fun i hi hj => by simp at hj; subst hj; exact hid hi)
  obtain ⟨r0, r1, r2, r3, r4, f0, f1, f2, f3, f4, e, i0, i1, i2, i3, i4, hf, hnd⟩ := h2
  simp only [Box.enc, List.cons.injEq, and_true, true_and] at e
  obtain ⟨rfl, rfl, rfl, rfl, rfl⟩ := e
  exact ⟨_, fp, blkAt_set (by omega), ⟨q0, q1, q2, q3, q4, f0, f1, f2, f3, f4, rfl, i0, i1, i2, i3, i4, hf, hnd⟩, hid, k.trans ks (by simp) (fun i hi _ => by simp at hi; simp [hi]), fun i hi => .inl hi⟩
/-- A box's first gate put. -/
theorem boxGate {H : Heap} {x : Box} {l : List Lf} {fp : List Nat} (hI : IsBox H l x fp) (hg : 0 < x.gates.length) (g : Bool) :
    ∃ (bid : Nat) (blo : Blk) (q0 q1 q3 q4 : Lf), l = x.enc q0 q1 (.sl (some (bid, 0)) x.gates.length) q3 q4 ∧ bid ∈ fp ∧ blkAt H bid = some blo ∧ blo.elem = 4 ∧ blo.md = .wr ∧ blo.rows[0]? = some [.b x.gates[0]] ∧ IsBox (H.set bid (some ⟨4, .wr, blo.rows.set 0 [.b g]⟩)) l (setGate x g) fp := by
  obtain ⟨q0, q1, q2, q3, q4, f0, f1, f2, f3, f4, rfl, i0, i1, ⟨a2, rfl, i2⟩, i3, i4, rfl, hnd⟩ := hI
  obtain ⟨bid, blo, rfl, rfl, hbb, hbe, hbm, hpre⟩ := i2.blk (by intro h; simp at h; rw [h] at hg; simp at hg)
  have hset := i2.set (row := encB g) hbb (i := 0) (by simpa using hg)
  rw [hbe, hbm] at hset
  obtain ⟨tl, htl⟩ := hpre
  have n0 := List.nodup_append.1 hnd
  have n1 := List.nodup_append.1 n0.2.1
  have n2 := List.nodup_append.1 n1.2.1
  have ks := Keep.set (id := bid) H (some ⟨4, .wr, blo.rows.set 0 [.b g]⟩)
  have m0 : ∀ i ∈ f0, i ∉ [bid] := fun i hi h => n0.2.2 i hi i (by simp at h; simp [h]) rfl
  have m1 : ∀ i ∈ f1, i ∉ [bid] := fun i hi h => n1.2.2 i hi i (by simp at h; simp [h]) rfl
  have m3 : ∀ i ∈ f3, i ∉ [bid] := fun i hi h => n2.2.2 i h i (by simp [hi]) rfl
  have m4 : ∀ i ∈ f4, i ∉ [bid] := fun i hi h => n2.2.2 i h i (by simp [hi]) rfl
  refine ⟨bid, blo, q0, q1, q3, q4, rfl, by simp, hbb, hbe, hbm, ?_, ?_⟩
  · rw [← htl, List.getElem?_append_left (by simpa using hg), List.getElem?_map, List.getElem?_eq_getElem hg]; rfl
  · refine ⟨q0, q1, _, q3, q4, f0, f1, [bid], f3, f4, rfl, i0.keep okMinder ks m0, i1.keep ks m1, ⟨some (bid, 0), by simp [setGate], ?_⟩, i3.keep ks m3, i4.keep ks m4, rfl, hnd⟩
    have e : (setGate x g).gates.map encB = (x.gates.map encB).set 0 (encB g) := by simp [setGate, List.map_set]
    rw [e]
    exact hset

theorem setTwo_sz {x : Box} (hx : x.ok = true) {s : Nat} {m : Minder} (hm : m.sz ≤ 100) : (setTwo x s m).sz ≤ 2000 := by
  obtain ⟨hS, -, -, hl⟩ := Box.smallOf hx
  have h2 := hS.two
  have h3 := hS.net; have h4 := hS.gates; have h5 := hS.line; have h6 := hS.said
  have hmm : ∀ y ∈ x.two.set s m, y.sz ≤ 100 := fun y hy => by
    rcases List.mem_or_eq_of_mem_set hy with h | rfl
    · have := hl y h; unfold Minder.sz; omega
    · exact hm
  obtain ⟨a, b, hab⟩ : ∃ a b, x.two.set s m = [a, b] := by
    have : (x.two.set s m).length = 2 := by simpa using h2
    match h : x.two.set s m, this with
    | [a, b], _ => exact ⟨a, b, rfl⟩
  rw [hab] at hmm
  have ha := hmm a (by simp)
  have hb := hmm b (by simp)
  simp [setTwo, Box.sz, hab, MinderS.sz] at *
  omega
theorem l15Draw {H : Heap} {c n : Nat} (hc : Cur H c n) : Runs env 46 [.ptr c 0 0] H fun v H' => (∃ (l : List Lf) (x : Box) (fp : List Nat), v = .agg l ∧ IsBox H' l x fp ∧ x.sz ≤ 2000 ∧ ∀ i ∈ fp, H.length ≤ i) ∧ CurTo H H' c n := by
  have hcl := hc.lt
  refine Runs.walk ok46 Tryz.func46 rfl (by simp [Tryz.f46]) fun Q hQ => ?_
  simp only [Tryz.f46, strip, stripL, stripI, stripG, chkT, tagsB, tagsL, tagD, addT, tagA, lookN, tagOp, elmT, ty22, ty26, ty27, ty28, ty29, ty30, ty41, ty53, ty56, Nat.reduceEqDiff, if_false, reduceIte, Option.getD_some, Option.getD_none, dstAt, dstOk, Nat.reduceLT, decide_true, if_true]
  have fin : ∀ (HF Y : Heap) (tm : Ab.T) (l : List Lf) (x : Box) (fp : List Nat), HF = Y.set H.length (some ⟨32, .wr, [l]⟩) → tm 2 = .ptr H.length 0 0 → IsBox Y l x fp → x.sz ≤ 2000 → (∀ i ∈ fp, H.length < i) → H.length < Y.length → CurTo H Y c n → Q .ret tm HF := by
    intro HF Y tm l x fp hHF t2 ho hs hf hYl hto
    have hb : blkAt HF H.length = some ⟨32, .wr, [l]⟩ := by rw [hHF]; exact blkAt_set hYl
    have oF : IsBox HF l x fp := by rw [hHF]; exact ho.keep (Keep.set _ _) (fun i hi h => by have := hf i hi; simp at h; omega)
    have htoF : CurTo H HF c n := by rw [hHF]; exact hto.set (by omega) (by omega) _
    refine hQ _ _ _ (by simp) ?_
    have hL := oF.len
    have hT : l.take l.length = l := List.take_length
    rw [hL] at hT
    simp [Tryz.f46, t2, hb, hL, hT]
    refine ⟨?_, htoF.leave hc _⟩
    rcases leave_opt H HF [W.agg l] with e | ⟨e, hr⟩ <;> rw [e]
    · exact ⟨x, fp, oF, hs, fun i hi => by have := hf i hi; omega⟩
    · exact ⟨x, [], oF.free (by simpa using hr) H, hs, by simp⟩
  obtain ⟨X, hX⟩ : ∃ X : Heap, X = H ++ [some ⟨32, .wr, [[.i .i64 0, .i .i64 0, .i .i64 0, .i .i64 0, .i .i64 0, .sl none 0, .sl none 0, .sl none 0, .sl none 0, .sl none 0]]⟩] := ⟨_, rfl⟩
  have bzX : blkAt X H.length = some ⟨32, .wr, [[.i .i64 0, .i .i64 0, .i .i64 0, .i .i64 0, .i .i64 0, .sl none 0, .sl none 0, .sl none 0, .sl none 0, .sl none 0]]⟩ := by rw [hX]; simp
  have hlX : X.length = H.length + 1 := by rw [hX]; simp
  have hcX : CurTo H X c n := by rw [hX]; exact (CurTo.refl hc).app _
  simp
  rw [← hX]
  clear hX
  refine stpL_runs (l15DrawRight hcX.2) ?_
  rintro _ H1 ⟨⟨l, x, fp, rfl, ox, hx, hfp⟩, hto1⟩
  have hL := ox.len
  have hT : l.take l.length = l := List.take_length
  rw [hL] at hT
  simp [hL, hT]
  obtain ⟨Y, hY⟩ : ∃ Y : Heap, Y = H1 ++ [some ⟨32, .wr, [l]⟩] := ⟨_, rfl⟩
  have b3Y : blkAt Y H1.length = some ⟨32, .wr, [l]⟩ := by rw [hY]; simp
  have hlt1 := ox.lt
  have oxY : IsBox Y l x fp := by rw [hY]; exact ox.app _
  have hcY : CurTo H Y c n := by rw [hY]; exact (hcX.next hto1).app _
  have bzY := blkAt_app (hto1.1.blk bzX (by simp; omega)) [some ⟨32, .wr, [l]⟩]
  rw [← hY] at bzY
  have hl1 := hto1.len
  have hlY : Y.length = H1.length + 1 := by rw [hY]; simp
  rw [← hY]
  obtain ⟨K, hK⟩ : ∃ K, K = H1.length := ⟨_, rfl⟩
  rw [← hK] at b3Y hlt1 hlY ⊢
  clear hY ox
  refine stpL_runs (l1Below hcY.2 16) ?_
  rintro _ H2 ⟨⟨k, rfl, -⟩, hto2⟩
  have hcc2 := hcY.next hto2
  have b3 := hto2.1.blk b3Y (by simp; omega)
  have bz2 := hto2.1.blk bzY (by simp; omega)
  have no : ∀ i ∈ fp, i ∉ [c] := fun i hi h => by have := hfp i hi; simp at h; omega
  have ox2 := oxY.keep hto2.1 no
  have hKfp : K ∉ fp := fun h => by have := hlt1 _ h; omega
  have hcfp : c ∉ fp := fun h => no c h (by simp)
  have d3 := blkAt_len b3
  have dz2 := blkAt_len bz2
  have hS := Box.smallOf hx
  have hsz := hS.1.sz
  have hlo : ∀ i ∈ fp, H.length < i := fun i hi => by have := hfp i hi; omega
  have hne3 : ∀ (Y : Heap) (y : Option Blk), blkAt (List.set Y K y) H.length = blkAt Y H.length := fun Y y => blkAt_set_ne (by omega)
  have hne4 : ∀ (Y : Heap) (y : Blk), K < Y.length → blkAt (List.set Y K (some y)) K = some y := fun Y y h => blkAt_set h
  have ox20 := ox2
  obtain ⟨q0, q1, q2, q3, q4, f0, f1, f2, f3, f4, hle, i0, ⟨a1, rfl, o1⟩, i2, ⟨a3, rfl, o3⟩, i4, hfe, hnd⟩ := ox2
  have no' := no
  rw [hfe] at no'
  have cp : ∀ Y, Keep [c] H2 Y → IsMinderS Y q0 x.two f0 ∧ Own Y 91 a1 (x.net.map Wire.enc) f1 ∧ IsBoolS Y q2 x.gates f2 ∧ Own Y 64 a3 (x.line.map In.enc) f3 ∧ IsOutS Y q4 x.said f4 := fun Y hY =>
    ⟨i0.keep okMinder hY (fun i hi => no' i (by simp [hi])), o1.keep hY (fun i hi => no' i (by simp [hi])), i2.keep hY (fun i hi => no' i (by simp [hi])), o3.keep hY (fun i hi => no' i (by simp [hi])), i4.keep hY (fun i hi => no' i (by simp [hi]))⟩
  have hg1 : 0 < x.gates.length := by have := Box.ok_ids hx; omega
  have hloF : ∀ (fp' : List Nat) (m : Nat), H.length < m → (∀ i ∈ fp', i ∈ fp ∨ m ≤ i) → ∀ i ∈ fp', H.length < i := fun fp' m hm h i hi => by
    rcases h i hi with h | h
    · exact hlo i h
    · omega
  have b3l := b3
  rw [hle] at b3l
  simp only [Box.enc] at b3l
  by_cases c0 : k = 0
  · simp [c0, b3l, d3]
    refine stpL_cur (l1Below hto2.2 2) hto2.2 (fun v H' h => h.2) ?_
    rintro _ H3 ⟨⟨k2, rfl, hk0, hk1, -⟩, hto3⟩
    have hk2 := hk1 (by omega)
    obtain ⟨k2, rfl⟩ : ∃ k' : Nat, k2 = (k' : Int) := ⟨k2.toNat, by omega⟩
    have hs : k2 < x.two.length := by rw [hS.1.two]; omega
    have ox3 := (oxY.keep hto2.1 no).keep hto3.1 no
    have b33 := hto3.1.blk b3 (by simp; omega)
    simp
    refine stpL_cur (l12Draw hto3.2) hto3.2 (fun v H' h => h.2) ?_
    rintro _ H4 ⟨⟨l5, m5, f5, rfl, o5, hs5, -, hf5⟩, hto4⟩
    obtain ⟨bid, blo, r1, r2, r3, r4, row, fp', hle2, hbi, hbne, hbb, hbe, hbm, hrow, hrl, z1, z2, z3⟩ := boxPut b33 ox3 hKfp hto4.1 hcfp (by omega) hs o5 hf5
    have hq0 : q0 = .sl (some (bid, 0)) x.two.length := by
      rw [hle2] at hle
      simp only [Box.enc, List.cons.injEq, and_true, true_and] at hle
      exact hle.1.symm
    subst hq0
    have nbid := blkAt_len hbb
    have hDr : row.drop 7 = [] := by rw [← hrl]; exact List.drop_length
    have hLm := o5.len
    have hTm : l5.take l5.length = l5 := List.take_length
    rw [hLm] at hTm
    have hsI : (k2 : Int) < x.two.length := by omega
    have hcc4 := (hcc2.next hto3).next hto4
    have bz4 := hto4.1.blk (hto3.1.blk bz2 (by simp; omega)) (by simp; omega)
    have hbidlo := hlo _ hbi
    have hzb : blkAt (H4.set bid (some ⟨52, .wr, blo.rows.set k2 l5⟩)) H.length = _ := (blkAt_set_ne (by omega)).trans bz4
    have hzl := blkAt_len bz4
    simp [indexAddrV, elemIs, hbb, nbid, hbe, hbm, hs, hsI, hrow, hrl, hDr, hLm, hTm, z1, hL, hT, hzb, hzl]
    refine fin _ _ _ _ _ fp' rfl ?_ z2 (setTwo_sz hx hs5) (hloF _ H3.length (by have := hto3.len; have := hto2.len; omega) z3) (by simpa using hzl) (hcc4.set (by omega) (by omega) _)
    simp
  by_cases c1 : k = 1
  · simp [c1]
    refine stpL_runs (l13DrawReg hto2.2) ?_
    rintro _ H3 ⟨⟨r, rfl⟩, hto3⟩
    have ox3 := ox20.keep hto3.1 no
    rw [hle] at ox3
    have b33 := hto3.1.blk b3l (by simp; omega)
    have bz3 := hto3.1.blk bz2 (by simp; omega)
    have d33 := blkAt_len b33
    have dz3 := blkAt_len bz3
    have hcc3 := hcc2.next hto3
    obtain ⟨l', fp', z1, z2, z3, z4, z5⟩ := boxReg d33 ox3 hKfp (Keep.refl _ _) r
    have e := (blkAt_set d33).symm.trans z1
    simp at e
    subst e
    simp [b33, d33, bz3, dz3, hne3, hne4, Reg.enc]
    refine fin _ _ _ _ _ fp' rfl ?_ z2 (by have : (setReg x r).sz = x.sz := rfl; omega) (hloF _ H3.length (by omega) z5) (by simpa using dz3) (hcc3.set (by omega) (by omega) _)
    simp
  by_cases c5 : k = 5
  · simp [c5]
    refine stpL_runs (l1Below hto2.2 6) ?_
    rintro _ H3 ⟨⟨r, rfl, -⟩, hto3⟩
    have ox3 := ox20.keep hto3.1 no
    rw [hle] at ox3
    have b33 := hto3.1.blk b3l (by simp; omega)
    have bz3 := hto3.1.blk bz2 (by simp; omega)
    have d33 := blkAt_len b33
    have dz3 := blkAt_len bz3
    have hcc3 := hcc2.next hto3
    obtain ⟨l', fp', z1, z2, z3, z4, z5⟩ := boxPorts d33 ox3 hKfp (Keep.refl _ _) r
    have e := (blkAt_set d33).symm.trans z1
    simp at e
    subst e
    simp [b33, d33, bz3, dz3, hne3, hne4]
    refine fin _ _ _ _ _ fp' rfl ?_ z2 (by have : (setPorts x r).sz = x.sz := rfl; omega) (hloF _ H3.length (by omega) z5) (by simpa using dz3) (hcc3.set (by omega) (by omega) _)
    simp
  by_cases c4 : k = 4
  · obtain ⟨bid, blo, r0, r1, r3, r4, hle2, hbi, hbb, hbe, hbm, hrow, z2⟩ := boxGate ox20 hg1 (!x.gates[0])
    have hq2 : q2 = .sl (some (bid, 0)) x.gates.length := by
      rw [hle2] at hle
      simp only [Box.enc, List.cons.injEq, and_true, true_and] at hle
      exact hle.2.2.1.symm
    subst hq2
    have nbid := blkAt_len hbb
    have hbK : bid ≠ K := fun h => hKfp (h ▸ hbi)
    have hbH : bid ≠ H.length := fun h => by have := hlo _ hbi; omega
    have hbh2 : H.length < bid := hlo _ hbi
    have hgI : (0 : Int) < x.gates.length := by omega
    have hzb : ∀ y, blkAt (H2.set bid y) H.length = _ := fun y => (blkAt_set_ne hbH).trans bz2
    have hzk : ∀ y, blkAt (H2.set bid y) K = _ := fun y => (blkAt_set_ne hbK).trans b3l
    simp [c4, b3l, d3, indexAddrV, elemIs, hbb, nbid, hbe, hbm, hgI, hg1, hrow, hzb, hzk, dz2]
    have hgz : (setGate x (!x.gates[0])).sz = x.sz := by simp [setGate, Box.sz]
    refine fin _ _ _ _ _ fp ?_ ?_ z2 (by omega) hlo (by simpa using dz2) (hcc2.set (by omega) (by omega) _)
    · rw [hle]; rfl
    · simp
  by_cases c2 : k = 2
  · simp [c2, b3l, d3]
    refine stpL_cur (l1Below hto2.2 3) hto2.2 (fun v H' h => h.2) ?_
    rintro _ H3 ⟨⟨k2, rfl, -⟩, hto3⟩
    simp
    refine stpL_cur (l1Below hto3.2 3) hto3.2 (fun v H' h => h.2) ?_
    rintro _ H4 ⟨⟨k3, rfl, -⟩, hto4⟩
    simp
    refine stpL_cur (l8DrawBent hto4.2) hto4.2 (fun v H' h => h.2) ?_
    rintro _ H5 ⟨⟨y, rfl⟩, hto5⟩
    have hto25 := (hto3.next hto4).next hto5
    have kY5 := hto25.1
    have hto5c := hto25.1
    have hcc5 := hcc2.next hto25
    have hszA : (setNet x (x.net ++ [⟨k2, false, 1, k3, y⟩])).sz = x.sz + 1 := by simp [setNet, setLine, Box.sz]; omega
    obtain ⟨j0, j1, j2, j3, j4⟩ := cp H5 kY5
    have b35 := hto5c.blk b3l (by simp; omega)
    have bz5 := hto5c.blk bz2 (by simp; omega)
    have d35 := blkAt_len b35
    have hl5 := kY5.1
    simp [Wire.enc, In.enc]
    refine stpL_append (e := 91) (rows := x.net.map Wire.enc) (ys := [(Wire.mk k2 false 1 k3 y).enc]) (j1.app _) (Sl.of (by simp [Wire.enc, In.enc])) rfl rfl rfl (by simp) (by simp; omega) (by simp) rfl fun aa C fc hoC hkC hfC => ?_
    have kC : Keep f1 H5 C := hkC.base
    have hC := kC.1
    have hfl : ∀ i ∈ f1, H.length < i ∧ i ≠ K := fun i hi => ⟨hlo i (by rw [hfe]; simp [hi]), fun h => hKfp (by rw [hfe, ← h]; simp [hi])⟩
    have hfc : ∀ i ∈ fc, i ∈ f1 ∨ H5.length ≤ i := fun i hi => by
      rcases hfC i hi with h | h
      · exact .inl h
      · simp at h; exact .inr (by omega)
    have bC := kC.blk b35 (fun h => (hfl _ h).2 rfl)
    have bzC := kC.blk bz5 (fun h => by have := (hfl _ h).1; omega)
    have dC := blkAt_len bC
    have dzC := blkAt_len bzC
    have hcC := hcc5.own kC (fun i hi => by have := (hfl i hi).1; omega) hcl
    have hKf := hKfp
    rw [hfe] at hKf
    obtain ⟨l', fp', z1, z2, z3, z4, z5⟩ := boxNet (x := x) (q1' := .sl aa (x.net.length + 1)) (ws := x.net ++ [⟨k2, false, 1, k3, y⟩]) d35 hKf j0 j2 ⟨a3, rfl, j3⟩ j4 (hfe ▸ hnd) kC ⟨aa, by simp, by simpa using hoC⟩ hfc
    have e := (blkAt_set dC).symm.trans z1
    simp at e
    subst e
    simp [bC, dC, bzC, dzC, hne3, hne4]
    refine fin _ _ _ _ _ fp' rfl ?_ z2 (by rw [hszA]; omega) (hloF _ H5.length (by omega) (by rw [hfe]; exact z5)) (by simpa using dzC) (hcC.set (by omega) (by omega) _)
    simp
  by_cases c3 : k = 3
  · simp [c3, b3l, d3]
    refine stpL_cur (l8DrawBent hto2.2) hto2.2 (fun v H' h => h.2) ?_
    rintro _ H5 ⟨⟨y, rfl⟩, hto5⟩
    have kY5 := hto5.1
    have hto5c := hto5.1
    have hcc5 := hcc2.next hto5
    have hszA : (setLine x (x.line ++ [y])).sz = x.sz + 1 := by simp [setNet, setLine, Box.sz]; omega
    obtain ⟨j0, j1, j2, j3, j4⟩ := cp H5 kY5
    have b35 := hto5c.blk b3l (by simp; omega)
    have bz5 := hto5c.blk bz2 (by simp; omega)
    have d35 := blkAt_len b35
    have hl5 := kY5.1
    simp [In.enc]
    refine stpL_append (e := 64) (rows := x.line.map In.enc) (ys := [y.enc]) (j3.app _) (Sl.of (by simp [In.enc])) rfl rfl rfl (by simp) (by simp; omega) (by simp) rfl fun aa C fc hoC hkC hfC => ?_
    have kC : Keep f3 H5 C := hkC.base
    have hC := kC.1
    have hfl : ∀ i ∈ f3, H.length < i ∧ i ≠ K := fun i hi => ⟨hlo i (by rw [hfe]; simp [hi]), fun h => hKfp (by rw [hfe, ← h]; simp [hi])⟩
    have hfc : ∀ i ∈ fc, i ∈ f3 ∨ H5.length ≤ i := fun i hi => by
      rcases hfC i hi with h | h
      · exact .inl h
      · simp at h; exact .inr (by omega)
    have bC := kC.blk b35 (fun h => (hfl _ h).2 rfl)
    have bzC := kC.blk bz5 (fun h => by have := (hfl _ h).1; omega)
    have dC := blkAt_len bC
    have dzC := blkAt_len bzC
    have hcC := hcc5.own kC (fun i hi => by have := (hfl i hi).1; omega) hcl
    have hKf := hKfp
    rw [hfe] at hKf
    obtain ⟨l', fp', z1, z2, z3, z4, z5⟩ := boxLine (x := x) (q3' := .sl aa (x.line.length + 1)) (ls := x.line ++ [y]) d35 hKf j0 ⟨a1, rfl, j1⟩ j2 j4 (hfe ▸ hnd) kC ⟨aa, by simp, by simpa using hoC⟩ hfc
    have e := (blkAt_set dC).symm.trans z1
    simp at e
    subst e
    simp [bC, dC, bzC, dzC, hne3, hne4]
    refine fin _ _ _ _ _ fp' rfl ?_ z2 (by rw [hszA]; omega) (hloF _ H5.length (by omega) (by rw [hfe]; exact z5)) (by simpa using dzC) (hcC.set (by omega) (by omega) _)
    simp
  simp [c0, c1, c2, c3, c4, c5, b3, d3, hL, hT, bz2, dz2]
  refine fin _ _ _ _ _ fp rfl ?_ ox20 (by omega) hlo dz2 hcc2
  simp

theorem drawDo {H : Heap} {a : Option (Nat × Nat)} {bs : List Int} (hs : Sl H 5 a (bs.map encU)) (hn : bs.length ≤ 1048576) : Runs env 39 [.w (.lf (.sl a bs.length))] H fun v H' => (∃ (l : List Lf) (x : Box) (fp : List Nat) (d : Deed), v = .tup [.agg l, .agg d.enc] ∧ IsBox H' l x fp ∧ x.sz ≤ 2000) ∧ Keep [] H H' := by
  refine Runs.walk ok39 Tryz.func39 rfl (by simp [Tryz.f39]) fun Q hQ => ?_
  simp only [Tryz.f39, strip, stripL, stripI, stripG, chkT, tagsB, tagsL, tagD, addT, tagA, lookN, tagOp, elmT, ty22, ty26, ty27, ty28, ty29, ty30, ty41, ty53, ty56, Nat.reduceEqDiff, if_false, reduceIte, Option.getD_some, Option.getD_none, dstAt, dstOk, Nat.reduceLT, decide_true, if_true]
  obtain ⟨X0, hX0⟩ : ∃ X0 : Heap, X0 = H ++ [some ⟨32, .wr, [[.i .i64 0, .i .i64 0, .i .i64 0, .i .i64 0, .i .i64 0, .sl none 0, .sl none 0, .sl none 0, .sl none 0, .sl none 0]]⟩, some ⟨66, .wr, [[.i .i64 0, .i .i64 0, .i .i64 0, .i .i64 0, .i .i64 0, .i .i64 0, .i .i64 0, .i .i64 0, .i .i64 0, .b false]]⟩] := ⟨_, rfl⟩
  have bz0 : blkAt X0 H.length = some ⟨32, .wr, [[.i .i64 0, .i .i64 0, .i .i64 0, .i .i64 0, .i .i64 0, .sl none 0, .sl none 0, .sl none 0, .sl none 0, .sl none 0]]⟩ := by rw [hX0]; simp
  have by0 : blkAt X0 (H.length + 1) = some ⟨66, .wr, [[.i .i64 0, .i .i64 0, .i .i64 0, .i .i64 0, .i .i64 0, .i .i64 0, .i .i64 0, .i .i64 0, .i .i64 0, .b false]]⟩ := by rw [hX0]; simp
  have k0 : Keep [] H X0 := by rw [hX0]; exact Keep.app _ _ _
  have hl0 : X0.length = H.length + 2 := by rw [hX0]; simp
  have hs0 : Sl X0 5 a (bs.map encU) := by rw [hX0]; exact hs.app _
  simp
  rw [← hX0]
  refine stpL_runs (l1New hs0 hn) ?_
  rintro _ X ⟨c, rfl, hc, hcl, hk⟩
  have bz := hk.blk bz0 (by simp)
  have by1 := hk.blk by0 (by simp)
  simp
  refine stpL_runs (l15Draw hc) ?_
  rintro _ Y ⟨⟨l, x, fp, rfl, ox, hxs, hfp⟩, hto⟩
  have bz2 := hto.1.blk bz (fun h => by simp at h; omega)
  have by2 := hto.1.blk by1 (fun h => by simp at h; omega)
  have hL := ox.len
  have hT : l.take l.length = l := List.take_length
  rw [hL] at hT
  have hcl2 := hc.lt
  have hkl := hk.1
  have hYl := hto.len
  simp [hL, hT]
  obtain ⟨Y1, hY1⟩ : ∃ Y1 : Heap, Y1 = Y ++ [some ⟨32, .wr, [l]⟩] := ⟨_, rfl⟩
  have b5 : blkAt Y1 Y.length = some ⟨32, .wr, [l]⟩ := by rw [hY1]; simp
  have hc1 : Cur Y1 c bs.length := by rw [hY1]; exact hto.2.app _
  have bz3 := blkAt_app bz2 [some ⟨32, .wr, [l]⟩]
  have by3 := blkAt_app by2 [some ⟨32, .wr, [l]⟩]
  rw [← hY1] at bz3 by3
  have ox1 := ox.app [some ⟨32, .wr, [l]⟩]
  rw [← hY1] at ox1 ⊢
  have n5 := blkAt_len b5
  have kY1 : Keep [] H Y1 := by rw [hY1]; exact ((k0.next hk (by simp)).next hto.1 (by simp; omega)).trans (Keep.app [] Y _) (by simp) (by simp)
  have no : ∀ i ∈ fp, i ∉ [c] := fun i hi h => by have := hfp i hi; simp at h; omega
  have hnet : x.net.length ≤ 1048576 := by unfold Box.sz at hxs; omega
  refine stpL_cur (l15DrawDeed hc1 ox1.rd hnet) hc1 (fun v H' h => h.2) ?_
  rintro _ Z ⟨⟨d0, rfl, -, -⟩, hto2⟩
  simp
  refine stpL_cur (l15Spoil hto2.2 d0) hto2.2 (fun v H' h => h.2) ?_
  rintro _ U ⟨⟨d, rfl⟩, hto3⟩
  have hto4 := hto2.next hto3
  have bzU := hto4.1.blk bz3 (fun h => by simp at h; omega)
  have byU := hto4.1.blk by3 (fun h => by simp at h; omega)
  have nz := blkAt_len bzU
  have ny := blkAt_len byU
  have oxU := ox1.keep hto4.1 no
  have kU := kY1.next hto4.1 (by simp; omega)
  have hsw : ∀ y : Option Blk, blkAt (U.set H.length y) (H.length + 1) = blkAt U (H.length + 1) := fun y => blkAt_set_ne (by omega)
  simp [Deed.enc, bzU, nz, hsw, byU, ny, hL, hT, -set_lt]
  obtain ⟨HF, hHF⟩ : ∃ HF : Heap, HF = (U.set H.length (some ⟨32, .wr, [l]⟩)).set (H.length + 1) (some ⟨66, .wr, [d.enc]⟩) := ⟨_, rfl⟩
  simp only [Deed.enc] at hHF
  rw [← hHF]
  have b2 : blkAt HF H.length = some ⟨32, .wr, [l]⟩ := by rw [hHF, blkAt_set_ne (by omega)]; exact blkAt_set nz
  have b3 : blkAt HF (H.length + 1) = some ⟨66, .wr, [d.enc]⟩ := by rw [hHF]; exact blkAt_set (by simpa using ny)
  have kF : Keep [H.length, H.length + 1] U HF := by
    rw [hHF]
    exact (Keep.set _ _).trans (Keep.set _ _) (fun i hi _ => by simp at hi; simp [hi]) (fun i hi _ => by simp at hi; simp [hi])
  have kA : Keep [] H HF := kU.next kF (by simp)
  have oF := oxU.keep kF (fun i hi h => by have := hfp i hi; simp at h; omega)
  have fin : ∀ (tm : Ab.T), tm 2 = .ptr H.length 0 0 → tm 3 = .ptr (H.length + 1) 0 0 → Q .ret tm HF := by
    intro tm t2 t3
    refine hQ _ _ _ (by simp) ?_
    have hres : resT env.τ tm HF (Tryz.f39.results.toList) = some [W.agg l, W.agg d.enc] := by simp [Tryz.f39, t2, t3, b2, b3, hL, hT, Deed.enc]
    rw [hres, optK_some]
    rcases leave_opt H HF [W.agg l, W.agg d.enc] with e | ⟨e, hr⟩ <;> rw [e]
    · exact ⟨⟨l, x, fp, d, rfl, oF, hxs⟩, kA⟩
    · simp only [List.all_cons, Bool.and_eq_true] at hr
      exact ⟨⟨l, x, [], d, rfl, oF.free hr.1 H, hxs⟩, Keep.refl _ _⟩
  refine fin _ ?_ ?_ <;> simp

theorem sameFlagsL {H : Heap} {q r : Lf} {xs ys : List Bool} (h : RdBoolS H q xs) (h2 : RdBoolS H r ys) (hn : xs.length ≤ 1048576) : run env 72 [.w (.lf q), .w (.lf r)] H = some (.bool (decide (xs = ys)), H) := by
  obtain ⟨a, rfl, ha⟩ := h
  obtain ⟨b, rfl, hb⟩ := h2
  refine run_walk ok72 Tryz.func72 rfl (by simp [Tryz.f72]) fun Q hQ => ?_
  simp only [Tryz.f72, strip, stripL, stripI, stripG, chkT, tagsB, tagsL, tagD, addT, tagA, lookN, tagOp, elmT, ty22, ty26, ty27, ty28, ty29, ty30, ty41, ty53, ty56, Nat.reduceEqDiff, if_false, reduceIte, Option.getD_some, Option.getD_none, dstAt, dstOk, Nat.reduceLT, decide_true, if_true]
  simp [builtinV, pureB, lenV]
  refine selS_intro (fun hl => ?_) (fun hl => ?_)
  · simp
    refine hQ _ _ _ (by simp) ?_
    simp at hl
    have : ¬ xs = ys := fun h => hl (by rw [h])
    simp [Tryz.f72, this]
  simp at hl
  simp [builtinV, pureB, lenV]
  refine wpS_loop (fun j tm H' => ∃ i, i + j = xs.length ∧ tm 0 = .w (.lf (.sl a xs.length)) ∧ tm 1 = .w (.lf (.sl b ys.length)) ∧ tm 5 = .int i ∧ H' = H ∧ xs.take i = ys.take i) xs.length (by rw [env_K]; omega) ⟨0, by simp, by simp, by simp, by simp, rfl, by simp⟩ ?_
  rintro j tm H' hj ⟨i, hij, h0, h1, h5, rfl, heq⟩ Q' hn' he' hr'
  simp [h0, h1, h5, builtinV, pureB, lenV]
  refine selS_intro (fun hc => ?_) (fun hc => ?_)
  · simp at hc
    have hc2 : i < ys.length := by omega
    obtain ⟨id, r, bl, rfl, hbl, hbe, hrow⟩ := ha i _ (by simp [hc]; rfl)
    obtain ⟨id2, r2, bl2, rfl, hbl2, hbe2, hrow2⟩ := hb i _ (by simp [hc2]; rfl)
    have g4 : IntKind.i64.wrap ((i : Int) + 1) = (i : Int) + 1 := wrap64 (by omega) (by omega)
    simp [h0, h1, h5, indexAddrV, elemIs, hbl, hbe, hbl2, hbe2, hc, hc2, hrow, hrow2, encB]
    refine selS_intro (fun hd => ?_) (fun hd => ?_)
    · simp
      refine hr' _ _ ?_
      simp
      refine hQ _ _ _ (by simp) ?_
      have : ¬ xs = ys := fun h => by subst h; simp at hd
      simp [Tryz.f72, this]
    · have hxy : xs[i] = ys[i] := by
        refine encB_inj ?_
        simpa [encB] using hd
      simp [h0, h1, h5, g4]
      exact hn' (j - 1) _ _ (by omega) ⟨i + 1, by omega, by simp [h0], by simp [h1], by simp, rfl, by rw [List.take_add_one, List.take_add_one, heq]; simp [hc, hc2, hxy]⟩
  · simp at hc
    simp [h0, h1, h5]
    refine he' _ _ _ ?_
    simp
    refine hQ _ _ _ (by simp) ?_
    have : xs = ys := by
      rw [List.take_of_length_le (by omega), List.take_of_length_le (by omega)] at heq
      exact heq
    simp [Tryz.f72, this]

theorem sameInsL {H : Heap} {q r : Lf} {xs ys : List In} (h : RdInS H q xs) (h2 : RdInS H r ys) (hn : xs.length ≤ 1048576) : run env 73 [.w (.lf q), .w (.lf r)] H = some (.bool (decide (xs = ys)), H) := by
  obtain ⟨a, rfl, ha⟩ := h
  obtain ⟨b, rfl, hb⟩ := h2
  refine run_walk ok73 Tryz.func73 rfl (by simp [Tryz.f73]) fun Q hQ => ?_
  simp only [Tryz.f73, strip, stripL, stripI, stripG, chkT, tagsB, tagsL, tagD, addT, tagA, lookN, tagOp, elmT, ty22, ty26, ty27, ty28, ty29, ty30, ty41, ty53, ty56, Nat.reduceEqDiff, if_false, reduceIte, Option.getD_some, Option.getD_none, dstAt, dstOk, Nat.reduceLT, decide_true, if_true]
  simp [builtinV, pureB, lenV]
  refine selS_intro (fun hl => ?_) (fun hl => ?_)
  · simp
    refine hQ _ _ _ (by simp) ?_
    simp at hl
    have : ¬ xs = ys := fun h => hl (by rw [h])
    simp [Tryz.f73, this]
  simp at hl
  simp [builtinV, pureB, lenV]
  refine wpS_loop (fun j tm H' => ∃ i, i + j = xs.length ∧ tm 0 = .w (.lf (.sl a xs.length)) ∧ tm 1 = .w (.lf (.sl b ys.length)) ∧ tm 5 = .int i ∧ H' = H ∧ xs.take i = ys.take i) xs.length (by rw [env_K]; omega) ⟨0, by simp, by simp, by simp, by simp, rfl, by simp⟩ ?_
  rintro j tm H' hj ⟨i, hij, h0, h1, h5, rfl, heq⟩ Q' hn' he' hr'
  simp [h0, h1, h5, builtinV, pureB, lenV]
  refine selS_intro (fun hc => ?_) (fun hc => ?_)
  · simp at hc
    have hc2 : i < ys.length := by omega
    obtain ⟨id, r, bl, rfl, hbl, hbe, hrow⟩ := ha i _ (by simp [hc]; rfl)
    obtain ⟨id2, r2, bl2, rfl, hbl2, hbe2, hrow2⟩ := hb i _ (by simp [hc2]; rfl)
    have g4 : IntKind.i64.wrap ((i : Int) + 1) = (i : Int) + 1 := wrap64 (by omega) (by omega)
    simp [h0, h1, h5, indexAddrV, elemIs, hbl, hbe, hbl2, hbe2, hc, hc2, hrow, hrow2, In.enc]
    refine selS_intro (fun hd => ?_) (fun hd => ?_)
    · simp
      refine hr' _ _ ?_
      simp
      refine hQ _ _ _ (by simp) ?_
      have : ¬ xs = ys := fun h => by subst h; simp at hd
      simp [Tryz.f73, this]
    · have hxy : xs[i] = ys[i] := by
        refine In.enc_inj ?_
        simpa [In.enc] using hd
      simp [h0, h1, h5, g4]
      exact hn' (j - 1) _ _ (by omega) ⟨i + 1, by omega, by simp [h0], by simp [h1], by simp, rfl, by rw [List.take_add_one, List.take_add_one, heq]; simp [hc, hc2, hxy]⟩
  · simp at hc
    simp [h0, h1, h5]
    refine he' _ _ _ ?_
    simp
    refine hQ _ _ _ (by simp) ?_
    have : xs = ys := by
      rw [List.take_of_length_le (by omega), List.take_of_length_le (by omega)] at heq
      exact heq
    simp [Tryz.f73, this]

theorem sameMinderL {H : Heap} {l r : List Lf} {x y : Minder} (h : RdMinder H l x) (h2 : RdMinder H r y) (hn : x.sz ≤ 1048576) : run env 74 [.agg l, .agg r] H = some (.bool (decide (x = y)), H) := by
  obtain ⟨a, rfl, h⟩ := h
  obtain ⟨b, rfl, h2⟩ := h2
  have e := fun G => sameInsL (q := .sl a x.log.length) (r := .sl b y.log.length) (xs := x.log) (ys := y.log) (H := H ++ G) ⟨a, rfl, h.app G⟩ ⟨b, rfl, h2.app G⟩ hn
  refine run_walk ok74 Tryz.func74 rfl (by simp [Tryz.f74]) fun Q hQ => ?_
  simp only [Tryz.f74, strip, stripL, stripI, stripG, chkT, tagsB, tagsL, tagD, addT, tagA, lookN, tagOp, elmT, ty22, ty26, ty27, ty28, ty29, ty30, ty41, ty53, ty56, Nat.reduceEqDiff, if_false, reduceIte, Option.getD_some, Option.getD_none, dstAt, dstOk, Nat.reduceLT, decide_true, if_true]
  simp [Minder.enc]
  repeat' (first | (refine gdL_t (fun h => ?_) (fun h => ?_) <;> simp [h, e]) | (refine gdL_f (fun h => ?_) (fun h => ?_) <;> simp [h, e]) | (refine selS_intro (fun h => ?_) (fun h => ?_) <;> simp [h, e]))
  all_goals (refine hQ _ _ _ (by simp) ?_)
  all_goals (clear hQ; obtain ⟨x1, x2, x3, x4, x5, x6, x7⟩ := x; obtain ⟨y1, y2, y3, y4, y5, y6, y7⟩ := y; simp_all [Tryz.f74])

theorem sameBoxL {H : Heap} {l r : List Lf} {x y : Box} (h : RdBox H l x) (h2 : RdBox H r y) (hn : x.sz ≤ 1048576) : run env 29 [.agg l, .agg r] H = some (.bool (decide (x = y)), H) := by
  obtain ⟨q0, q1, q2, q3, q4, rfl, ⟨a0, rws, rfl, hs, hlen, hat⟩, ⟨a1, rfl, ha1⟩, hg, hl, ⟨a4, rfl, ha4⟩⟩ := h
  obtain ⟨r0, r1, r2, r3, r4, rfl, ⟨c0, rws2, rfl, hs2, hlen2, hat2⟩, ⟨c1, rfl, hc1⟩, hg2, hl2, ⟨c4, rfl, hc4⟩⟩ := h2
  have hz := hn
  have hz2 := MinderS.sz_len x.two
  unfold Box.sz at hz
  have e1 := fun G => sameFlagsL (hg.app G) (hg2.app G) (by omega)
  have e2 := fun G => sameInsL (hl.app G) (hl2.app G) (by omega)
  refine run_walk ok29 Tryz.func29 rfl (by simp [Tryz.f29]) fun Q hQ => ?_
  simp only [Tryz.f29, strip, stripL, stripI, stripG, chkT, tagsB, tagsL, tagD, addT, tagA, lookN, tagOp, elmT, ty22, ty26, ty27, ty28, ty29, ty30, ty41, ty53, ty56, Nat.reduceEqDiff, if_false, reduceIte, Option.getD_some, Option.getD_none, dstAt, dstOk, Nat.reduceLT, decide_true, if_true]
  have bad : x ≠ y → ∀ tm H', (∃ G, H' = H ++ G) → tm 4 = .bool false → Q .ret tm H' := by
    rintro hx tm _ ⟨G, rfl⟩ h4
    refine hQ _ _ _ (by simp) ?_
    simp [Tryz.f29, h4, hx]
  simp [Box.enc, builtinV, pureB, lenV]
  refine gdL_f (fun hd0 => ?_) (fun hd0 => ?_)
  · simp [hd0]
    exact bad (fun hx => by subst hx; simp at hd0) _ _ ⟨_, rfl⟩ (by simp)
  simp [hd0, Box.enc, builtinV, pureB, lenV, e1, e2]
  refine gdL_f (fun hd1 => ?_) (fun hd1 => ?_)
  · simp [hd1]
    exact bad (fun hx => by subst hx; simp at hd1) _ _ ⟨_, rfl⟩ (by simp)
  simp [hd1, Box.enc, builtinV, pureB, lenV, e1, e2]
  refine gdL_f (fun hd2 => ?_) (fun hd2 => ?_)
  · simp [hd2]
    exact bad (fun hx => by subst hx; simp at hd2) _ _ ⟨_, rfl⟩ (by simp)
  simp [hd2, Box.enc, builtinV, pureB, lenV, e1, e2]
  refine gdL_f (fun hd3 => ?_) (fun hd3 => ?_)
  · simp [hd3]
    exact bad (fun hx => by subst hx; simp at hd3) _ _ ⟨_, rfl⟩ (by simp)
  simp [hd3, Box.enc, builtinV, pureB, lenV, e1, e2]
  refine gdL_f (fun hd4 => ?_) (fun hd4 => ?_)
  · simp [hd4]
    exact bad (fun hx => by subst hx; simp at hd4) _ _ ⟨_, rfl⟩ (by simp)
  simp [hd4, Box.enc, builtinV, pureB, lenV, e1, e2]
  refine gdL_f (fun hd5 => ?_) (fun hd5 => ?_)
  · simp [hd5]
    exact bad (fun hx => by subst hx; simp at hd5) _ _ ⟨_, rfl⟩ (by simp)
  simp [hd5, Box.enc, builtinV, pureB, lenV, e1, e2]
  refine gdL_f (fun hd6 => ?_) (fun hd6 => ?_)
  · simp [hd6]
    exact bad (fun hx => by subst hx; simp at hd6) _ _ ⟨_, rfl⟩ (by simp)
  simp [hd6, Box.enc, builtinV, pureB, lenV, e1, e2]
  refine selS_intro (fun hd7 => ?_) (fun hd7 => ?_)
  · simp
    exact bad (fun hx => by subst hx; simp at hd7) _ _ ⟨_, rfl⟩ (by simp)
  simp at hd0 hd1 hd2 hd3 hd4 hd5 hd6 hd7
  simp
  refine wpS_loop (fun j tm H' => ∃ i, i + j = x.two.length ∧ tm 2 = .ptr H.length 0 0 ∧ tm 3 = .ptr (H.length + 1) 0 0 ∧ tm 5 = .int i ∧ H' = H ++ [some ⟨32, .wr, [x.enc (.sl a0 x.two.length) (.sl a1 x.net.length) q2 q3 (.sl a4 x.said.length)]⟩, some ⟨32, .wr, [y.enc (.sl c0 y.two.length) (.sl c1 y.net.length) r2 r3 (.sl c4 y.said.length)]⟩] ∧ x.two.take i = y.two.take i) x.two.length (by rw [env_K]; omega) ⟨0, by simp, by simp, by simp, by simp, by simp [Box.enc], by simp⟩ ?_
  rintro j tm1 H' hj ⟨i, hij, t2, t3, t5, rfl, heq⟩ Q' hn' he' hr'
  simp [t2, t3, t5, Box.enc, builtinV, pureB, lenV]
  refine selS_intro (fun hc => ?_) (fun hc => ?_)
  · simp at hc
    have hc2 : i < y.two.length := by omega
    have hri : i < rws.length := by omega
    have hri2 : i < rws2.length := by omega
    obtain ⟨id, r, bl, rfl, hbl, hbe, hrow⟩ := hs i _ (List.getElem?_eq_getElem hri)
    obtain ⟨id2, r2, bl2, rfl, hbl2, hbe2, hrow2⟩ := hs2 i _ (List.getElem?_eq_getElem hri2)
    have he := hat i _ _ (List.getElem?_eq_getElem hri) (List.getElem?_eq_getElem hc)
    have he2 := hat2 i _ _ (List.getElem?_eq_getElem hri2) (List.getElem?_eq_getElem hc2)
    have hL := he.len
    have hT : rws[i].take rws[i].length = rws[i] := List.take_length
    rw [hL] at hT
    have hL2 := he2.len
    have hT2 : rws2[i].take rws2[i].length = rws2[i] := List.take_length
    rw [hL2] at hT2
    have hsz := MinderS.sz_at (List.getElem_mem hc)
    have ee := fun G => sameMinderL (he.app G) (he2.app G) (by omega)
    have hbl' := fun G => blkAt_app hbl G
    have hbl2' := fun G => blkAt_app hbl2 G
    have g4 : IntKind.i64.wrap ((i : Int) + 1) = (i : Int) + 1 := wrap64 (by omega) (by omega)
    simp [t2, t3, t5, Box.enc, indexAddrV, elemIs, hbl', hbe, hbl2', hbe2, hc, hc2, hrow, hrow2, hL, hT, hL2, hT2, ee]
    refine selS_intro (fun hd => ?_) (fun hd => ?_)
    · simp
      refine hr' _ _ ?_
      simp
      exact bad (fun h => by subst h; simp at hd) _ _ ⟨_, rfl⟩ (by simp)
    · have hxy : x.two[i] = y.two[i] := by simpa using hd
      simp [t2, t3, t5, g4]
      exact hn' (j - 1) _ _ (by omega) ⟨i + 1, by omega, by simp [t2], by simp [t3], by simp, by simp [Box.enc], by rw [List.take_add_one, List.take_add_one, heq]; simp [hc, hc2, hxy]⟩
  simp at hc
  simp [t2, t3, t5]
  refine he' _ _ _ ?_
  simp
  have etwo : x.two = y.two := by
    rw [List.take_of_length_le (by omega), List.take_of_length_le (by omega)] at heq
    exact heq
  have s2 := t2
  have s3 := t3
  clear hn' he' hr' t5 heq
  refine wpS_loop (fun j tm H' => ∃ i, i + j = x.net.length ∧ tm 2 = .ptr H.length 0 0 ∧ tm 3 = .ptr (H.length + 1) 0 0 ∧ tm 6 = .int i ∧ H' = H ++ [some ⟨32, .wr, [x.enc (.sl a0 x.two.length) (.sl a1 x.net.length) q2 q3 (.sl a4 x.said.length)]⟩, some ⟨32, .wr, [y.enc (.sl c0 y.two.length) (.sl c1 y.net.length) r2 r3 (.sl c4 y.said.length)]⟩] ∧ x.net.take i = y.net.take i) x.net.length (by rw [env_K]; omega) ⟨0, by simp, by simp [s2, s3], by simp [s2, s3], by simp, by simp [Box.enc], by simp⟩ ?_
  rintro j tm2 H' hj ⟨i, hij, t2, t3, t5, rfl, heq⟩ Q' hn' he' hr'
  simp [t2, t3, t5, Box.enc, builtinV, pureB, lenV]
  refine selS_intro (fun hc => ?_) (fun hc => ?_)
  · simp at hc
    have hc2 : i < y.net.length := by omega
    obtain ⟨id, r, bl, rfl, hbl, hbe, hrow⟩ := ha1 i _ (by simp [hc]; rfl)
    obtain ⟨id2, r2, bl2, rfl, hbl2, hbe2, hrow2⟩ := hc1 i _ (by simp [hc2]; rfl)
    have hbl' := fun G => blkAt_app hbl G
    have hbl2' := fun G => blkAt_app hbl2 G
    have g4 : IntKind.i64.wrap ((i : Int) + 1) = (i : Int) + 1 := wrap64 (by omega) (by omega)
    simp [t2, t3, t5, Box.enc, indexAddrV, elemIs, hbl', hbe, hbl2', hbe2, hc, hc2, hrow, hrow2, Wire.enc]
    refine selS_intro (fun hd => ?_) (fun hd => ?_)
    · simp
      refine hr' _ _ ?_
      simp
      exact bad (fun h => by subst h; simp at hd) _ _ ⟨_, rfl⟩ (by simp)
    · have hxy : x.net[i] = y.net[i] := by
        refine Wire.enc_inj ?_
        simpa [Wire.enc] using hd
      simp [t2, t3, t5, g4]
      exact hn' (j - 1) _ _ (by omega) ⟨i + 1, by omega, by simp [t2], by simp [t3], by simp, by simp [Box.enc], by rw [List.take_add_one, List.take_add_one, heq]; simp [hc, hc2, hxy]⟩
  simp at hc
  simp [t2, t3, t5]
  refine he' _ _ _ ?_
  simp
  have enet : x.net = y.net := by
    rw [List.take_of_length_le (by omega), List.take_of_length_le (by omega)] at heq
    exact heq
  have s2 := t2
  have s3 := t3
  clear hn' he' hr' t5 heq
  refine wpS_loop (fun j tm H' => ∃ i, i + j = x.said.length ∧ tm 2 = .ptr H.length 0 0 ∧ tm 3 = .ptr (H.length + 1) 0 0 ∧ tm 7 = .int i ∧ H' = H ++ [some ⟨32, .wr, [x.enc (.sl a0 x.two.length) (.sl a1 x.net.length) q2 q3 (.sl a4 x.said.length)]⟩, some ⟨32, .wr, [y.enc (.sl c0 y.two.length) (.sl c1 y.net.length) r2 r3 (.sl c4 y.said.length)]⟩] ∧ x.said.take i = y.said.take i) x.said.length (by rw [env_K]; omega) ⟨0, by simp, by simp [s2, s3], by simp [s2, s3], by simp, by simp [Box.enc], by simp⟩ ?_
  rintro j tm3 H' hj ⟨i, hij, t2, t3, t5, rfl, heq⟩ Q' hn' he' hr'
  simp [t2, t3, t5, Box.enc, builtinV, pureB, lenV]
  refine selS_intro (fun hc => ?_) (fun hc => ?_)
  · simp at hc
    have hc2 : i < y.said.length := by omega
    obtain ⟨id, r, bl, rfl, hbl, hbe, hrow⟩ := ha4 i _ (by simp [hc]; rfl)
    obtain ⟨id2, r2, bl2, rfl, hbl2, hbe2, hrow2⟩ := hc4 i _ (by simp [hc2]; rfl)
    have hbl' := fun G => blkAt_app hbl G
    have hbl2' := fun G => blkAt_app hbl2 G
    have g4 : IntKind.i64.wrap ((i : Int) + 1) = (i : Int) + 1 := wrap64 (by omega) (by omega)
    simp [t2, t3, t5, Box.enc, indexAddrV, elemIs, hbl', hbe, hbl2', hbe2, hc, hc2, hrow, hrow2, Out.enc]
    refine selS_intro (fun hd => ?_) (fun hd => ?_)
    · simp
      refine hr' _ _ ?_
      simp
      exact bad (fun h => by subst h; simp at hd) _ _ ⟨_, rfl⟩ (by simp)
    · have hxy : x.said[i] = y.said[i] := by
        refine Out.enc_inj ?_
        simpa [Out.enc] using hd
      simp [t2, t3, t5, g4]
      exact hn' (j - 1) _ _ (by omega) ⟨i + 1, by omega, by simp [t2], by simp [t3], by simp, by simp [Box.enc], by rw [List.take_add_one, List.take_add_one, heq]; simp [hc, hc2, hxy]⟩
  simp at hc
  simp [t2, t3, t5]
  refine he' _ _ _ ?_
  simp
  have esaid : x.said = y.said := by
    rw [List.take_of_length_le (by omega), List.take_of_length_le (by omega)] at heq
    exact heq
  have s2 := t2
  have s3 := t3
  clear hn' he' hr' t5 heq
  refine hQ _ _ _ (by simp) ?_
  have hxy : x = y := by
    obtain ⟨x1, x2, x3, x4, x5, x6, x7, x8⟩ := x
    obtain ⟨y1, y2, y3, y4, y5, y6, y7, y8⟩ := y
    obtain ⟨u1, u2, u3⟩ := x3
    obtain ⟨v1, v2, v3⟩ := y3
    simp_all
  simp [Tryz.f29, hxy]

theorem sendD_ne1 (x : Box) (w : Wire) : (sendD x w).2 ≠ 1 := by unfold sendD; split <;> simp
theorem pairD_ne1 (x : Box) (s p : Int) : (pairD x s p).2 ≠ 1 := by unfold pairD; split <;> simp
theorem shipD_ne1 (x : Box) (s : Int) : (shipD x s).2 ≠ 1 := by unfold shipD; split <;> simp [sendD_ne1]
theorem takeD_ne1 (x : Box) (s : Int) : (takeD x s).2 ≠ 1 := by unfold takeD; simp only; split <;> (try split) <;> simp
theorem inD_ne1 (x : Box) (i : In) : (inD x i).2 ≠ 1 := by unfold inD; split <;> (try split) <;> simp
theorem sayD_ne1 (x : Box) : (sayD x).2 ≠ 1 := by unfold sayD; split <;> simp
theorem onWireD_ne1 (x : Box) (d : Deed) : (onWireD x d).2 ≠ 1 := by unfold onWireD; split <;> (try split) <;> (try split) <;> simp [sendD_ne1]
theorem onMinderD_ne1 (x : Box) (d : Deed) : (onMinderD x d).2 ≠ 1 := by
  unfold onMinderD
  simp only
  repeat' split
  all_goals simp [shipD_ne1, takeD_ne1, pairD_ne1]
theorem deedD_ne1 (x : Box) (d : Deed) : (deedD x d).2 ≠ 1 := by
  unfold deedD
  repeat' split
  all_goals simp [inD_ne1, sayD_ne1, onWireD_ne1, onMinderD_ne1]
theorem doIt_one {x : Box} {d : Deed} (h : (doIt x d).2 = 1) : (doIt x d).1.id = 0 := by
  unfold doIt at h ⊢
  split at h
  · unfold doR at h
    split at h
    · split at h <;> simp at h
    · exact absurd h (deedD_ne1 x d)
  · rename_i hh; rw [if_neg hh]
theorem doIt_no {x : Box} {d : Deed} (h0 : (doIt x d).2 ≠ 0) (h1 : (doIt x d).2 ≠ 1) : (doIt x d).1 = x := by
  unfold doIt at h0 h1 ⊢
  split at h0
  · rename_i hh
    rw [if_pos hh] at h1 ⊢
    unfold doR at h0 ⊢
    split at h0
    · rename_i h2
      rw [if_pos h2]
      split at h0
      · simp at h0
      · rename_i h3; rw [if_neg h3]
    · rename_i h2; rw [if_neg h2]
  · rename_i hh; rw [if_neg hh] at h1; simp at h1
theorem deedsLaw {H : Heap} {a : Option (Nat × Nat)} {bs : List Int} (hs : Sl H 5 a (bs.map encU)) : Runs env 6 [.w (.lf (.sl a bs.length))] H fun v _ => v = .bool true := by
  have eb := fun (H : Heap) => bigL (H := H) (a := a) (n := bs.length)
  refine Runs.walk ok6 Tryz.func6 rfl (by simp [Tryz.f6]) fun Q hQ => ?_
  simp only [Tryz.f6, strip, stripL, stripI, stripG, chkT, tagsB, tagsL, tagD, addT, tagA, lookN, tagOp, elmT, ty22, ty26, ty27, ty28, ty29, ty30, ty41, ty53, ty56, Nat.reduceEqDiff, if_false, reduceIte, Option.getD_some, Option.getD_none, dstAt, dstOk, Nat.reduceLT, decide_true, if_true]
  simp [eb]
  refine selS_intro (fun hb => ?_) (fun hb => ?_)
  · simp
    refine hQ _ _ _ (by simp) ?_
    simp [Tryz.f6]
  simp at hb
  have hn : bs.length ≤ 1048576 := by omega
  simp
  refine stpL_runs (drawDo hs hn) ?_
  rintro _ X ⟨⟨l, x, fp, d, rfl, ox, hxs⟩, kX⟩
  have hL := ox.len
  have hT : l.take l.length = l := List.take_length
  rw [hL] at hT
  simp [hL, hT]
  obtain ⟨X1, hX1⟩ : ∃ X1 : Heap, X1 = X ++ [some ⟨32, .wr, [l]⟩, some ⟨66, .wr, [d.enc]⟩] := ⟨_, rfl⟩
  have b3 : blkAt X1 X.length = some ⟨32, .wr, [l]⟩ := by rw [hX1]; simp
  have b4 : blkAt X1 (X.length + 1) = some ⟨66, .wr, [d.enc]⟩ := by rw [hX1]; simp
  have n3 := blkAt_len b3
  have n4 := blkAt_len b4
  have o1 : RdBox X1 l x := by rw [hX1]; exact ox.rd.app _
  simp only [Deed.enc] at hX1 b4
  simp [← hX1, Deed.enc]
  refine stpL_runs (implDo_is o1 (by omega) d) ?_
  have hz := fun (h : (doIt x d).2 = 0) => doIt_ok h
  have h1 := @doIt_one x d
  have h2 := @doIt_no x d
  obtain ⟨A, hA⟩ : ∃ A, A = (doIt x d).1 := ⟨_, rfl⟩
  obtain ⟨cd, hcd⟩ : ∃ cd, cd = (doIt x d).2 := ⟨_, rfl⟩
  have hAs : A.sz ≤ 1048576 := by
    by_cases c0 : (doIt x d).2 = 0
    · have := (Box.smallOf (hz c0)).1.sz; rw [hA]; omega
    · by_cases c1 : (doIt x d).2 = 1
      · have : (doIt x d).1 = ⟨0, 0, ⟨0, 0, 0⟩, [], [], [], [], []⟩ := by
          unfold doIt at c1 ⊢
          split at c1
          · unfold doR at c1
            split at c1
            · split at c1 <;> simp at c1
            · exact absurd c1 (deedD_ne1 x d)
          · rename_i hh; rw [if_neg hh]
        rw [hA, this]
        simp [Box.sz, MinderS.sz]
      · rw [hA, h2 c0 c1]; omega
  rw [← hA, ← hcd] at hz h1 h2 ⊢
  rintro _ _ ⟨l1, f1, rfl, oa, ⟨⟨G1, rfl⟩, -⟩⟩
  have hL1 := oa.len
  have hT1 : l1.take l1.length = l1 := List.take_length
  rw [hL1] at hT1
  simp [hL1, hT1]
  obtain ⟨X2, hX2⟩ : ∃ X2 : Heap, X2 = X1 ++ (G1 ++ [some ⟨32, .wr, [l1]⟩]) := ⟨_, rfl⟩
  have b5 : blkAt X2 (X1.length + G1.length) = some ⟨32, .wr, [l1]⟩ := by rw [hX2]; simp
  have k2 : Keep [] X1 X2 := by rw [hX2]; exact Keep.app _ _ _
  have oa2 := (oa.app [some ⟨32, .wr, [l1]⟩]).rd
  rw [List.append_assoc, ← hX2] at oa2
  have b32 := k2.blk b3 (by simp)
  have b42 := k2.blk b4 (by simp)
  have n32 := blkAt_len b32
  have n42 := blkAt_len b42
  have o2 := o1.base k2
  obtain ⟨K5, hK5⟩ : ∃ K5, K5 = X1.length + G1.length := ⟨_, rfl⟩
  rw [← hK5] at b5
  rw [← hX2, ← hK5]
  clear hX2 hX1
  simp [b32, b42, n32, n42, hL, hT]
  refine stpL_runs (specDo_is o2 (by omega) d) ?_
  rw [← hA, ← hcd]
  rintro _ _ ⟨l2, f2, rfl, ob, ⟨⟨G2, rfl⟩, -⟩⟩
  have hL2 := ob.len
  have hT2 : l2.take l2.length = l2 := List.take_length
  rw [hL2] at hT2
  simp [hL2, hT2]
  obtain ⟨X3, hX3⟩ : ∃ X3 : Heap, X3 = X2 ++ (G2 ++ [some ⟨32, .wr, [l2]⟩]) := ⟨_, rfl⟩
  have b7 : blkAt X3 (X2.length + G2.length) = some ⟨32, .wr, [l2]⟩ := by rw [hX3]; simp
  have k3 : Keep [] X2 X3 := by rw [hX3]; exact Keep.app _ _ _
  have ob3 := (ob.app [some ⟨32, .wr, [l2]⟩]).rd
  rw [List.append_assoc, ← hX3] at ob3
  obtain ⟨K7, hK7⟩ : ∃ K7, K7 = X2.length + G2.length := ⟨_, rfl⟩
  rw [← hK7] at b7
  rw [← hX3, ← hK7]
  clear hX3
  have c3 := k3.blk b32 (by simp)
  have c5 := k3.blk b5 (by simp)
  have d3 := blkAt_len c3
  have d5 := blkAt_len c5
  have d7 := blkAt_len b7
  have oA := oa2.base k3
  have oX := o2.base k3
  have e1 := sameBoxL oA ob3 hAs
  have e2 := sameBoxL oA oX hAs
  have e3 := implBoxOk_is oA (by omega)
  simp [c5, d5, b7, d7, hL1, hT1, hL2, hT2, e1]
  by_cases q1 : cd = 1
  · have hid := h1 q1
    obtain ⟨r0, r1, r2, r3, r4, hl1, -⟩ := oA
    rw [hl1] at c5
    simp only [Box.enc] at c5
    simp [q1, c5, d5, hid]
    refine hQ _ _ _ (by simp) ?_
    simp [Tryz.f6]
  by_cases q0 : cd = 0
  · have hok := hz q0
    simp [q0, c5, d5, hL1, hT1, e3, hok]
    refine hQ _ _ _ (by simp) ?_
    simp [Tryz.f6]
  · have he := h2 q0 q1
    simp [q0, q1, c5, d5, c3, d3, hL1, hT1, hL, hT, e2, he]
    refine hQ _ _ _ (by simp) ?_
    simp [Tryz.f6]
end W
end Go.Proofs.YtfhaanknijlamaaGreat
