/- The functions that this law reaches: what each computes. Conditions: those that each theorem names. -/
import Derived.Test.YtfhaanknijlamaaWalkRegs1
set_option maxRecDepth 100000
set_option maxHeartbeats 4000000
set_option linter.unusedSimpArgs false
set_option linter.unusedVariables false
set_option linter.unnecessarySimpa false
namespace Go.Proofs.Ytfhaanknijlamaa
open Go Go.Ab Go.ChangeShapes Go.WideShapes Go.ChangeAt Go.RowKit
namespace W
theorem l15Say {H : Heap} {l : List Lf} {x : Box} {fp : List Nat} (hI : IsBox H l x fp) (hok : Small x) (hxok : x.ok = true) :
    Runs env 191 [.agg l] H fun v H' => ∃ l', v = .tup [.agg l', .lf (.i .i64 (sayD x).2)] ∧ BoxVal H H' fp l' (sayD x).1 := by
  have hsz := hok.sz
  have h2 := hok.two
  have hlt := hI.lt
  have hid : H.length ∉ fp := fun h => by have := hlt _ h; omega
  obtain ⟨q0, q1, q2, q3, q4, rfl⟩ : ∃ q0 q1 q2 q3 q4, l = x.enc q0 q1 q2 q3 q4 := by
    obtain ⟨q0, q1, q2, q3, q4, _, _, _, _, _, rfl, -⟩ := hI
    exact ⟨q0, q1, q2, q3, q4, rfl⟩
  obtain ⟨R, hR⟩ : ∃ R, R = sayD x := ⟨_, rfl⟩
  rw [← hR]
  refine Runs.walk ok191 Try.func191 rfl (by simp [Try.f191]) fun Q hQ => ?_
  simp only [Try.f191, strip, stripL, stripI, stripG, chkT, tagsB, tagsL, tagD, addT, tagA, lookN, tagOp, elmT, ty22, ty24, ty33, ty40, ty44, ty54, ty55, ty63, ty171, ty175, ty176, ty183, Nat.reduceEqDiff, if_false, reduceIte, Option.getD_some, Option.getD_none, dstAt, dstOk, Nat.reduceLT, decide_true, if_true]
  have fin : ∀ (HX : Heap) (tm : Ab.T) (c : Int) (y : Box) (l' : List Lf), R = (y, c) → BoxVal H HX fp l' y → tm 3 = .int c → tm 2 = .ptr (H.length + 1) 0 0 → blkAt HX (H.length + 1) = some ⟨178, .wr, [l']⟩ → Q .ret tm HX := by
    intro HX tm c y l' h1 hv t5 t4 hb4
    have hL' := hv.len
    have hT' : l'.take l'.length = l' := List.take_length
    rw [hL'] at hT'
    refine hQ _ _ _ (by simp) ?_
    have hres : resT env.τ tm HX (Try.f191.results.toList) = some [W.agg l', W.lf (.i .i64 c)] := by simp [Try.f191, t4, t5, hb4, hL', hT']
    rw [hres, optK_some, h1]
    exact ⟨_, rfl, hv.leave (by simp)⟩
  simp [Box.enc, Deed.enc, Wire.enc]
  obtain ⟨X, hX⟩ : ∃ X : Heap, X = H ++ [some ⟨178, .wr, [[.i .i64 x.id, .i .i64 x.ports, .i .i64 x.reg.epoch, .i .i64 x.reg.owner, .i .i64 x.reg.pair, q0, q1, q2, q3, q4]]⟩, some ⟨178, .wr, [[.i .i64 0, .i .i64 0, .i .i64 0, .i .i64 0, .i .i64 0, .sl none 0, .sl none 0, .sl none 0, .sl none 0, .sl none 0]]⟩] := ⟨_, rfl⟩
  have b0 : blkAt X H.length = some ⟨178, .wr, [[.i .i64 x.id, .i .i64 x.ports, .i .i64 x.reg.epoch, .i .i64 x.reg.owner, .i .i64 x.reg.pair, q0, q1, q2, q3, q4]]⟩ := by rw [hX]; simp
  have d0 := blkAt_len b0
  have bz : blkAt X (H.length + 1) = some ⟨178, .wr, [[.i .i64 0, .i .i64 0, .i .i64 0, .i .i64 0, .i .i64 0, .sl none 0, .sl none 0, .sl none 0, .sl none 0, .sl none 0]]⟩ := by rw [hX]; simp
  have dz := blkAt_len bz
  rw [← hX]
  have kX : Keep [] H X := by rw [hX]; exact Keep.app _ _ _
  have hI1 : IsBox X (x.enc q0 q1 q2 q3 q4) x fp := hI.keep kX (by simp)
  have val : ∀ (HX : Heap) (y : Box), BoxTo X HX H.length fp y → ∃ l', blkAt HX H.length = some ⟨178, .wr, [l']⟩ ∧ l'.length = 10 ∧ l'.take 10 = l' ∧ BoxVal H (HX.set (H.length + 1) (some ⟨178, .wr, [l']⟩)) fp l' y ∧ Keep (H.length :: fp) X HX := by
    intro HX y h
    rw [hX] at h ⊢
    exact h.val hlt (by omega) (by simp)
  have off : ∀ k : Nat, 0 < k → H.length + k ∉ H.length :: fp := fun k hk h => by
    rcases List.mem_cons.1 h with h | h
    · omega
    · have := hlt _ h; omega
  have done : ∀ (HX : Heap) (y : Box) (c : Int) (_ : R = (y, c)) (_ : BoxTo X HX H.length fp y), ∃ l', blkAt HX H.length = some ⟨178, .wr, [l']⟩ ∧ l'.length = 10 ∧ l'.take 10 = l' ∧ H.length < HX.length ∧ H.length + 1 < HX.length ∧ blkAt HX (H.length + 1) = some ⟨178, .wr, [[.i .i64 0, .i .i64 0, .i .i64 0, .i .i64 0, .i .i64 0, .sl none 0, .sl none 0, .sl none 0, .sl none 0, .sl none 0]]⟩ ∧ ∀ tm : Ab.T, tm 3 = .int c → tm 2 = .ptr (H.length + 1) 0 0 → Q .ret tm (HX.set (H.length + 1) (some ⟨178, .wr, [l']⟩)) := by
    intro HX y c h1 h
    obtain ⟨l', v1, v2, v3, v4, v5⟩ := val HX y h
    have hz := v5.blk bz (off _ (by omega))
    have hzl := blkAt_len hz
    exact ⟨l', v1, v2, v3, blkAt_len v1, hzl, hz, fun tm t5 t4 => fin _ tm c y l' h1 v4 t5 t4 (blkAt_set hzl)⟩
  have doneL : ∀ (HX : Heap) (y : Box) (c : Int) (L : List Lf) (_ : R = (y, c)) (_ : blkAt HX H.length = some ⟨178, .wr, [L]⟩) (_ : BoxTo X HX H.length fp y), H.length < HX.length ∧ H.length + 1 < HX.length ∧ blkAt HX (H.length + 1) = some ⟨178, .wr, [[.i .i64 0, .i .i64 0, .i .i64 0, .i .i64 0, .i .i64 0, .sl none 0, .sl none 0, .sl none 0, .sl none 0, .sl none 0]]⟩ ∧ ∀ tm : Ab.T, tm 3 = .int c → tm 2 = .ptr (H.length + 1) 0 0 → Q .ret tm (HX.set (H.length + 1) (some ⟨178, .wr, [L]⟩)) := by
    intro HX y c L h1 hb h
    obtain ⟨l', w1, w2, w3, w4, w5, w6, w7⟩ := done HX y c h1 h
    rw [hb] at w1
    injection w1 with w1
    simp only [Blk.mk.injEq, List.cons.injEq, and_true, true_and] at w1
    subst w1
    exact ⟨w4, w5, w6, w7⟩
  have same : ∀ (G : Heap) (c : Int) (_ : R = (x, c)) (tm : Ab.T), tm 3 = .int c → tm 2 = .ptr (H.length + 1) 0 0 → Q .ret tm ((X ++ G).set (H.length + 1) (some ⟨178, .wr, [[.i .i64 x.id, .i .i64 x.ports, .i .i64 x.reg.epoch, .i .i64 x.reg.owner, .i .i64 x.reg.pair, q0, q1, q2, q3, q4]]⟩)) := by
    intro G c h1 tm t5 t4
    obtain ⟨l', w1, -, -, -, -, -, w7⟩ := done (X ++ G) x c h1 (BoxTo.app b0 hI1 hid G)
    rw [blkAt_app b0] at w1
    injection w1 with w1
    simp only [Blk.mk.injEq, List.cons.injEq, and_true, true_and] at w1
    subst w1
    exact w7 tm t5 t4
  have same0 : ∀ (c : Int) (_ : R = (x, c)) (tm : Ab.T), tm 3 = .int c → tm 2 = .ptr (H.length + 1) 0 0 → Q .ret tm (X.set (H.length + 1) (some ⟨178, .wr, [[.i .i64 x.id, .i .i64 x.ports, .i .i64 x.reg.epoch, .i .i64 x.reg.owner, .i .i64 x.reg.pair, q0, q1, q2, q3, q4]]⟩)) := by
    intro c h1 tm t5 t4
    have := same [] c h1 tm t5 t4
    rwa [List.append_nil] at this
  have hI2 := hI1
  obtain ⟨p0, p1, p2, p3, p4, f0, f1, f2, f3, f4, hle, i0, ⟨a1, hp1, o1⟩, i2, ⟨a3, hp3, o3⟩, i4, rfl, hnd⟩ := hI2
  simp only [Box.enc, List.cons.injEq, and_true, true_and] at hle
  obtain ⟨rfl, rfl, rfl, rfl, rfl⟩ := hle
  subst hp1
  subst hp3
  have i3 : IsInS X (.sl a3 x.line.length) x.line f3 := ⟨a3, rfl, o3⟩
  have e1 := l15Who (hI1.rd) h2 (by omega)
  simp only [Box.enc] at e1
  simp [e1]
  by_cases hneg : whoM x < 0
  · simp [hneg, b0, d0, bz, dz]
    exact same0 3 (by rw [hR, sayD, if_pos (.inl hneg)]) _ (by simp) (by simp)
  obtain ⟨s, hs2, hw⟩ : ∃ s : Nat, s < 2 ∧ whoM x = (s : Int) := by
    rcases whoM_cases x with ⟨h, -⟩ | ⟨h, -⟩ | ⟨h, -⟩
    · exact ⟨0, by omega, h⟩
    · exact ⟨1, by omega, h⟩
    · omega
  have hs : s < x.two.length := by omega
  rw [hw] at hneg ⊢
  obtain ⟨bid, blo, r1, r2, r3, r4, row, fs, hl, hbne, hbl, hbb, hbe, hbm, hrow, hrd, hbfs, hidfs, hput⟩ := boxTwoOwn b0 hI1 hid hs
  simp only [Box.enc, List.cons.injEq, and_true, true_and] at hl
  obtain ⟨rfl, rfl, rfl, rfl, rfl⟩ := hl
  have hbH : bid < H.length := by
    have h1 := hI.rd
    obtain ⟨_, _, _, _, _, e1, ⟨a0, rws, e2, hss, hll, _⟩, -⟩ := h1
    simp only [Box.enc, List.cons.injEq, and_true, true_and] at e1
    obtain ⟨e1, -⟩ := e1
    rw [e2] at e1
    injection e1 with e1
    rw [← e1] at hss
    exact hss.len (by rintro rfl; simp at hll; omega)
  have b0s := b0
  rw [h2] at b0 same same0
  obtain ⟨m, hm⟩ : ∃ m, m = x.two[s] := ⟨_, rfl⟩
  rw [← hm] at hrd
  have hmx : m ∈ x.two := by rw [hm]; exact List.getElem_mem hs
  have hmlog := hok.log m hmx
  have hmsz : m.sz ≤ 1048576 := by unfold Minder.sz; omega
  have hmA : mAt x (s : Int) = m := by simp [mAt, List.getD, List.getElem?_eq_getElem hs, hm]
  have hrdR := hrd.rd
  obtain ⟨a, rfl, oa⟩ := hrd
  have hrow' := hrow
  simp only [Minder.enc] at hrow
  have hs0 : (0 : Int) ≤ s := by omega
  have hsl2 : (s : Int) < 2 := by omega
  have hrl : s < blo.rows.length := (List.getElem?_eq_some_iff.1 hrow).1
  have hse : ∀ (Y : Heap) (y : Option Blk) (k : Nat), blkAt (List.set Y bid y) (H.length + k) = blkAt Y (H.length + k) := fun Y y k => blkAt_set_ne (by omega)
  have hse0 : ∀ (Y : Heap) (y : Option Blk), blkAt (List.set Y bid y) H.length = blkAt Y H.length := fun Y y => blkAt_set_ne (by omega)
  have hmi : mindsAt x (s : Int) = minds x.reg s m := by
    rw [mindsAt_s h2 hs2]
    have := hmA
    simp only [mAt, Int.toNat_natCast] at this
    rw [this]
  have hrok : x.reg.ok = true := by simp only [Box.ok, Bool.and_eq_true] at hxok; exact hxok.1.1.1.1.1.1.1.2
  have hp64 : I64 x.reg.pair := by simp [Reg.ok] at hrok; unfold I64; omega
  have mok := (Box.right hxok).ok m hmx
  have e2 := specReady_is hrdR hmsz x.reg.pair hp64
  simp only [Minder.enc] at e2
  simp [hneg, b0, d0, indexAddrV, elemIs, hbb, hbl, hbe, hs2, hs0, hsl2, hrow, h2, e2]
  cases hrdy : ready m x.reg.pair
  · simp [b0, d0, bz, dz]
    exact same0 3 (by rw [hR, sayD, hw, if_pos (.inr (by rw [hmA]; exact hrdy))]) _ (by simp) (by simp)
  obtain ⟨k, hk⟩ : ∃ k : Nat, m.said = (k : Int) := ⟨m.said.toNat, by simp [Minder.ok] at mok; omega⟩
  have hkl : k < m.log.length := by simp [ready] at hrdy; omega
  have hm64 : I64 m.said := by unfold I64; rw [hk]; unfold Minder.sz at hmsz; omega
  have hbr : (bridgeNew x.id x.ports).2 = true := by simp only [Box.ok, Bool.and_eq_true] at hxok; exact hxok.1.1.1.1.1.1.1.1
  have hbn := bridgeNew_yes hbr
  simp [b0, d0, indexAddrV, elemIs, hbb, hbl, hbe, hs2, hs0, hsl2, hrow, h2]
  refine stpL_runs_f (specSaying_is (log := m.log) ⟨a, rfl, oa.sl⟩ hmsz x.id (by unfold I64; omega) x.ports (by unfold I64; omega) m.said hm64) (by rintro _ _ ⟨_, _, _, _, hf⟩; exact hf.1) ?_
  rintro _ _ ⟨_, fq, rfl, oq, ⟨⟨G2, rfl⟩, hfq⟩⟩
  have hsl8 := saying_len x.id x.ports m.log m.said
  obtain ⟨L, hL⟩ : ∃ L, L = saying x.id x.ports m.log m.said := ⟨_, rfl⟩
  rw [← hL] at oq hsl8
  simp
  have hacc := specAccept_is (hI1.app G2).rd (by omega) oq.rd (by omega) (s : Int) (by unfold I64; omega)
  simp only [Box.enc, h2] at hacc
  refine stpL_runs_f hacc (by rintro _ _ ⟨_, _, _, _, hf⟩; exact hf.1) ?_
  rintro _ _ ⟨l3, f3', rfl, o4, ⟨⟨G3, rfl⟩, hf4⟩⟩
  have hax : accept x (s : Int) L = acceptB x L := by
    have := whoM_cases x
    rw [accept, if_pos]
    rw [hmi]
    have hc : minds x.reg s m = true := by
      rcases whoM_cases x with ⟨h, hh⟩ | ⟨h, hh⟩ | ⟨h, -⟩
      · obtain rfl : s = 0 := by omega
        have := mindsAt_s h2 (s := 0) (by omega)
        rw [hmi] at this
        rw [this]; exact hh
      · obtain rfl : s = 1 := by omega
        have := mindsAt_s h2 (s := 1) (by omega)
        rw [hmi] at this
        rw [this]; exact hh
      · omega
    exact hc
  rw [hax] at o4
  have hL3 := o4.len
  have hT3 : l3.take l3.length = l3 := List.take_length
  rw [hL3] at hT3
  have valF : ∀ (Y3 : Heap) (y : Box) (l6 : List Lf) (g7 : List Nat), IsBox Y3 l6 y g7 → (∀ i ∈ g7, X.length ≤ i) → Keep [] X Y3 → R = (y, 0) → ∀ tm : Ab.T, tm 3 = .int 0 → tm 2 = .ptr (H.length + 1) 0 0 → Q .ret tm (Y3.set (H.length + 1) (some ⟨178, .wr, [l6]⟩)) := by
    intro Y3 y l6 g7 ho hg hk hr tm t5 t4
    have hlX := hk.1
    refine fin _ tm 0 y l6 hr ⟨g7, ho.keep (Keep.set _ _) (fun i hi hj => by have := hg i hi; simp at hj; omega), ?_, fun i hi => .inr (by have := hg i hi; omega)⟩ t5 t4 (blkAt_set (by omega))
    exact ((kX.next hk (by simp)).next (Keep.set _ _) (by simp)).more (by simp)
  have o4' := o4.app [some ⟨178, .wr, [l3]⟩]
  simp only [List.append_assoc] at o4'
  have hlt4 := o4.lt
  simp [hL3, hT3]
  obtain ⟨K6, hK6⟩ : ∃ K6, K6 = X.length + (G2.length + G3.length) := ⟨_, rfl⟩
  obtain ⟨Y, hY⟩ : ∃ Y : Heap, Y = X ++ (G2 ++ (G3 ++ [some ⟨178, .wr, [l3]⟩])) := ⟨_, rfl⟩
  have y6 : blkAt Y K6 = some ⟨178, .wr, [l3]⟩ := by rw [hY, hK6]; simp
  have kXY : Keep [] X Y := by rw [hY]; exact Keep.app _ _ _
  have o6 : IsBox Y l3 (acceptB x L) f3' := by rw [hY]; exact o4'
  have hgX : ∀ i ∈ f3', X.length ≤ i := fun i hi => by have := hf4 i hi; simp at this; omega
  have hK6f : K6 ∉ f3' := fun h => by have := hlt4 _ h; simp at this; omega
  have hK6X : X.length ≤ K6 := by omega
  rw [← hY, ← hK6]
  have hsD0 : sayD x = (if (x.line.length : Int) < m.said + 1 then setLine (setTwo (acceptB x L) s ⟨m.up, m.life, m.epoch, m.log, k + 1, m.acked, m.ackLife⟩) (x.line ++ [m.log.getD m.said.toNat default]) else setTwo (acceptB x L) s ⟨m.up, m.life, m.epoch, m.log, k + 1, m.acked, m.ackLife⟩, 0) := by
    rw [sayD, if_neg (by rw [hw, hmA, hrdy]; simp)]
    have hL' : saying x.id x.ports m.log k = L := by rw [hL, hk]
    simp only [hw, hmA, hk, hL', Int.toNat_natCast]
  rw [← hR] at hsD0
  have b0Y := kXY.blk b0 (by simp)
  have hbbY := kXY.blk hbb (by simp)
  have dbY := blkAt_len hbbY
  have d0Y := blkAt_len b0Y
  clear hY hK6 o4 o4' hlt4
  have hl3 : ∃ (a8 : Option (Nat × Nat)), List.take 1 (List.drop 8 l3) = [.sl a8 x.line.length] := by
    obtain ⟨_, _, _, _, _, _, _, _, _, _, rfl, _, _, _, ⟨a8, rfl, _⟩, _⟩ := o6
    exact ⟨a8, rfl⟩
  obtain ⟨a8, hl8⟩ := hl3
  simp [hl8, builtinV, pureB, lenV, hk]
  refine selS_intro (fun hc => ?_) (fun hc => ?_)
  · simp at hc
    have hgd : m.log.getD m.said.toNat default = m.log[k] := by rw [hk, Int.toNat_natCast]; simp [List.getD, List.getElem?_eq_getElem hkl]
    rw [if_pos (by rw [hk]; omega), hgd] at hsD0
    obtain ⟨n0, n1, n2, n3, n4, e0, e1', e2', e3, e4, rfl, v0, v1, v2, ⟨a9, rfl, v3⟩, v4, rfl, hndv⟩ := o6
    simp only [Box.enc] at y6 hl8
    have hln9 : (acceptB x L).line = x.line := rfl
    rw [hln9] at v3
    have hbe9 : (acceptB x L).two.length = 2 := h2
    have dK9 := blkAt_len y6
    obtain ⟨id3, r3, bl3, rfl, hb3, hbe4, hrw3⟩ := (oa.keep kXY (by simp)).sl k _ (by simp [hkl]; rfl)
    have hid3 := blkAt_len hb3
    have hgl : (k : Int) < m.log.length := by omega
    simp [y6, dK9, hln9, b0Y, d0Y, hbbY, dbY, hbe, hs2, hs0, hsl2, hrow, h2, builtinV, pureB, lenV, indexAddrV, elemIs, hb3, hbe4, hid3, hrw3, hkl, hgl, In.enc]
    have hline60 : x.line.length ≤ 61 := hok.line
    refine stpL_append (e := 30) (rows := x.line.map In.enc) (ys := [m.log[k].enc]) (v3.app _) (Sl.of (by simp [In.enc])) rfl rfl rfl (by simp) (by simp; omega) (by simp) rfl fun a'' H'' fp'' ho'' hk'' hf'' => ?_
    have k2 : Keep e3 Y H'' := hk''.base
    have hi3 : K6 ∉ e3 := fun h => hK6f (by simp [h])
    have b2 := k2.blk y6 hi3
    have d2 := blkAt_len b2
    have hf9 : ∀ i ∈ fp'', i ∈ e3 ∨ Y.length ≤ i := fun i hi => (hf'' i hi).imp (fun h => h) (fun h => by rw [List.length_append] at h; omega)
    have hq : IsInS H'' (.sl a'' (x.line.length + 1)) (x.line ++ [m.log[k]]) fp'' := ⟨a'', by simp, by simpa using ho''⟩
    have hbx := boxLine (x := acceptB x L) dK9 hK6f v0 v1 v2 v4 hndv k2 hq hf9
    simp [b2, d2]
    simp only [Box.enc] at hbx
    obtain ⟨Y1, hY1⟩ : ∃ Y1 : Heap, Y1 = H''.set K6 (some ⟨178, .wr, [[.i .i64 (acceptB x L).id, .i .i64 (acceptB x L).ports, .i .i64 (acceptB x L).reg.epoch, .i .i64 (acceptB x L).reg.owner, .i .i64 (acceptB x L).reg.pair, n0, n1, n2, .sl a'' (x.line.length + 1), n4]]⟩) := ⟨_, rfl⟩
    rw [← hY1] at hbx ⊢
    clear hY1
    obtain ⟨l3, g3, y7, o7, hK7f, kYY, hg3⟩ := hbx
    have kXY1 := kXY.next kYY (fun i hi => by
      rcases List.mem_cons.1 hi with rfl | hi
      · exact hK6X
      · exact hgX i hi)
    have hgX1 : ∀ i ∈ g3, X.length ≤ i := fun i hi => by
      rcases hg3 i hi with h | h
      · exact hgX i h
      · have := kXY.1; omega
    clear y6 dK9 hi3 b2 v0 v1 v2 v3 v4 k2 hq hgX hK6f kXY hb3 hid3 b0Y hbbY dbY d0Y kYY hg3 hf9 hf'' hk'' ho'' hrw3 hndv d2
    have hsD : R = (setTwo (setLine (acceptB x L) (x.line ++ [m.log[k]])) s ⟨m.up, m.life, m.epoch, m.log, k + 1, m.acked, m.ackLife⟩, 0) := hsD0
    have dK := blkAt_len y7
    obtain ⟨bid6, blo7, u1, u2, u3, u4, row6, fs6, hl6, hbne6, hbl6, hbb6, hbe6, hbm6, hrow6, hrd6, hbfs6, hidfs6, hput6⟩ := boxTwoOwn y7 o7 hK7f (s := s) hs
    subst hl6
    have hm6 : (setLine (acceptB x L) (x.line ++ [m.log[k]])).two[s]'(by exact hs) = m := hm.symm
    rw [hm6] at hrd6
    obtain ⟨a6, rfl, oa6⟩ := hrd6
    have hbe3 : (setLine (acceptB x L) (x.line ++ [m.log[k]])).two.length = 2 := h2
    have y7' := y7
    simp only [Box.enc, hbe3] at y7'
    simp only [Minder.enc] at hrow6
    have hrl6 : s < blo7.rows.length := (List.getElem?_eq_some_iff.1 hrow6).1
    have hw1 : IntKind.i64.wrap ((k : Int) + 1) = (k : Int) + 1 := wrap64 (by omega) (by unfold Minder.sz at hmsz; omega)
    obtain ⟨g7, z1, z2, z3, z4, z5⟩ := hput6 Y1 [.b m.up, .i .i64 m.life, .i .i64 m.epoch, .sl a6 m.log.length, .i .i64 (k + 1), .i .i64 m.acked, .i .i64 m.ackLife] ⟨m.up, m.life, m.epoch, m.log, k + 1, m.acked, m.ackLife⟩ fs6 (Keep.refl _ _) ⟨a6, rfl, oa6⟩ (fun i hi => .inl hi)
    have z1' := z1
    simp only [Box.enc, hbe3] at z1' z2
    have dz1 := blkAt_len z1
    have kz := kXY1.next z4 (fun i hi => by
      rcases List.mem_cons.1 hi with rfl | hi
      · exact hK6X
      · exact hgX1 i hi)
    have bz7 := kz.blk bz (by simp)
    have dz7 := blkAt_len bz7
    simp [y7', dK, indexAddrV, elemIs, hbb6, hbl6, hbe6, hbm6, hs2, hs0, hsl2, hrow6, hw1]
    simp [z1', dz1, bz7, dz7]
    refine valF _ _ _ g7 z2 (fun i hi => by
      rcases z5 i hi with h | h
      · exact hgX1 i h
      · have := kXY1.1; omega) kz hsD _ ?_ ?_
    · simp
    · simp

  · simp at hc
    rw [if_neg (by rw [hk]; omega)] at hsD0
    have hsD := hsD0
    simp
    have dK := blkAt_len y6
    obtain ⟨bid6, blo6, u1, u2, u3, u4, row6, fs6, hl6, hbne6, hbl6, hbb6, hbe6, hbm6, hrow6, hrd6, hbfs6, hidfs6, hput6⟩ := boxTwoOwn y6 o6 hK6f (s := s) hs
    subst hl6
    have hm6 : (acceptB x L).two[s]'(by exact hs) = m := hm.symm
    rw [hm6] at hrd6
    obtain ⟨a6, rfl, oa6⟩ := hrd6
    have hbe3 : (acceptB x L).two.length = 2 := h2
    have y6' := y6
    simp only [Box.enc, hbe3] at y6'
    simp only [Minder.enc] at hrow6
    have hrl6 : s < blo6.rows.length := (List.getElem?_eq_some_iff.1 hrow6).1
    have hw1 : IntKind.i64.wrap ((k : Int) + 1) = (k : Int) + 1 := wrap64 (by omega) (by unfold Minder.sz at hmsz; omega)
    obtain ⟨g7, z1, z2, z3, z4, z5⟩ := hput6 Y [.b m.up, .i .i64 m.life, .i .i64 m.epoch, .sl a6 m.log.length, .i .i64 (k + 1), .i .i64 m.acked, .i .i64 m.ackLife] ⟨m.up, m.life, m.epoch, m.log, k + 1, m.acked, m.ackLife⟩ fs6 (Keep.refl _ _) ⟨a6, rfl, oa6⟩ (fun i hi => .inl hi)
    have z1' := z1
    simp only [Box.enc, hbe3] at z1' z2
    have dz1 := blkAt_len z1
    have kz := kXY.next z4 (fun i hi => by
      rcases List.mem_cons.1 hi with rfl | hi
      · exact hK6X
      · exact hgX i hi)
    have bz7 := kz.blk bz (by simp)
    have dz7 := blkAt_len bz7
    simp [y6', dK, indexAddrV, elemIs, hbb6, hbl6, hbe6, hbm6, hs2, hs0, hsl2, hrow6, hw1]
    simp [z1', dz1, bz7, dz7]
    refine valF _ _ _ g7 z2 (fun i hi => by
      rcases z5 i hi with h | h
      · exact hgX i h
      · have := kXY.1; omega) kz hsD _ ?_ ?_
    · simp
    · simp

theorem l15One {H : Heap} {l : List Lf} {x : Box} {fp : List Nat} (hI : IsBox H l x fp) (hok : Small x) (hxok : x.ok = true) (d : Deed) (hkd : 1 ≤ d.kind ∧ d.kind ≤ 12) :
    Runs env 186 [.agg l, .agg d.enc] H fun v H' => ∃ l', v = .tup [.agg l', .lf (.i .i64 (deedD x d).2)] ∧ BoxVal H H' fp l' (deedD x d).1 := by
  have hsz := hok.sz
  have h2 := hok.two
  have hlt := hI.lt
  have hid : H.length ∉ fp := fun h => by have := hlt _ h; omega
  obtain ⟨q0, q1, q2, q3, q4, rfl⟩ : ∃ q0 q1 q2 q3 q4, l = x.enc q0 q1 q2 q3 q4 := by
    obtain ⟨q0, q1, q2, q3, q4, _, _, _, _, _, rfl, -⟩ := hI
    exact ⟨q0, q1, q2, q3, q4, rfl⟩
  obtain ⟨R, hR⟩ : ∃ R, R = deedD x d := ⟨_, rfl⟩
  rw [← hR]
  refine Runs.walk ok186 Try.func186 rfl (by simp [Try.f186]) fun Q hQ => ?_
  simp only [Try.f186, strip, stripL, stripI, stripG, chkT, tagsB, tagsL, tagD, addT, tagA, lookN, tagOp, elmT, ty22, ty24, ty33, ty40, ty44, ty54, ty55, ty63, ty171, ty175, ty176, ty183, Nat.reduceEqDiff, if_false, reduceIte, Option.getD_some, Option.getD_none, dstAt, dstOk, Nat.reduceLT, decide_true, if_true]
  have fin : ∀ (HX : Heap) (tm : Ab.T) (c : Int) (y : Box) (l' : List Lf), R = (y, c) → BoxVal H HX fp l' y → tm 5 = .int c → tm 4 = .ptr (H.length + 2) 0 0 → blkAt HX (H.length + 2) = some ⟨178, .wr, [l']⟩ → Q .ret tm HX := by
    intro HX tm c y l' h1 hv t5 t4 hb4
    have hL' := hv.len
    have hT' : l'.take l'.length = l' := List.take_length
    rw [hL'] at hT'
    refine hQ _ _ _ (by simp) ?_
    have hres : resT env.τ tm HX (Try.f186.results.toList) = some [W.agg l', W.lf (.i .i64 c)] := by simp [Try.f186, t4, t5, hb4, hL', hT']
    rw [hres, optK_some, h1]
    exact ⟨_, rfl, hv.leave (by simp)⟩
  simp [Box.enc, Deed.enc, Wire.enc]
  obtain ⟨X, hX⟩ : ∃ X : Heap, X = H ++ [some ⟨178, .wr, [[.i .i64 x.id, .i .i64 x.ports, .i .i64 x.reg.epoch, .i .i64 x.reg.owner, .i .i64 x.reg.pair, q0, q1, q2, q3, q4]]⟩, some ⟨191, .wr, [[.i .i64 d.kind, .i .i64 d.a, .i .i64 d.inn.kind, .i .i64 d.inn.port, .i .i64 d.inn.vec.root, .i .i64 d.inn.vec.cost, .i .i64 d.inn.vec.bridge, .i .i64 d.inn.vec.port, .i .i64 d.inn.hops, .b d.inn.up]]⟩, some ⟨178, .wr, [[.i .i64 0, .i .i64 0, .i .i64 0, .i .i64 0, .i .i64 0, .sl none 0, .sl none 0, .sl none 0, .sl none 0, .sl none 0]]⟩] := ⟨_, rfl⟩
  have b0 : blkAt X H.length = some ⟨178, .wr, [[.i .i64 x.id, .i .i64 x.ports, .i .i64 x.reg.epoch, .i .i64 x.reg.owner, .i .i64 x.reg.pair, q0, q1, q2, q3, q4]]⟩ := by rw [hX]; simp
  have d0 := blkAt_len b0
  have bz : blkAt X (H.length + 2) = some ⟨178, .wr, [[.i .i64 0, .i .i64 0, .i .i64 0, .i .i64 0, .i .i64 0, .sl none 0, .sl none 0, .sl none 0, .sl none 0, .sl none 0]]⟩ := by rw [hX]; simp
  have dz := blkAt_len bz
  have bD : blkAt X (H.length + 1) = some ⟨191, .wr, [[.i .i64 d.kind, .i .i64 d.a, .i .i64 d.inn.kind, .i .i64 d.inn.port, .i .i64 d.inn.vec.root, .i .i64 d.inn.vec.cost, .i .i64 d.inn.vec.bridge, .i .i64 d.inn.vec.port, .i .i64 d.inn.hops, .b d.inn.up]]⟩ := by rw [hX]; simp
  have dD := blkAt_len bD
  rw [← hX]
  have kX : Keep [] H X := by rw [hX]; exact Keep.app _ _ _
  have hI1 : IsBox X (x.enc q0 q1 q2 q3 q4) x fp := hI.keep kX (by simp)
  have val : ∀ (HX : Heap) (y : Box), BoxTo X HX H.length fp y → ∃ l', blkAt HX H.length = some ⟨178, .wr, [l']⟩ ∧ l'.length = 10 ∧ l'.take 10 = l' ∧ BoxVal H (HX.set (H.length + 2) (some ⟨178, .wr, [l']⟩)) fp l' y ∧ Keep (H.length :: fp) X HX := by
    intro HX y h
    rw [hX] at h ⊢
    exact h.val hlt (by omega) (by simp)
  have off : ∀ k : Nat, 0 < k → H.length + k ∉ H.length :: fp := fun k hk h => by
    rcases List.mem_cons.1 h with h | h
    · omega
    · have := hlt _ h; omega
  have done : ∀ (HX : Heap) (y : Box) (c : Int) (_ : R = (y, c)) (_ : BoxTo X HX H.length fp y), ∃ l', blkAt HX H.length = some ⟨178, .wr, [l']⟩ ∧ l'.length = 10 ∧ l'.take 10 = l' ∧ H.length < HX.length ∧ H.length + 2 < HX.length ∧ blkAt HX (H.length + 2) = some ⟨178, .wr, [[.i .i64 0, .i .i64 0, .i .i64 0, .i .i64 0, .i .i64 0, .sl none 0, .sl none 0, .sl none 0, .sl none 0, .sl none 0]]⟩ ∧ ∀ tm : Ab.T, tm 5 = .int c → tm 4 = .ptr (H.length + 2) 0 0 → Q .ret tm (HX.set (H.length + 2) (some ⟨178, .wr, [l']⟩)) := by
    intro HX y c h1 h
    obtain ⟨l', v1, v2, v3, v4, v5⟩ := val HX y h
    have hz := v5.blk bz (off _ (by omega))
    have hzl := blkAt_len hz
    exact ⟨l', v1, v2, v3, blkAt_len v1, hzl, hz, fun tm t5 t4 => fin _ tm c y l' h1 v4 t5 t4 (blkAt_set hzl)⟩
  have doneL : ∀ (HX : Heap) (y : Box) (c : Int) (L : List Lf) (_ : R = (y, c)) (_ : blkAt HX H.length = some ⟨178, .wr, [L]⟩) (_ : BoxTo X HX H.length fp y), H.length < HX.length ∧ H.length + 2 < HX.length ∧ blkAt HX (H.length + 2) = some ⟨178, .wr, [[.i .i64 0, .i .i64 0, .i .i64 0, .i .i64 0, .i .i64 0, .sl none 0, .sl none 0, .sl none 0, .sl none 0, .sl none 0]]⟩ ∧ ∀ tm : Ab.T, tm 5 = .int c → tm 4 = .ptr (H.length + 2) 0 0 → Q .ret tm (HX.set (H.length + 2) (some ⟨178, .wr, [L]⟩)) := by
    intro HX y c L h1 hb h
    obtain ⟨l', w1, w2, w3, w4, w5, w6, w7⟩ := done HX y c h1 h
    rw [hb] at w1
    injection w1 with w1
    simp only [Blk.mk.injEq, List.cons.injEq, and_true, true_and] at w1
    subst w1
    exact ⟨w4, w5, w6, w7⟩
  have same : ∀ (G : Heap) (c : Int) (_ : R = (x, c)) (tm : Ab.T), tm 5 = .int c → tm 4 = .ptr (H.length + 2) 0 0 → Q .ret tm ((X ++ G).set (H.length + 2) (some ⟨178, .wr, [[.i .i64 x.id, .i .i64 x.ports, .i .i64 x.reg.epoch, .i .i64 x.reg.owner, .i .i64 x.reg.pair, q0, q1, q2, q3, q4]]⟩)) := by
    intro G c h1 tm t5 t4
    obtain ⟨l', w1, -, -, -, -, -, w7⟩ := done (X ++ G) x c h1 (BoxTo.app b0 hI1 hid G)
    rw [blkAt_app b0] at w1
    injection w1 with w1
    simp only [Blk.mk.injEq, List.cons.injEq, and_true, true_and] at w1
    subst w1
    exact w7 tm t5 t4
  have same0 : ∀ (c : Int) (_ : R = (x, c)) (tm : Ab.T), tm 5 = .int c → tm 4 = .ptr (H.length + 2) 0 0 → Q .ret tm (X.set (H.length + 2) (some ⟨178, .wr, [[.i .i64 x.id, .i .i64 x.ports, .i .i64 x.reg.epoch, .i .i64 x.reg.owner, .i .i64 x.reg.pair, q0, q1, q2, q3, q4]]⟩)) := by
    intro c h1 tm t5 t4
    have := same [] c h1 tm t5 t4
    rwa [List.append_nil] at this
  have sub : ∀ (HZ : Heap) (lz : List Lf) (y : Box), BoxVal X HZ fp lz y → lz.length = 10 ∧ lz.take 10 = lz ∧ blkAt HZ (H.length + 2) = some ⟨178, .wr, [[.i .i64 0, .i .i64 0, .i .i64 0, .i .i64 0, .i .i64 0, .sl none 0, .sl none 0, .sl none 0, .sl none 0, .sl none 0]]⟩ ∧ H.length + 2 < HZ.length ∧ True ∧ ∀ (G : Heap) (c : Int), R = (y, c) → ∀ tm : Ab.T, tm 5 = .int c → tm 4 = .ptr (H.length + 2) 0 0 → Q .ret tm (HZ.set (H.length + 2) (some ⟨178, .wr, [lz]⟩) ++ G) := by
    intro HZ lz y bv
    have hl := bv.len
    obtain ⟨fp', z1, z2, z3⟩ := bv
    have hzz := z2.blk bz (fun h => off 2 (by omega) (by simp [h]))
    have dzz := blkAt_len hzz
    refine ⟨hl, by rw [← hl]; exact List.take_length, hzz, dzz, trivial, fun G c hr tm t5 t4 => ?_⟩
    have hnf : ∀ i ∈ fp', i ∉ [H.length + 2] := fun i hi hj => by
      simp at hj
      rcases z3 i hi with h | h
      · have := hlt i h; omega
      · omega
    refine fin _ tm c y lz hr ⟨fp', (z1.keep (Keep.set _ _) hnf).app G, ?_, fun i hi => ?_⟩ t5 t4 (blkAt_app (blkAt_set dzz) G)
    · exact (((kX.trans z2 (by simp) (fun _ h _ => h)).trans (Keep.set _ _) (fun _ h _ => h) (fun i hi hlt => by simp at hi; omega))).trans (Keep.app [] _ G) (fun _ h _ => h) (by simp)
    · rcases z3 i hi with h | h
      · exact .inl h
      · exact .inr (by have := kX.1; omega)
  have hD := deedD.eq_1 x d
  rw [← hR] at hD
  have hIn := l15In hI1 hok d
  have hSay := l15Say hI1 hok hxok
  have hNet := l15Net hI1 hok hxok d
  simp only [Box.enc, Deed.enc] at hIn hSay hNet
  by_cases c1 : d.kind = 1
  · rw [if_pos c1] at hD
    simp [c1, b0, d0, bD, dD] at hIn ⊢
    refine stpL_runs (hIn) ?_
    rintro _ HZ ⟨lz, rfl, bv⟩
    obtain ⟨x1, x2, x3, x4, x5, x6⟩ := sub HZ lz _ bv
    simp [x1, x2, x3, x4]
    exact x6 _ (inD x d.inn).2 hD _ (by simp) (by simp)
  rw [if_neg c1] at hD
  by_cases c6 : d.kind = 6
  · rw [if_pos c6] at hD
    simp [c6, b0, d0, bD, dD]
    refine stpL_runs (hSay) ?_
    rintro _ HZ ⟨lz, rfl, bv⟩
    obtain ⟨x1, x2, x3, x4, x5, x6⟩ := sub HZ lz _ bv
    simp [x1, x2, x3, x4]
    exact x6 _ (sayD x).2 hD _ (by simp) (by simp)
  rw [if_neg c6] at hD
  by_cases c345 : d.kind = 3 ∨ d.kind = 4 ∨ d.kind = 5
  · rw [if_pos c345] at hD
    have hNet := hNet c345
    rcases c345 with c | c | c
    all_goals
      rw [c] at hNet
      simp [c, b0, d0, bD, dD]
      refine stpL_runs (hNet) ?_
      rintro _ HZ ⟨lz, rfl, bv⟩
      obtain ⟨x1, x2, x3, x4, x5, x6⟩ := sub HZ lz _ bv
      simp [x1, x2, x3, x4]
      exact x6 _ (onWireD x d).2 hD _ (by simp) (by simp)
  rw [if_neg c345] at hD
  have c3 : ¬ d.kind = 3 := fun h => c345 (.inl h)
  have c4 : ¬ d.kind = 4 := fun h => c345 (.inr (.inl h))
  have c5 : ¬ d.kind = 5 := fun h => c345 (.inr (.inr h))
  simp [c1, c6, c3, c4, c5, l1In, bD, dD]
  by_cases hs01 : 0 ≤ d.a ∧ d.a ≤ 1
  · rw [if_neg (by simpa using hs01)] at hD
    obtain ⟨s, hs2, hda⟩ : ∃ s : Nat, s < 2 ∧ d.a = (s : Int) := ⟨d.a.toNat, by omega, by omega⟩
    have h01 : (!decide (0 ≤ d.a) || !decide (d.a ≤ 1)) = false := by simp [hs01]
    rw [h01]
    have hShip := l15Ship hI1 hok hxok s hs2
    have hFall := l15Fall hI1 hok hxok d hs2 hda
    have hReg := l15Reg hI1 hok hxok d hs2 hda
    simp only [Box.enc, Deed.enc] at hShip hFall hReg
    have hD2 := onMinderD.eq_1 x d
    by_cases c2 : d.kind = 2
    · rw [hD2, if_pos c2, hda] at hD
      simp [c2, b0, d0, bD, dD, hda]
      refine stpL_runs (hShip) ?_
      rintro _ HZ ⟨lz, rfl, bv⟩
      obtain ⟨x1, x2, x3, x4, x5, x6⟩ := sub HZ lz _ bv
      simp [x1, x2, x3, x4]
      exact x6 _ (shipD x s).2 hD _ (by simp) (by simp)
    by_cases c7 : d.kind = 7 ∨ d.kind = 8 ∨ d.kind = 12
    · have hFall := hFall c7
      rcases c7 with c | c | c
      all_goals
        rw [c] at hFall
        simp [c, b0, d0, bD, dD]
        refine stpL_runs (hFall) ?_
        rintro _ HZ ⟨lz, rfl, bv⟩
        obtain ⟨x1, x2, x3, x4, x5, x6⟩ := sub HZ lz _ bv
        simp [x1, x2, x3, x4]
        exact x6 _ (onMinderD x d).2 hD _ (by simp) (by simp)
    have c9 : d.kind = 9 ∨ d.kind = 10 ∨ d.kind = 11 := by omega
    have hReg := hReg c9
    rcases c9 with c | c | c
    all_goals
      rw [c] at hReg
      simp [c, b0, d0, bD, dD]
      refine stpL_runs (hReg) ?_
      rintro _ HZ ⟨lz, rfl, bv⟩
      obtain ⟨x1, x2, x3, x4, x5, x6⟩ := sub HZ lz _ bv
      simp [x1, x2, x3, x4]
      exact x6 _ (onMinderD x d).2 hD _ (by simp) (by simp)
  · rw [if_pos hs01] at hD
    have h01 : (!decide (0 ≤ d.a) || !decide (d.a ≤ 1)) = true := by
      rcases Int.lt_or_le d.a 0 with h | h
      · simp [show ¬ 0 ≤ d.a by omega]
      · simp [show ¬ d.a ≤ 1 by omega]
    rw [h01]
    simp [b0, d0, bz, dz]
    exact same0 2 hD _ (by simp) (by simp)

theorem bigL {H : Heap} {a : Option (Nat × Nat)} {n : Nat} : run env 9 [.w (.lf (.sl a n))] H = some (.bool (decide ((1048576 : Int) < n)), H) := by
  refine run_walk ok9 Try.func9 rfl (by simp [Try.f9]) fun Q hQ => ?_
  simp only [Try.f9, strip, stripL, stripI, stripG, chkT, tagsB, tagsL, tagD, addT, tagA, lookN, tagOp, elmT, ty22, ty24, ty33, ty40, ty44, ty54, ty55, ty63, ty171, ty175, ty176, ty183, Nat.reduceEqDiff, if_false, reduceIte, Option.getD_some, Option.getD_none, dstAt, dstOk, Nat.reduceLT, decide_true, if_true]
  simp [builtinV, pureB, lenV]
  refine hQ _ _ _ (by simp) ?_
  simp [Try.f9]

def encU (x : Int) : List Lf := [.i .u8 x]
/-- A cursor over n bytes. -/
def Cur (H : Heap) (c n : Nat) : Prop := ∃ (a : Option (Nat × Nat)) (i h : Int) (bs : List Int), blkAt H c = some ⟨154, .wr, [[.sl a n, .i .i64 i, .i .i64 h]]⟩ ∧ 0 ≤ i ∧ i ≤ n ∧ bs.length = n ∧ n ≤ 1048576 ∧ (∀ id r, a = some (id, r) → bs ≠ [] → id < c) ∧ Sl H 5 a (bs.map encU)
theorem Cur.lt {H : Heap} {c n : Nat} (h : Cur H c n) : c < H.length := let ⟨_, _, _, _, h1, _⟩ := h; blkAt_len h1
theorem Cur.keep {H H' : Heap} {c n : Nat} {f : List Nat} (h : Cur H c n) (hk : Keep f H H') (hf : ∀ i ∈ f, c < i) : Cur H' c n := by
  obtain ⟨a, i, h, bs, h1, h2, h3, h4, h5, h6, h7⟩ := h
  have hlt := blkAt_len h1
  refine ⟨a, i, h, bs, hk.blk h1 (fun hc => by have := hf c hc; omega), h2, h3, h4, h5, h6, ?_⟩
  by_cases hb : bs = []
  · subst hb; exact Sl.nil _ _ _
  · exact h7.keep hk (fun id r he hi => by have := hf id hi; have := h6 id r he hb; omega)
theorem Cur.app {H : Heap} {c n : Nat} (h : Cur H c n) (G : Heap) : Cur (H ++ G) c n := h.keep (Keep.app [] H G) (by simp)
theorem Cur.ne {H : Heap} {c n id : Nat} {b : Blk} (h : Cur H c n) (hb : blkAt H id = some b) (he : b.elem ≠ 154) : id ≠ c := by
  obtain ⟨a, i, h, bs, h1, -⟩ := h
  rintro rfl
  rw [h1] at hb
  injection hb with hb
  rw [← hb] at he
  exact he rfl
/-- From H to H' the cursor may have gone on, nothing else that was has turned. -/
def CurTo (H H' : Heap) (c n : Nat) : Prop := Keep [c] H H' ∧ Cur H' c n
theorem CurTo.refl {H : Heap} {c n : Nat} (h : Cur H c n) : CurTo H H c n := ⟨Keep.refl _ _, h⟩
theorem CurTo.app {H H' : Heap} {c n : Nat} (h : CurTo H H' c n) (G : Heap) : CurTo H (H' ++ G) c n := ⟨h.1.trans (Keep.app [] _ G) (fun _ h _ => h) (by simp), h.2.app G⟩
theorem CurTo.next {H H1 H2 : Heap} {c n : Nat} (h : CurTo H H1 c n) (h2 : CurTo H1 H2 c n) : CurTo H H2 c n := ⟨h.1.trans h2.1 (fun _ h _ => h) (fun _ h _ => h), h2.2⟩
theorem CurTo.base {H G H' : Heap} {c n : Nat} (h : CurTo (H ++ G) H' c n) : CurTo H H' c n := ⟨h.1.base, h.2⟩
theorem CurTo.set {H H' : Heap} {c n : Nat} (h : CurTo H H' c n) {id : Nat} (hid : H.length ≤ id) (hc : c < id) (y : Option Blk) : CurTo H (H'.set id y) c n :=
  ⟨h.1.trans (Keep.set _ _) (fun _ h _ => h) (fun i hi hlt => by simp at hi; omega), h.2.keep (Keep.set _ _) (by simpa using hc)⟩
theorem CurTo.own {H H' H2 : Heap} {c n : Nat} (h : CurTo H H' c n) {f : List Nat} (hk : Keep f H' H2) (hf : ∀ i ∈ f, H.length ≤ i) (hc : c < H.length) : CurTo H H2 c n :=
  ⟨h.1.trans hk (fun _ h _ => h) (fun i hi hlt => by have := hf i hi; omega), h.2.keep hk (fun i hi => by have := hf i hi; omega)⟩
theorem CurTo.leave {H H' : Heap} {c n : Nat} (h : CurTo H H' c n) (hc : Cur H c n) (ws : List W) : CurTo H (Go.Ab.leave H H' ws) c n := by
  rcases leave_or H H' ws with e | ⟨e, -⟩ <;> rw [e]
  · exact h
  · exact CurTo.refl hc
theorem CurTo.len {H H' : Heap} {c n : Nat} (h : CurTo H H' c n) : H.length ≤ H'.length := h.1.1
/-- Of what was there only the cursor's block turned. -/
theorem CurTo.only {H H' : Heap} {c n : Nat} (h : CurTo H H' c n) (hc : Cur H c n) : onlyT (some 154) H H' = true := by
  unfold onlyT
  simp only [List.all_eq_true, List.mem_range, Bool.or_eq_true, decide_eq_true_eq]
  intro id hid
  by_cases he : id = c
  · subst he
    obtain ⟨a, i, h0, bs, h1, -⟩ := hc
    obtain ⟨a', i', h0', bs', h1', -⟩ := h.2
    have e1 := blkAt_some h1
    have e2 := blkAt_some h1'
    right
    rw [e1, e2]
    rfl
  · exact .inl (h.1.2 id hid (by simpa using he))

/-- A call of a function that draws. -/
theorem stpL_cur {call : Fun} {draw : Bool} {tm : Ab.T} {H : Heap} {Q : Ex → Ab.T → Heap → Prop} {fr : List Fr} {is : List I2} {f : Nat} {args : List V} {d : Option Nat} {K : V → Heap → Prop} {x y : List (Nat × Nat × Nat)} {c n : Nat} (h : Runs env f args H K) (hc : Cur H c n) (hto : ∀ v H', K v H' → CurTo H H' c n)
    (hk : ∀ v H', K v H' → stpL env call (some (v, H')) d draw is fr tm Q) (hw : env.wr f = true := by rfl) (hn : env.wt f = some 154 := by rfl) : stpL env call (guardCall env draw (.w (.lf (.fn f x y))) H (run env f args H)) d draw is fr tm Q := by
  obtain ⟨v, H', hr, hK⟩ := h
  have : guardCall env draw (.w (.lf (.fn f x y))) H (run env f args H) = some (v, H') := by
    rw [hr]
    unfold guardCall
    split
    · rfl
    · have h1 := hto v H' hK
      simp [hw, hn, h1.len, h1.only hc]
  rw [this]
  exact hk v H' hK

theorem and255 (a : Int) : 0 ≤ IntKind.i64.wrap ((BitVec.ofInt 64 a &&& 255#64).toNat : Nat) ∧ IntKind.i64.wrap ((BitVec.ofInt 64 a &&& 255#64).toNat : Nat) ≤ 255 := by
  have h : (BitVec.ofInt 64 a &&& 255#64).toNat ≤ 255 := by
    rw [BitVec.toNat_and]
    exact Nat.le_trans Nat.and_le_right (by decide)
  rw [wrap64 (by omega) (by omega)]
  omega
theorem l1Byte {H : Heap} {c n : Nat} (hc : Cur H c n) : Runs env 161 [.ptr c 0 0] H fun v H' => (∃ x : Int, v = .int x ∧ 0 ≤ x ∧ x ≤ 255) ∧ CurTo H H' c n := by
  have hc0 := hc
  obtain ⟨a, i, h, bs, h1, h2, h3, h4, h5, h6, h7⟩ := hc
  have hl := blkAt_len h1
  refine Runs.walk ok161 Try.func161 rfl (by simp [Try.f161]) fun Q hQ => ?_
  simp only [Try.f161, strip, stripL, stripI, stripG, chkT, tagsB, tagsL, tagD, addT, tagA, lookN, tagOp, elmT, ty22, ty24, ty33, ty40, ty44, ty54, ty55, ty63, ty171, ty175, ty176, ty183, Nat.reduceEqDiff, if_false, reduceIte, Option.getD_some, Option.getD_none, dstAt, dstOk, Nat.reduceLT, decide_true, if_true]
  have hset : ∀ y : Blk, blkAt (H.set c (some y)) c = some y := fun y => blkAt_set hl
  have hto : ∀ (i' h' : Int), 0 ≤ i' → i' ≤ n → CurTo H (H.set c (some ⟨154, .wr, [[.sl a n, .i .i64 i', .i .i64 h']]⟩)) c n := fun i' h' g1 g2 =>
    ⟨Keep.set _ _, a, i', h', bs, hset _, g1, g2, h4, h5, h6, by
      by_cases hb : bs = []
      · subst hb; exact Sl.nil _ _ _
      · exact h7.keep (Keep.set _ _) (fun id r he hi => by have := h6 id r he hb; simp at hi; omega)⟩
  simp [h1, hl, hset, builtinV, pureB, lenV, binV, binInt, cmpI, arI, IntKind.bits]
  refine selS_intro (fun hc1 => ?_) (fun hc1 => ?_)
  · simp at hc1
    obtain ⟨k, rfl⟩ : ∃ k : Nat, i = (k : Int) := ⟨i.toNat, by omega⟩
    have hk : k < bs.length := by omega
    obtain ⟨id3, r3, bl3, rfl, hb3, hbe3, hrow3⟩ := h7 k _ (by rw [List.getElem?_map, List.getElem?_eq_getElem hk]; rfl)
    have hid3 := blkAt_len hb3
    have hlt3 : id3 < c := h6 id3 r3 rfl (by rintro rfl; simp at hk)
    have hse : ∀ y : Option Blk, blkAt (H.set c y) id3 = some bl3 := fun y => by rw [blkAt_set_ne (by omega)]; exact hb3
    have hkn : k < n := by omega
    have hkI : (k : Int) < n := by omega
    have hw : IntKind.i64.wrap ((k : Int) + 1) = (k : Int) + 1 := wrap64 (by omega) (by omega)
    simp [hset, hl, hse, hid3, hbe3, hrow3, indexAddrV, elemIs, hkn, hkI, encU, binV, binInt, cmpI, arI, IntKind.bits, convV, hw]
    refine hQ _ _ _ (by simp) ?_
    simp [Try.f161]
    exact ⟨and255 _, (hto _ _ (by omega) (by omega)).leave hc0 _⟩
  · simp at hc1
    simp
    refine hQ _ _ _ (by simp) ?_
    simp [Try.f161]
    exact ⟨and255 _, (hto _ _ h2 h3).leave hc0 _⟩

theorem tmod_le {s k : Int} (hs : 0 ≤ s) (hk : 0 < k) : s.tmod k ≤ s := by
  rw [Int.tmod_eq_emod_of_nonneg hs]
  obtain ⟨a, rfl⟩ := Int.eq_ofNat_of_zero_le hs
  obtain ⟨b, rfl⟩ := Int.eq_ofNat_of_zero_le (show 0 ≤ k by omega)
  have := Nat.mod_le a b
  omega
theorem l1Below {H : Heap} {c n : Nat} (hc : Cur H c n) (k : Int) : Runs env 97 [.ptr c 0 0, .int k] H fun v H' => (∃ x : Int, v = .int x ∧ 0 ≤ x ∧ (0 < k → x < k) ∧ x ≤ 4294967295) ∧ CurTo H H' c n := by
  refine Runs.walk ok97 Try.func97 rfl (by simp [Try.f97]) fun Q hQ => ?_
  simp only [Try.f97, strip, stripL, stripI, stripG, chkT, tagsB, tagsL, tagD, addT, tagA, lookN, tagOp, elmT, ty22, ty24, ty33, ty40, ty44, ty54, ty55, ty63, ty171, ty175, ty176, ty183, Nat.reduceEqDiff, if_false, reduceIte, Option.getD_some, Option.getD_none, dstAt, dstOk, Nat.reduceLT, decide_true, if_true]
  have fin : ∀ (HF : Heap) (tm : Ab.T) (x : Int), tm 4 = .int x → 0 ≤ x → (0 < k → x < k) → x ≤ 4294967295 → CurTo H HF c n → Q .ret tm HF := by
    intro HF tm x t4 h1 h2 h3 hto
    refine hQ _ _ _ (by simp) ?_
    simp [Try.f97, t4]
    exact ⟨⟨h1, h2, h3⟩, hto.leave hc _⟩
  simp
  by_cases hk : k ≤ 0
  · simp [hk]
    exact fin _ _ 0 (by simp) (by omega) (by omega) (by omega) (CurTo.refl hc)
  have hk0 : ¬ k = 0 := by omega
  simp [hk]
  by_cases hk2 : k ≤ 256
  · simp [hk2]
    refine stpL_runs (l1Byte hc) ?_
    rintro _ H1 ⟨⟨x, rfl, hx1, hx2⟩, hto⟩
    simp [hk0]
    have h1 := Int.tmod_nonneg k hx1
    have h2 := Int.tmod_lt_of_pos x (show 0 < k by omega)
    exact fin _ _ (x.tmod k) (by simp) h1 (fun _ => h2) (by omega) hto
  · simp [hk2]
    refine stpL_runs (l1Byte hc) ?_
    rintro _ H1 ⟨⟨x, rfl, hx1, hx2⟩, hto1⟩
    simp
    refine stpL_runs (l1Byte hto1.2) ?_
    rintro _ H2 ⟨⟨y, rfl, hy1, hy2⟩, hto2⟩
    simp
    refine stpL_runs (l1Byte hto2.2) ?_
    rintro _ H3 ⟨⟨z, rfl, hz1, hz2⟩, hto3⟩
    simp
    refine stpL_runs (l1Byte hto3.2) ?_
    rintro _ H4 ⟨⟨w, rfl, hw1, hw2⟩, hto4⟩
    have g1 : IntKind.i64.wrap (x * 16777216) = x * 16777216 := wrap64 (by omega) (by omega)
    have g2 : IntKind.i64.wrap (y * 65536) = y * 65536 := wrap64 (by omega) (by omega)
    have g3 : IntKind.i64.wrap (x * 16777216 + y * 65536) = x * 16777216 + y * 65536 := wrap64 (by omega) (by omega)
    have g4 : IntKind.i64.wrap (z * 256) = z * 256 := wrap64 (by omega) (by omega)
    have g5 : IntKind.i64.wrap (x * 16777216 + y * 65536 + z * 256) = x * 16777216 + y * 65536 + z * 256 := wrap64 (by omega) (by omega)
    have g6 : IntKind.i64.wrap (x * 16777216 + y * 65536 + z * 256 + w) = x * 16777216 + y * 65536 + z * 256 + w := wrap64 (by omega) (by omega)
    simp [hk0, g1, g2, g3, g4, g5, g6]
    obtain ⟨s, hs⟩ : ∃ s, s = x * 16777216 + y * 65536 + z * 256 + w := ⟨_, rfl⟩
    have hs0 : 0 ≤ s := by omega
    have h1 := Int.tmod_nonneg k hs0
    have h2 := Int.tmod_lt_of_pos s (show 0 < k by omega)
    have h3 : s.tmod k ≤ s := tmod_le hs0 (by omega)
    refine fin _ _ (s.tmod k) ?_ h1 (fun _ => h2) (by omega) (((hto1.next hto2).next hto3).next hto4)
    simp [hs]

theorem l1Once {H : Heap} {c n : Nat} (hc : Cur H c n) (k : Int) : Runs env 99 [.ptr c 0 0, .int k] H fun v H' => (∃ b : Bool, v = .bool b) ∧ CurTo H H' c n := by
  refine Runs.walk ok99 Try.func99 rfl (by simp [Try.f99]) fun Q hQ => ?_
  simp only [Try.f99, strip, stripL, stripI, stripG, chkT, tagsB, tagsL, tagD, addT, tagA, lookN, tagOp, elmT, ty22, ty24, ty33, ty40, ty44, ty54, ty55, ty63, ty171, ty175, ty176, ty183, Nat.reduceEqDiff, if_false, reduceIte, Option.getD_some, Option.getD_none, dstAt, dstOk, Nat.reduceLT, decide_true, if_true]
  simp
  refine stpL_runs (l1Below hc k) ?_
  rintro _ H1 ⟨⟨x, rfl, hx1, hx2⟩, hto⟩
  simp
  refine hQ _ _ _ (by simp) ?_
  simp [Try.f99]
  exact ⟨by omega, hto.leave hc _⟩

theorem l1PickInt {H : Heap} {c n : Nat} (hc : Cur H c n) {a : Option (Nat × Nat)} {xs : List Int} (hs : Sl H 3 a (xs.map encI)) (hx : xs ≠ []) (hlen : xs.length ≤ 1048576) :
    Runs env 104 [.ptr c 0 0, .w (.lf (.sl a xs.length))] H fun v H' => (∃ x : Int, v = .int x ∧ x ∈ xs) ∧ CurTo H H' c n := by
  have hpos : 0 < xs.length := List.length_pos_iff.2 hx
  refine Runs.walk ok104 Try.func104 rfl (by simp [Try.f104]) fun Q hQ => ?_
  simp only [Try.f104, strip, stripL, stripI, stripG, chkT, tagsB, tagsL, tagD, addT, tagA, lookN, tagOp, elmT, ty22, ty24, ty33, ty40, ty44, ty54, ty55, ty63, ty171, ty175, ty176, ty183, Nat.reduceEqDiff, if_false, reduceIte, Option.getD_some, Option.getD_none, dstAt, dstOk, Nat.reduceLT, decide_true, if_true]
  simp [builtinV, pureB, lenV]
  refine stpL_runs (l1Below hc xs.length) ?_
  rintro _ H1 ⟨⟨x, rfl, hx1, hx2, -⟩, hto⟩
  have hxl := hx2 (by omega)
  obtain ⟨k, rfl⟩ : ∃ k : Nat, x = (k : Int) := ⟨x.toNat, by omega⟩
  have hk : k < xs.length := by omega
  obtain ⟨id3, r3, bl3, rfl, hb3, hbe3, hrow3⟩ := hs k _ (by rw [List.getElem?_map, List.getElem?_eq_getElem hk]; rfl)
  have hne := hc.ne hb3 (by rw [hbe3]; decide)
  have hb4 := hto.1.blk hb3 (by simpa using hne)
  have hid4 := blkAt_len hb4
  have hkI : (k : Int) < xs.length := by omega
  simp [hb4, hid4, hbe3, hrow3, indexAddrV, elemIs, hk, hkI, encI]
  refine hQ _ _ _ (by simp) ?_
  simp [Try.f104]
  exact hto.leave hc _

theorem l6DrawRight {H : Heap} {c n : Nat} (hc : Cur H c n) : Runs env 172 [.ptr c 0 0] H fun v H' => (∃ x : Vec, v = .agg x.enc) ∧ CurTo H H' c n := by
  have hcl := hc.lt
  refine Runs.walk ok172 Try.func172 rfl (by simp [Try.f172]) fun Q hQ => ?_
  simp only [Try.f172, strip, stripL, stripI, stripG, chkT, tagsB, tagsL, tagD, addT, tagA, lookN, tagOp, elmT, ty22, ty24, ty33, ty40, ty44, ty54, ty55, ty63, ty171, ty175, ty176, ty183, Nat.reduceEqDiff, if_false, reduceIte, Option.getD_some, Option.getD_none, dstAt, dstOk, Nat.reduceLT, decide_true, if_true]
  have fin : ∀ (HF : Heap) (tm : Ab.T) (x : Vec), tm 2 = .ptr H.length 0 0 → blkAt HF H.length = some ⟨28, .wr, [x.enc]⟩ → CurTo H HF c n → Q .ret tm HF := by
    intro HF tm x t2 hb hto
    refine hQ _ _ _ (by simp) ?_
    have hres : resT env.τ tm HF (Try.f172.results.toList) = some [W.agg x.enc] := by simp [Try.f172, t2, hb]
    rw [hres, optK_some]
    exact ⟨⟨x, rfl⟩, hto.leave hc _⟩
  have hcX := hc.app [some ⟨28, .wr, [[.i .i64 0, .i .i64 0, .i .i64 0, .i .i64 0]]⟩]
  have bzX : blkAt (H ++ [some ⟨28, .wr, [[.i .i64 0, .i .i64 0, .i .i64 0, .i .i64 0]]⟩]) H.length = some ⟨28, .wr, [[.i .i64 0, .i .i64 0, .i .i64 0, .i .i64 0]]⟩ := by simp
  have hlX : (H ++ [some ⟨28, .wr, [[.i .i64 0, .i .i64 0, .i .i64 0, .i .i64 0]]⟩] : Heap).length = H.length + 1 := by simp
  simp
  refine stpL_runs (l1Below hcX 4) ?_
  rintro _ H1 ⟨⟨x, rfl, hx⟩, hto1⟩
  simp
  refine stpL_runs (l1Below hto1.2 4) ?_
  rintro _ H2 ⟨⟨y, rfl, hy⟩, hto2⟩
  have hto := hto1.next hto2
  have bz2 := hto.1.blk bzX (by simp; omega)
  have dz2 := blkAt_len bz2
  have hcc2 := hto.base
  have hl2 := hto.len
  rw [hlX] at hl2
  obtain ⟨r, hr⟩ : ∃ r, r = IntKind.i64.wrap (1 + x) := ⟨_, rfl⟩
  simp [← hr]
  have hcM := hto.2.app [some ⟨28, .wr, [[.i .i64 r, .i .i64 0, .i .i64 0, .i .i64 y]]⟩]
  refine stpL_cur (l1Below hcM 3) hcM (fun v H' h => h.2) ?_
  rintro _ H3 ⟨⟨z, rfl, hz⟩, hto3⟩
  have b3 : blkAt H3 H2.length = some ⟨28, .wr, [[.i .i64 r, .i .i64 0, .i .i64 0, .i .i64 y]]⟩ := hto3.1.blk (by simp) (by simp; omega)
  have bz3 := hto3.1.blk (blkAt_app bz2 _) (by simp; omega)
  have d3 := blkAt_len b3
  have dz3 := blkAt_len bz3
  have hcc3 := hcc2.next hto3.base
  obtain ⟨g, hg⟩ : ∃ g, g = IntKind.i64.wrap (r + z) := ⟨_, rfl⟩
  have hset : ∀ (Y : Heap) (y : Blk), H2.length < Y.length → blkAt (List.set Y H2.length (some y)) H2.length = some y := fun Y y h => blkAt_set h
  have hne3 : ∀ (Y : Heap) (y : Option Blk), blkAt (List.set Y H2.length y) H.length = blkAt Y H.length := fun Y y => blkAt_set_ne (by omega)
  simp [b3, d3, ← hg, hset]
  refine selS_intro (fun hq => ?_) (fun hq => ?_)
  · simp
    have hcS := (hcc3.set (id := H2.length) (by omega) (by omega) (some ⟨28, .wr, [[.i .i64 r, .i .i64 0, .i .i64 g, .i .i64 y]]⟩))
    refine stpL_runs (l1Below hcS.2 3) ?_
    rintro _ H4 ⟨⟨u, rfl, hu⟩, hto4⟩
    have b4 := hto4.1.blk (blkAt_set d3) (by simp; omega)
    have bz4 := hto4.1.blk (show blkAt (H3.set H2.length _) H.length = _ from (hne3 _ _).trans bz3) (by simp; omega)
    have d4 := blkAt_len b4
    have dz4 := blkAt_len bz4
    have hcc4 := hcS.next hto4
    simp [b4, d4, bz4, dz4, hset, hne3]
    refine fin _ _ ⟨_, _, _, _⟩ ?_ (blkAt_set (Nat.lt_of_lt_of_eq dz4 (List.length_set).symm)) ((hcc4.set (by omega) (by omega) _).set (by omega) (by omega) _)
    simp
  · simp [b3, d3, bz3, dz3, hset, hne3]
    refine fin _ _ ⟨_, _, _, _⟩ ?_ (blkAt_set (Nat.lt_of_lt_of_eq dz3 (List.length_set).symm)) ((hcc3.set (by omega) (by omega) _).set (by omega) (by omega) _)
    simp

theorem l6Draw {H : Heap} {c n : Nat} (hc : Cur H c n) : Runs env 145 [.ptr c 0 0] H fun v H' => (∃ x : Vec, v = .agg x.enc) ∧ CurTo H H' c n := by
  have hcl := hc.lt
  refine Runs.walk ok145 Try.func145 rfl (by simp [Try.f145]) fun Q hQ => ?_
  simp only [Try.f145, strip, stripL, stripI, stripG, chkT, tagsB, tagsL, tagD, addT, tagA, lookN, tagOp, elmT, ty22, ty24, ty33, ty40, ty44, ty54, ty55, ty63, ty171, ty175, ty176, ty183, Nat.reduceEqDiff, if_false, reduceIte, Option.getD_some, Option.getD_none, dstAt, dstOk, Nat.reduceLT, decide_true, if_true]
  have fin : ∀ (HF : Heap) (tm : Ab.T) (x : Vec), tm 2 = .ptr H.length 0 0 → blkAt HF H.length = some ⟨28, .wr, [x.enc]⟩ → CurTo H HF c n → Q .ret tm HF := by
    intro HF tm x t2 hb hto
    refine hQ _ _ _ (by simp) ?_
    have hres : resT env.τ tm HF (Try.f145.results.toList) = some [W.agg x.enc] := by simp [Try.f145, t2, hb]
    rw [hres, optK_some]
    exact ⟨⟨x, rfl⟩, hto.leave hc _⟩
  have hcX := hc.app [some ⟨28, .wr, [[.i .i64 0, .i .i64 0, .i .i64 0, .i .i64 0]]⟩]
  have bzX : blkAt (H ++ [some ⟨28, .wr, [[.i .i64 0, .i .i64 0, .i .i64 0, .i .i64 0]]⟩]) H.length = some ⟨28, .wr, [[.i .i64 0, .i .i64 0, .i .i64 0, .i .i64 0]]⟩ := by simp
  have hlX : (H ++ [some ⟨28, .wr, [[.i .i64 0, .i .i64 0, .i .i64 0, .i .i64 0]]⟩] : Heap).length = H.length + 1 := by simp
  simp
  refine stpL_runs (l6DrawRight hcX) ?_
  rintro _ H1 ⟨⟨x, rfl⟩, hto1⟩
  have bz1 := hto1.1.blk bzX (by simp; omega)
  have dz1 := blkAt_len bz1
  have hcc1 := hto1.base
  have hl1 := hto1.len
  rw [hlX] at hl1
  simp [Vec.enc]
  have hcM := hto1.2.app [some ⟨28, .wr, [[.i .i64 x.root, .i .i64 x.cost, .i .i64 x.bridge, .i .i64 x.port]]⟩]
  refine stpL_runs (l1Below hcM 10) ?_
  rintro _ H2 ⟨⟨k, rfl, -⟩, hto2⟩
  have b3 : blkAt H2 H1.length = some ⟨28, .wr, [[.i .i64 x.root, .i .i64 x.cost, .i .i64 x.bridge, .i .i64 x.port]]⟩ := hto2.1.blk (by simp) (by simp; omega)
  have bz2 := hto2.1.blk (blkAt_app bz1 _) (by simp; omega)
  have d3 := blkAt_len b3
  have dz2 := blkAt_len bz2
  have hcc2 := hcc1.next hto2.base
  have hne3 : ∀ (Y : Heap) (y : Option Blk), blkAt (List.set Y H1.length y) H.length = blkAt Y H.length := fun Y y => blkAt_set_ne (by omega)
  have hne4 : ∀ (Y : Heap) (y : Blk), H1.length < Y.length → blkAt (List.set Y H1.length (some y)) H1.length = some y := fun Y y h => blkAt_set h
  by_cases c0 : k = 0
  · simp [c0]
    have hcL := hto2.2.app [some ⟨3, .wr, [encI 0, encI 9, encI 10]⟩]
    simp only [encI] at hcL
    refine stpL_runs (l1PickInt (xs := [0, 9, 10]) hcL (Sl.of (by simp [encI])) (by simp) (by simp)) ?_
    rintro _ H3 ⟨⟨y, rfl, -⟩, hto3⟩
    have hto3 := hto3.base
    have b33 := hto3.1.blk b3 (by simp; omega)
    have bz3 := hto3.1.blk bz2 (by simp; omega)
    have d33 := blkAt_len b33
    have dz3 := blkAt_len bz3
    have hcc3 := hcc2.next hto3
    simp [b33, d33, bz3, dz3, hne3, hne4, Vec.enc]
    refine fin _ _ ⟨y, x.cost, x.bridge, x.port⟩ ?_ (blkAt_set (Nat.lt_of_lt_of_eq dz3 (List.length_set).symm)) ((hcc3.set (by omega) (by omega) _).set (by omega) (by omega) _)
    simp
  by_cases c1 : k = 1
  · simp [c1]
    have hcL := hto2.2.app [some ⟨3, .wr, [encI (-1), encI 0, encI 20, encI 21]⟩]
    simp only [encI] at hcL
    refine stpL_runs (l1PickInt (xs := [(-1), 0, 20, 21]) hcL (Sl.of (by simp [encI])) (by simp) (by simp)) ?_
    rintro _ H3 ⟨⟨y, rfl, -⟩, hto3⟩
    have hto3 := hto3.base
    have b33 := hto3.1.blk b3 (by simp; omega)
    have bz3 := hto3.1.blk bz2 (by simp; omega)
    have d33 := blkAt_len b33
    have dz3 := blkAt_len bz3
    have hcc3 := hcc2.next hto3
    simp [b33, d33, bz3, dz3, hne3, hne4, Vec.enc]
    refine fin _ _ ⟨x.root, y, x.bridge, x.port⟩ ?_ (blkAt_set (Nat.lt_of_lt_of_eq dz3 (List.length_set).symm)) ((hcc3.set (by omega) (by omega) _).set (by omega) (by omega) _)
    simp
  by_cases c2 : k = 2
  · simp [c2]
    have hcL := hto2.2.app [some ⟨3, .wr, [encI 0, encI 9, encI 10]⟩]
    simp only [encI] at hcL
    refine stpL_runs (l1PickInt (xs := [0, 9, 10]) hcL (Sl.of (by simp [encI])) (by simp) (by simp)) ?_
    rintro _ H3 ⟨⟨y, rfl, -⟩, hto3⟩
    have hto3 := hto3.base
    have b33 := hto3.1.blk b3 (by simp; omega)
    have bz3 := hto3.1.blk bz2 (by simp; omega)
    have d33 := blkAt_len b33
    have dz3 := blkAt_len bz3
    have hcc3 := hcc2.next hto3
    simp [b33, d33, bz3, dz3, hne3, hne4, Vec.enc]
    refine fin _ _ ⟨x.root, x.cost, y, x.port⟩ ?_ (blkAt_set (Nat.lt_of_lt_of_eq dz3 (List.length_set).symm)) ((hcc3.set (by omega) (by omega) _).set (by omega) (by omega) _)
    simp
  by_cases c3 : k = 3
  · simp [c3]
    have hcL := hto2.2.app [some ⟨3, .wr, [encI (-1), encI 3, encI 4]⟩]
    simp only [encI] at hcL
    refine stpL_runs (l1PickInt (xs := [(-1), 3, 4]) hcL (Sl.of (by simp [encI])) (by simp) (by simp)) ?_
    rintro _ H3 ⟨⟨y, rfl, -⟩, hto3⟩
    have hto3 := hto3.base
    have b33 := hto3.1.blk b3 (by simp; omega)
    have bz3 := hto3.1.blk bz2 (by simp; omega)
    have d33 := blkAt_len b33
    have dz3 := blkAt_len bz3
    have hcc3 := hcc2.next hto3
    simp [b33, d33, bz3, dz3, hne3, hne4, Vec.enc]
    refine fin _ _ ⟨x.root, x.cost, x.bridge, y⟩ ?_ (blkAt_set (Nat.lt_of_lt_of_eq dz3 (List.length_set).symm)) ((hcc3.set (by omega) (by omega) _).set (by omega) (by omega) _)
    simp
  simp [c0, c1, c2, c3, b3, d3, bz2, dz2]
  refine fin _ _ ⟨_, _, _, _⟩ ?_ (blkAt_set dz2) (hcc2.set (by omega) (by omega) _)
  simp

theorem l8DrawIn {H : Heap} {c n : Nat} (hc : Cur H c n) : Runs env 144 [.ptr c 0 0] H fun v H' => (∃ x : In, v = .agg x.enc) ∧ CurTo H H' c n := by
  have hcl := hc.lt
  refine Runs.walk ok144 Try.func144 rfl (by simp [Try.f144]) fun Q hQ => ?_
  simp only [Try.f144, strip, stripL, stripI, stripG, chkT, tagsB, tagsL, tagD, addT, tagA, lookN, tagOp, elmT, ty22, ty24, ty33, ty40, ty44, ty54, ty55, ty63, ty171, ty175, ty176, ty183, Nat.reduceEqDiff, if_false, reduceIte, Option.getD_some, Option.getD_none, dstAt, dstOk, Nat.reduceLT, decide_true, if_true]
  have fin : ∀ (HF : Heap) (tm : Ab.T) (x : In), tm 2 = .ptr H.length 0 0 → blkAt HF H.length = some ⟨30, .wr, [x.enc]⟩ → CurTo H HF c n → Q .ret tm HF := by
    intro HF tm x t2 hb hto
    refine hQ _ _ _ (by simp) ?_
    have hres : resT env.τ tm HF (Try.f144.results.toList) = some [W.agg x.enc] := by simp [Try.f144, t2, hb]
    rw [hres, optK_some]
    exact ⟨⟨x, rfl⟩, hto.leave hc _⟩
  have hcX := hc.app [some ⟨30, .wr, [[.i .i64 0, .i .i64 0, .i .i64 0, .i .i64 0, .i .i64 0, .i .i64 0, .i .i64 0, .b false]]⟩]
  have bzX : blkAt (H ++ [some ⟨30, .wr, [[.i .i64 0, .i .i64 0, .i .i64 0, .i .i64 0, .i .i64 0, .i .i64 0, .i .i64 0, .b false]]⟩]) H.length = some ⟨30, .wr, [[.i .i64 0, .i .i64 0, .i .i64 0, .i .i64 0, .i .i64 0, .i .i64 0, .i .i64 0, .b false]]⟩ := by simp
  have hlX : (H ++ [some ⟨30, .wr, [[.i .i64 0, .i .i64 0, .i .i64 0, .i .i64 0, .i .i64 0, .i .i64 0, .i .i64 0, .b false]]⟩] : Heap).length = H.length + 1 := by simp
  simp
  refine stpL_runs (l1Below hcX 4) ?_
  rintro _ H1 ⟨⟨p, rfl, -⟩, hto1⟩
  have bz1 := hto1.1.blk bzX (by simp; omega)
  have hcc1 := hto1.base
  have hl1 := hto1.len
  rw [hlX] at hl1
  simp
  refine stpL_runs (l1Below hto1.2 4) ?_
  rintro _ H2 ⟨⟨k, rfl, -⟩, hto2⟩
  have bz2 := hto2.1.blk bz1 (by simp; omega)
  have dz2 := blkAt_len bz2
  have hcc2 := hcc1.next hto2
  by_cases c0 : k = 0
  · simp [c0, bz2, dz2]
    refine fin _ _ ⟨_, _, ⟨_, _, _, _⟩, _, _⟩ ?_ (blkAt_set dz2) (hcc2.set (by omega) (by omega) _)
    simp
  by_cases c1 : k = 1
  · simp [c1]
    refine stpL_runs (l1Once hto2.2 3) ?_
    rintro _ H3 ⟨⟨b, rfl⟩, hto3⟩
    have bz3 := hto3.1.blk bz2 (by simp; omega)
    have dz3 := blkAt_len bz3
    simp [bz3, dz3]
    refine fin _ _ ⟨_, _, ⟨_, _, _, _⟩, _, _⟩ ?_ (blkAt_set dz3) ((hcc2.next hto3).set (by omega) (by omega) _)
    simp
  simp [c0, c1]
  refine stpL_runs (l6DrawRight hto2.2) ?_
  rintro _ H3 ⟨⟨v, rfl⟩, hto3⟩
  have bz3 := hto3.1.blk bz2 (by simp; omega)
  simp
  refine stpL_runs (l1Below hto3.2 4) ?_
  rintro _ H4 ⟨⟨h, rfl, -⟩, hto4⟩
  have bz4 := hto4.1.blk bz3 (by simp; omega)
  have dz4 := blkAt_len bz4
  simp [bz4, dz4, Vec.enc]
  refine fin _ _ ⟨_, _, ⟨_, _, _, _⟩, _, _⟩ ?_ (blkAt_set dz4) (((hcc2.next hto3).next hto4).set (by omega) (by omega) _)
  simp

theorem l8DrawBent {H : Heap} {c n : Nat} (hc : Cur H c n) : Runs env 85 [.ptr c 0 0] H fun v H' => (∃ x : In, v = .agg x.enc) ∧ CurTo H H' c n := by
  have hcl := hc.lt
  refine Runs.walk ok85 Try.func85 rfl (by simp [Try.f85]) fun Q hQ => ?_
  simp only [Try.f85, strip, stripL, stripI, stripG, chkT, tagsB, tagsL, tagD, addT, tagA, lookN, tagOp, elmT, ty22, ty24, ty33, ty40, ty44, ty54, ty55, ty63, ty171, ty175, ty176, ty183, Nat.reduceEqDiff, if_false, reduceIte, Option.getD_some, Option.getD_none, dstAt, dstOk, Nat.reduceLT, decide_true, if_true]
  have fin : ∀ (HF : Heap) (tm : Ab.T) (x : In), tm 2 = .ptr H.length 0 0 → blkAt HF H.length = some ⟨30, .wr, [x.enc]⟩ → CurTo H HF c n → Q .ret tm HF := by
    intro HF tm x t2 hb hto
    refine hQ _ _ _ (by simp) ?_
    have hres : resT env.τ tm HF (Try.f85.results.toList) = some [W.agg x.enc] := by simp [Try.f85, t2, hb]
    rw [hres, optK_some]
    exact ⟨⟨x, rfl⟩, hto.leave hc _⟩
  have hcX := hc.app [some ⟨30, .wr, [[.i .i64 0, .i .i64 0, .i .i64 0, .i .i64 0, .i .i64 0, .i .i64 0, .i .i64 0, .b false]]⟩]
  have bzX : blkAt (H ++ [some ⟨30, .wr, [[.i .i64 0, .i .i64 0, .i .i64 0, .i .i64 0, .i .i64 0, .i .i64 0, .i .i64 0, .b false]]⟩]) H.length = some ⟨30, .wr, [[.i .i64 0, .i .i64 0, .i .i64 0, .i .i64 0, .i .i64 0, .i .i64 0, .i .i64 0, .b false]]⟩ := by simp
  have hlX : (H ++ [some ⟨30, .wr, [[.i .i64 0, .i .i64 0, .i .i64 0, .i .i64 0, .i .i64 0, .i .i64 0, .i .i64 0, .b false]]⟩] : Heap).length = H.length + 1 := by simp
  simp
  refine stpL_runs (l8DrawIn hcX) ?_
  rintro _ H1 ⟨⟨x, rfl⟩, hto1⟩
  have bz1 := hto1.1.blk bzX (by simp; omega)
  have dz1 := blkAt_len bz1
  have hcc1 := hto1.base
  have hl1 := hto1.len
  rw [hlX] at hl1
  simp [In.enc]
  have hcM := hto1.2.app [some ⟨30, .wr, [[.i .i64 x.kind, .i .i64 x.port, .i .i64 x.vec.root, .i .i64 x.vec.cost, .i .i64 x.vec.bridge, .i .i64 x.vec.port, .i .i64 x.hops, .b x.up]]⟩]
  refine stpL_runs (l1Below hcM 12) ?_
  rintro _ H2 ⟨⟨k, rfl, -⟩, hto2⟩
  have b3 : blkAt H2 H1.length = some ⟨30, .wr, [[.i .i64 x.kind, .i .i64 x.port, .i .i64 x.vec.root, .i .i64 x.vec.cost, .i .i64 x.vec.bridge, .i .i64 x.vec.port, .i .i64 x.hops, .b x.up]]⟩ := hto2.1.blk (by simp) (by simp; omega)
  have bz2 := hto2.1.blk (blkAt_app bz1 _) (by simp; omega)
  have d3 := blkAt_len b3
  have dz2 := blkAt_len bz2
  have hcc2 := hcc1.next hto2.base
  have hne3 : ∀ (Y : Heap) (y : Option Blk), blkAt (List.set Y H1.length y) H.length = blkAt Y H.length := fun Y y => blkAt_set_ne (by omega)
  have hne4 : ∀ (Y : Heap) (y : Blk), H1.length < Y.length → blkAt (List.set Y H1.length (some y)) H1.length = some y := fun Y y h => blkAt_set h
  by_cases c0 : k = 0
  · simp [c0]
    refine stpL_runs (l1Below hto2.2 6) ?_
    rintro _ H3 ⟨⟨y, rfl, -⟩, hto3⟩
    have b33 := hto3.1.blk b3 (by simp; omega)
    have bz3 := hto3.1.blk bz2 (by simp; omega)
    have d33 := blkAt_len b33
    have dz3 := blkAt_len bz3
    have hcc3 := hcc2.next hto3
    simp [b33, d33, bz3, dz3, hne3, hne4, Vec.enc]
    refine fin _ _ ⟨IntKind.i64.wrap (y - 1), x.port, x.vec, x.hops, x.up⟩ ?_ (blkAt_set (Nat.lt_of_lt_of_eq dz3 (List.length_set).symm)) ((hcc3.set (by omega) (by omega) _).set (by omega) (by omega) _)
    simp
  by_cases c1 : k = 1
  · simp [c1]
    have hcL := hto2.2.app [some ⟨3, .wr, [encI (-1), encI 3, encI 4]⟩]
    simp only [encI] at hcL
    refine stpL_runs (l1PickInt (xs := [(-1), 3, 4]) hcL (Sl.of (by simp [encI])) (by simp) (by simp)) ?_
    rintro _ H3 ⟨⟨y, rfl, -⟩, hto3⟩
    have hto3 := hto3.base
    have b33 := hto3.1.blk b3 (by simp; omega)
    have bz3 := hto3.1.blk bz2 (by simp; omega)
    have d33 := blkAt_len b33
    have dz3 := blkAt_len bz3
    have hcc3 := hcc2.next hto3
    simp [b33, d33, bz3, dz3, hne3, hne4, Vec.enc]
    refine fin _ _ ⟨x.kind, y, x.vec, x.hops, x.up⟩ ?_ (blkAt_set (Nat.lt_of_lt_of_eq dz3 (List.length_set).symm)) ((hcc3.set (by omega) (by omega) _).set (by omega) (by omega) _)
    simp
  by_cases c2 : k = 2
  · simp [c2]
    refine stpL_runs (l6Draw hto2.2) ?_
    rintro _ H3 ⟨⟨y, rfl⟩, hto3⟩
    have b33 := hto3.1.blk b3 (by simp; omega)
    have bz3 := hto3.1.blk bz2 (by simp; omega)
    have d33 := blkAt_len b33
    have dz3 := blkAt_len bz3
    have hcc3 := hcc2.next hto3
    simp [b33, d33, bz3, dz3, hne3, hne4, Vec.enc]
    refine fin _ _ ⟨x.kind, x.port, y, x.hops, x.up⟩ ?_ (blkAt_set (Nat.lt_of_lt_of_eq dz3 (List.length_set).symm)) ((hcc3.set (by omega) (by omega) _).set (by omega) (by omega) _)
    simp
  by_cases c3 : k = 3
  · simp [c3]
    have hcL := hto2.2.app [some ⟨3, .wr, [encI (-1), encI 8, encI 9]⟩]
    simp only [encI] at hcL
    refine stpL_runs (l1PickInt (xs := [(-1), 8, 9]) hcL (Sl.of (by simp [encI])) (by simp) (by simp)) ?_
    rintro _ H3 ⟨⟨y, rfl, -⟩, hto3⟩
    have hto3 := hto3.base
    have b33 := hto3.1.blk b3 (by simp; omega)
    have bz3 := hto3.1.blk bz2 (by simp; omega)
    have d33 := blkAt_len b33
    have dz3 := blkAt_len bz3
    have hcc3 := hcc2.next hto3
    simp [b33, d33, bz3, dz3, hne3, hne4, Vec.enc]
    refine fin _ _ ⟨x.kind, x.port, x.vec, y, x.up⟩ ?_ (blkAt_set (Nat.lt_of_lt_of_eq dz3 (List.length_set).symm)) ((hcc3.set (by omega) (by omega) _).set (by omega) (by omega) _)
    simp
  simp [c0, c1, c2, c3, b3, d3, bz2, dz2]
  refine fin _ _ ⟨_, _, ⟨_, _, _, _⟩, _, _⟩ ?_ (blkAt_set dz2) (hcc2.set (by omega) (by omega) _)
  simp

theorem l1New {H : Heap} {a : Option (Nat × Nat)} {bs : List Int} (hs : Sl H 5 a (bs.map encU)) (hn : bs.length ≤ 1048576) : Runs env 83 [.w (.lf (.sl a bs.length))] H fun v H' => ∃ c, v = .ptr c 0 0 ∧ Cur H' c bs.length ∧ H.length ≤ c ∧ Keep [] H H' := by
  have hw : IntKind.i64.wrap (27397 + (bs.length : Int)) = 27397 + (bs.length : Int) := wrap64 (by omega) (by omega)
  refine Runs.walk ok83 Try.func83 rfl (by simp [Try.f83]) fun Q hQ => ?_
  simp only [Try.f83, strip, stripL, stripI, stripG, chkT, tagsB, tagsL, tagD, addT, tagA, lookN, tagOp, elmT, ty22, ty24, ty33, ty40, ty44, ty54, ty55, ty63, ty171, ty175, ty176, ty183, Nat.reduceEqDiff, if_false, reduceIte, Option.getD_some, Option.getD_none, dstAt, dstOk, Nat.reduceLT, decide_true, if_true]
  have fin : ∀ (tm : Ab.T) (h : Int), tm 2 = .ptr H.length 0 0 → Q .ret tm (H ++ [some ⟨154, .wr, [[.sl a bs.length, .i .i64 0, .i .i64 h]]⟩]) := by
    intro tm h t2
    refine hQ _ _ _ (by simp) ?_
    simp [Try.f83, t2, leave, refFree]
    refine ⟨⟨a, 0, h, bs, by simp, by omega, by omega, rfl, hn, fun id r he hb => ?_, hs.app _⟩, Keep.app _ _ _⟩
    subst he
    exact hs.len (by simpa using hb)
  simp [builtinV, pureB, lenV, hw]
  refine wpS_loop (fun j tm H' => ∃ (i : Nat) (h : Int), i + j = bs.length ∧ tm 0 = .w (.lf (.sl a bs.length)) ∧ tm 3 = .int h ∧ tm 4 = .int i ∧ H' = H) bs.length (by rw [env_K]; omega) ⟨0, 27397 + bs.length, by simp, by simp, by simp, by simp, rfl⟩ ?_
  rintro j tm H1 hj ⟨i, h, hij, t0, t3, t4, rfl⟩ Q2 hn2 he2 hr2
  simp [t0, t3, t4, builtinV, pureB, lenV]
  have out : ∀ tm : Ab.T, tm 0 = .w (.lf (.sl a bs.length)) → tm 3 = .int h → Q2 (.exit 0) tm H1 := by
    intro tm s0 s3
    refine he2 _ _ _ ?_
    simp [s0, s3]
    refine fin _ h ?_
    simp
  by_cases hc1 : (i : Int) < bs.length
  · have hk : i < bs.length := by omega
    by_cases hc2 : (i : Int) < 4000
    · obtain ⟨id3, r3, bl3, rfl, hb3, hbe3, hrow3⟩ := hs i _ (by rw [List.getElem?_map, List.getElem?_eq_getElem hk]; rfl)
      have hid3 := blkAt_len hb3
      have hw2 : IntKind.i64.wrap ((i : Int) + 1) = (i : Int) + 1 := wrap64 (by omega) (by omega)
      have hc2' : i < 4000 := by omega
      simp [hc1, hk, hc2, hc2', t0, t3, t4, hb3, hid3, hbe3, hrow3, indexAddrV, elemIs, encU, binV, binInt, cmpI, arI, IntKind.bits, convV, hw2]
      refine hn2 (j - 1) _ _ (by omega) ⟨i + 1, _, by omega, by simp [t0], by simp; rfl, by simp, rfl⟩
    · have hc2' : ¬ i < 4000 := by omega
      simp [hc1, hk, hc2, hc2', t0, t3, t4]
      exact out _ (by simp [t0]) (by simp [t3])
  · have hk : ¬ i < bs.length := by omega
    simp [hc1, hk, t0, t3, t4]
    exact out _ (by simp [t0]) (by simp [t3])

theorem l15DrawDeed {H : Heap} {c n : Nat} (hc : Cur H c n) {l : List Lf} {x : Box} (h : RdBox H l x) (hn : x.net.length ≤ 1048576) : Runs env 185 [.ptr c 0 0, .agg l] H fun v H' => (∃ d : Deed, v = .agg d.enc ∧ 1 ≤ d.kind ∧ d.kind ≤ 12) ∧ CurTo H H' c n := by
  have hcl := hc.lt
  obtain ⟨q0, q1, q2, q3, q4, rfl, -, ⟨a1, rfl, -⟩, -⟩ := h
  refine Runs.walk ok185 Try.func185 rfl (by simp [Try.f185]) fun Q hQ => ?_
  simp only [Try.f185, strip, stripL, stripI, stripG, chkT, tagsB, tagsL, tagD, addT, tagA, lookN, tagOp, elmT, ty22, ty24, ty33, ty40, ty44, ty54, ty55, ty63, ty171, ty175, ty176, ty183, Nat.reduceEqDiff, if_false, reduceIte, Option.getD_some, Option.getD_none, dstAt, dstOk, Nat.reduceLT, decide_true, if_true]
  obtain ⟨X, hX⟩ : ∃ X : Heap, X = H ++ [some ⟨178, .wr, [[.i .i64 x.id, .i .i64 x.ports, .i .i64 x.reg.epoch, .i .i64 x.reg.owner, .i .i64 x.reg.pair, q0, .sl a1 x.net.length, q2, q3, q4]]⟩, some ⟨191, .wr, [[.i .i64 0, .i .i64 0, .i .i64 0, .i .i64 0, .i .i64 0, .i .i64 0, .i .i64 0, .i .i64 0, .i .i64 0, .b false]]⟩] := ⟨_, rfl⟩
  have b0X : blkAt X H.length = some ⟨178, .wr, [[.i .i64 x.id, .i .i64 x.ports, .i .i64 x.reg.epoch, .i .i64 x.reg.owner, .i .i64 x.reg.pair, q0, .sl a1 x.net.length, q2, q3, q4]]⟩ := by rw [hX]; simp
  have bzX : blkAt X (H.length + 1) = some ⟨191, .wr, [[.i .i64 0, .i .i64 0, .i .i64 0, .i .i64 0, .i .i64 0, .i .i64 0, .i .i64 0, .i .i64 0, .i .i64 0, .b false]]⟩ := by rw [hX]; simp
  have hcX : CurTo H X c n := by rw [hX]; exact (CurTo.refl hc).app _
  simp [Box.enc]
  rw [← hX]
  have hlX : X.length = H.length + 2 := by rw [hX]; simp
  clear hX
  have fin : ∀ (HF : Heap) (tm : Ab.T) (d : Deed) (L : List Lf), L = d.enc → tm 4 = .ptr (H.length + 1) 0 0 → H.length + 1 < HF.length → CurTo H HF c n → 1 ≤ d.kind → d.kind ≤ 12 → Q .ret tm (HF.set (H.length + 1) (some ⟨191, .wr, [L]⟩)) := by
    intro HF tm d L hL t4 hlt hto h1 h2
    subst hL
    refine hQ _ _ _ (by simp) ?_
    have hb : blkAt (HF.set (H.length + 1) (some ⟨191, .wr, [d.enc]⟩)) (H.length + 1) = some ⟨191, .wr, [d.enc]⟩ := blkAt_set hlt
    have hres : resT env.τ tm (HF.set (H.length + 1) (some ⟨191, .wr, [d.enc]⟩)) (Try.f185.results.toList) = some [W.agg d.enc] := by simp [Try.f185, t4, hb]
    rw [hres, optK_some]
    exact ⟨⟨d, rfl, h1, h2⟩, (hto.set (by omega) (by omega) _).leave hc _⟩
  refine stpL_runs (l1Below hcX.2 2) ?_
  rintro _ H1 ⟨⟨w, rfl, -⟩, hto1⟩
  simp
  refine stpL_runs (l1Below hto1.2 18) ?_
  rintro _ H2 ⟨⟨k, rfl, -⟩, hto2⟩
  have hto := hto1.next hto2
  have b0 := hto.1.blk b0X (by simp; omega)
  have bz := hto.1.blk bzX (by simp; omega)
  have d0 := blkAt_len b0
  have dz := blkAt_len bz
  have hcc := hcX.next hto
  have hne : ∀ (Y : Heap) (y : Option Blk) (i : Nat), H.length + 1 < i → blkAt (List.set Y i y) (H.length + 1) = blkAt Y (H.length + 1) := fun Y y i h => blkAt_set_ne (by omega)
  have shut : ∀ (tm : Ab.T) (kd a : Int), 1 ≤ kd → kd ≤ 12 → tm 4 = .ptr (H.length + 1) 0 0 → Q .ret tm (H2.set (H.length + 1) (some ⟨191, .wr, [[.i .i64 kd, .i .i64 a, .i .i64 0, .i .i64 0, .i .i64 0, .i .i64 0, .i .i64 0, .i .i64 0, .i .i64 0, .b false]]⟩)) := fun tm kd a h1 h2 t4 => fin _ tm ⟨kd, a, ⟨0, 0, ⟨0, 0, 0, 0⟩, 0, false⟩⟩ _ rfl t4 dz hcc h1 h2
  by_cases c012 : k = 0 ∨ k = 1 ∨ k = 2
  · rcases c012 with rfl | rfl | rfl
    all_goals
      simp
      refine stpL_runs (l8DrawIn hto2.2) ?_
      rintro _ H3 ⟨⟨y, rfl⟩, hto3⟩
      have b03 := hto3.1.blk b0 (by simp; omega)
      have bz3 := hto3.1.blk bz (by simp; omega)
      have d03 := blkAt_len b03
      have dz3 := blkAt_len bz3
      have hcc3 := hcc.next hto3
      have hl3 := hcc3.len
      have hl23 := hto3.len
      have hl12 := hto.len
      simp [In.enc]
      by_cases ck : y.kind = 2
      · have bz3A := fun G => blkAt_app bz3 G
        have g9 : H.length + 1 < H3.length + 1 := by omega
        simp [ck, bz3A, g9, -set_lt]
        refine fin _ _ ⟨1, 0, ⟨2, y.port, y.vec, y.hops, y.up⟩⟩ _ rfl ?_ (by simp; omega) (hcc3.app _) (by simp) (by simp)
        simp
      · have b03A := fun G => blkAt_app b03 G
        simp [ck, b03A, show H.length < H3.length + 1 by omega, l1Max]
        have hcM := (hto3.app [some ⟨30, .wr, [[.i .i64 y.kind, .i .i64 y.port, .i .i64 y.vec.root, .i .i64 y.vec.cost, .i .i64 y.vec.bridge, .i .i64 y.vec.port, .i .i64 y.hops, .b y.up]]⟩])
        refine stpL_runs (l1Below hcM.2 (max x.ports 1)) ?_
        rintro _ H4 ⟨⟨z, rfl, -⟩, hto4⟩
        have b7 : blkAt H4 H3.length = some ⟨30, .wr, [[.i .i64 y.kind, .i .i64 y.port, .i .i64 y.vec.root, .i .i64 y.vec.cost, .i .i64 y.vec.bridge, .i .i64 y.vec.port, .i .i64 y.hops, .b y.up]]⟩ := hto4.1.blk (by simp) (by simp; omega)
        have bz4 := hto4.1.blk (blkAt_app bz3 _) (by simp; omega)
        have d7 := blkAt_len b7
        have dz4 := blkAt_len bz4
        have hset7 : ∀ y : Blk, blkAt (List.set H4 H3.length (some y)) H3.length = some y := fun y => blkAt_set d7
        have hne7 : ∀ y : Option Blk, blkAt (List.set H4 H3.length y) (H.length + 1) = blkAt H4 (H.length + 1) := fun y => blkAt_set_ne (by omega)
        simp [b7, d7, hset7, hne7, bz4, dz4]
        refine fin _ _ ⟨1, 0, ⟨y.kind, z, y.vec, y.hops, y.up⟩⟩ _ rfl ?_ (by simpa using dz4) (((hcc3.app _).next hto4).set (by omega) (by omega) _) (by simp) (by simp)
        simp
  have n0 : ¬ k = 0 := fun h => c012 (.inl h)
  have n1 : ¬ k = 1 := fun h => c012 (.inr (.inl h))
  have n2 : ¬ k = 2 := fun h => c012 (.inr (.inr h))
  by_cases c345 : k = 3 ∨ k = 4 ∨ k = 5
  · rcases c345 with rfl | rfl | rfl
    all_goals
      simp [bz, dz]
      refine shut _ 2 _ (by omega) (by omega) ?_
      simp
  have n3 : ¬ k = 3 := fun h => c345 (.inl h)
  have n4 : ¬ k = 4 := fun h => c345 (.inr (.inl h))
  have n5 : ¬ k = 5 := fun h => c345 (.inr (.inr h))
  by_cases c6789 : k = 6 ∨ k = 7 ∨ k = 8 ∨ k = 9
  · rcases c6789 with rfl | rfl | rfl | rfl
    all_goals
      simp [b0, d0, builtinV, pureB, lenV, l1Max]
      refine stpL_runs (l1Below hto2.2 (max (x.net.length : Int) 1)) ?_
      rintro _ H3 ⟨⟨z, rfl, -⟩, hto3⟩
      have bz3 := hto3.1.blk bz (by simp; omega)
      have dz3 := blkAt_len bz3
      simp [bz3, dz3]
      refine fin _ _ ⟨3, z, ⟨0, 0, ⟨0, 0, 0, 0⟩, 0, false⟩⟩ _ rfl ?_ dz3 (hcc.next hto3) (by simp) (by simp)
      simp
  have n6 : ¬ k = 6 := fun h => c6789 (.inl h)
  have n7 : ¬ k = 7 := fun h => c6789 (.inr (.inl h))
  have n8 : ¬ k = 8 := fun h => c6789 (.inr (.inr (.inl h)))
  have n9 : ¬ k = 9 := fun h => c6789 (.inr (.inr (.inr h)))
  by_cases c10 : k = 10 ∨ k = 11
  · rcases c10 with rfl | rfl
    all_goals
      simp [bz, dz]
      refine shut _ 6 0 (by omega) (by omega) ?_
      simp
  have n10 : ¬ k = 10 := fun h => c10 (.inl h)
  have n11 : ¬ k = 11 := fun h => c10 (.inr h)
  by_cases c12 : k = 12
  · subst c12
    simp [bz, dz]
    refine shut _ 10 _ (by omega) (by omega) ?_
    simp
  by_cases c13 : k = 13
  · subst c13
    simp
    have hcL := hto2.2.app [some ⟨3, .wr, [encI 4, encI 5, encI 11]⟩]
    simp only [encI] at hcL
    refine stpL_runs (l1PickInt (xs := [4, 5, 11]) hcL (Sl.of (by simp [encI])) (by simp) (by simp)) ?_
    rintro _ H3 ⟨⟨z, rfl, hz⟩, hto3⟩
    have hto3 := hto3.base
    have bz3 := hto3.1.blk bz (by simp; omega)
    have dz3 := blkAt_len bz3
    simp [bz3, dz3]
    refine fin _ _ ⟨z, _, ⟨0, 0, ⟨0, 0, 0, 0⟩, 0, false⟩⟩ _ rfl ?_ dz3 (hcc.next hto3) (by simp at hz; simp only; omega) (by simp at hz; simp only; omega)
    simp
  by_cases c14 : k = 14
  · subst c14
    simp [bz, dz]
    refine shut _ 7 _ (by omega) (by omega) ?_
    simp
  by_cases c15 : k = 15
  · subst c15
    simp [bz, dz]
    refine shut _ 8 _ (by omega) (by omega) ?_
    simp
  by_cases c16 : k = 16
  · subst c16
    simp [bz, dz]
    refine shut _ 9 _ (by omega) (by omega) ?_
    simp
  · simp [n0, n1, n2, n3, n4, n5, n6, n7, n8, n9, n10, n11, c12, c13, c14, c15, c16, bz, dz]
    refine shut _ 12 _ (by omega) (by omega) ?_
    simp

theorem l15DrawRun {H : Heap} {c n : Nat} (hc : Cur H c n) (most : Int) (hm0 : 0 ≤ most) (hm1 : most ≤ 1000) : Runs env 180 [.ptr c 0 0, .int most] H fun v H' => (∃ (l : List Lf) (x : Box) (fp : List Nat) (q : Lf) (ds : List Deed) (fd : List Nat) (l2 : List Lf) (y : Box) (fp2 : List Nat), v = .tup [.agg l, .lf q, .agg l2] ∧ IsBox H' l x fp ∧ IsDeedS H' q ds fd ∧ IsBox H' l2 y fp2 ∧ x.ok = true ∧ y.ok = true ∧ (boxNew x.id x.ports).2 = true ∧ ds.length ≤ most ∧ (∀ i ∈ fp, H.length ≤ i) ∧ (∀ i ∈ fd, H.length ≤ i) ∧ (∀ i ∈ fp2, H.length ≤ i) ∧ (∀ i ∈ fp2, i ∉ fd) ∧ ∀ i ∈ fp, i ∉ fd ∧ i ∉ fp2) ∧ CurTo H H' c n := by
  have hcl := hc.lt
  refine Runs.walk ok180 Try.func180 rfl (by simp [Try.f180]) fun Q hQ => ?_
  simp only [Try.f180, strip, stripL, stripI, stripG, chkT, tagsB, tagsL, tagD, addT, tagA, lookN, tagOp, elmT, ty22, ty24, ty33, ty40, ty44, ty54, ty55, ty63, ty171, ty175, ty176, ty183, Nat.reduceEqDiff, if_false, reduceIte, Option.getD_some, Option.getD_none, dstAt, dstOk, Nat.reduceLT, decide_true, if_true]
  obtain ⟨X, hX⟩ : ∃ X : Heap, X = H ++ [some ⟨178, .wr, [[.i .i64 0, .i .i64 0, .i .i64 0, .i .i64 0, .i .i64 0, .sl none 0, .sl none 0, .sl none 0, .sl none 0, .sl none 0]]⟩, some ⟨178, .wr, [[.i .i64 0, .i .i64 0, .i .i64 0, .i .i64 0, .i .i64 0, .sl none 0, .sl none 0, .sl none 0, .sl none 0, .sl none 0]]⟩] := ⟨_, rfl⟩
  have bzX : blkAt X H.length = some ⟨178, .wr, [[.i .i64 0, .i .i64 0, .i .i64 0, .i .i64 0, .i .i64 0, .sl none 0, .sl none 0, .sl none 0, .sl none 0, .sl none 0]]⟩ := by rw [hX]; simp
  have bwX : blkAt X (H.length + 1) = some ⟨178, .wr, [[.i .i64 0, .i .i64 0, .i .i64 0, .i .i64 0, .i .i64 0, .sl none 0, .sl none 0, .sl none 0, .sl none 0, .sl none 0]]⟩ := by rw [hX]; simp
  have hcX : CurTo H X c n := by rw [hX]; exact (CurTo.refl hc).app _
  simp
  rw [← hX]
  have hlX : X.length = H.length + 2 := by rw [hX]; simp
  clear hX
  refine stpL_runs (l1Below hcX.2 5) ?_
  rintro _ H1 ⟨⟨a, rfl, ha0, ha1, -⟩, hto1⟩
  simp
  refine stpL_runs (l1Below hto1.2 4) ?_
  rintro _ H2 ⟨⟨b, rfl, hb0, hb1, -⟩, hto2⟩
  have hto := hto1.next hto2
  have w1 : IntKind.i64.wrap (1 + a) = 1 + a := wrap64 (by omega) (by omega)
  have w2 : IntKind.i64.wrap (1 + b) = 1 + b := wrap64 (by omega) (by omega)
  simp [w1, w2]
  refine stpL_runs (specBoxNew_is (1 + a) (by unfold I64; omega) (1 + b) (by unfold I64; omega)) ?_
  rintro _ _ ⟨l1, f1, rfl, o1, ⟨⟨G3, rfl⟩, hf1⟩⟩
  have hbn : (bridgeNew (1 + a) (1 + b)).2 = true := by unfold bridgeNew; rw [if_pos (by simp; omega)]
  have hbx : boxNew (1 + a) (1 + b) = (⟨1 + a, 1 + b, ⟨1, 0, 0⟩, [newM0, newM1], [], List.replicate (1 + b).toNat false, [], []⟩, true) := by simp [boxNew, hbn]
  have hx0 := boxNew_ok hbn
  have hxid : (boxNew (boxNew (1 + a) (1 + b)).1.id (boxNew (1 + a) (1 + b)).1.ports).2 = true := by rw [hbx]; simp only; rw [hbx]
  rw [show (boxNew (1 + a) (1 + b)).1 = (⟨1 + a, 1 + b, ⟨1, 0, 0⟩, [newM0, newM1], [], List.replicate (1 + b).toNat false, [], []⟩ : Box) by rw [hbx]] at o1 hxid
  obtain ⟨x0, hx0d⟩ : ∃ x0 : Box, x0 = ⟨1 + a, 1 + b, ⟨1, 0, 0⟩, [newM0, newM1], [], List.replicate (1 + b).toNat false, [], []⟩ := ⟨_, rfl⟩
  rw [← hx0d] at o1 hx0 hxid
  have hs0 := (Box.smallOf hx0).1.sz
  have hL1 := o1.len
  have hT1 : l1.take l1.length = l1 := List.take_length
  rw [hL1] at hT1
  have hlt1 := o1.lt
  simp [hL1, hT1]
  have o1a := o1.app [some ⟨178, .wr, [l1]⟩]
  have hcp := specCopyBox o1a.rd (by omega)
  rw [List.append_assoc] at hcp o1a
  refine stpL_runs hcp ?_
  rintro _ _ ⟨l2, f2, rfl, o2, ⟨⟨G4, rfl⟩, hf2⟩⟩
  have hL2 := o2.len
  have hT2 : l2.take l2.length = l2 := List.take_length
  rw [hL2] at hT2
  have hlt2 := o2.lt
  simp [hL2, hT2]
  obtain ⟨K7, hK7⟩ : ∃ K, K = H2.length + G3.length := ⟨_, rfl⟩
  obtain ⟨K9, hK9⟩ : ∃ K, K = H2.length + (G3.length + (G4.length + 1)) := ⟨_, rfl⟩
  obtain ⟨KD, hKD⟩ : ∃ K, K = H2.length + (G3.length + (G4.length + 2)) := ⟨_, rfl⟩
  obtain ⟨Y, hY⟩ : ∃ Y : Heap, Y = H2 ++ (G3 ++ some ⟨178, .wr, [l1]⟩ :: (G4 ++ [some ⟨178, .wr, [l2]⟩, some ⟨191, .wr, []⟩])) := ⟨_, rfl⟩
  have h2l : H.length + 2 ≤ H2.length := by have := hto.len; omega
  have y7 : blkAt Y K7 = some ⟨178, .wr, [l1]⟩ := by rw [hY, hK7]; simp
  have y9 : blkAt Y K9 = some ⟨178, .wr, [l2]⟩ := by rw [hY, hK9]; simp
  have yD : blkAt Y KD = some ⟨191, .wr, []⟩ := by rw [hY, hKD]; simp
  have oy1 : IsBox Y l1 x0 f1 := by
    have := o1a.app (G4 ++ [some ⟨178, .wr, [l2]⟩, some ⟨191, .wr, []⟩])
    simp only [List.append_assoc, List.cons_append, List.nil_append] at this
    rw [hY]; exact this
  have oy2 : IsBox Y l2 x0 f2 := by
    have := o2.app [some ⟨178, .wr, [l2]⟩, some ⟨191, .wr, []⟩]
    simp only [List.append_assoc, List.cons_append, List.nil_append] at this
    rw [hY]; exact this
  have hcY : CurTo H Y c n := by rw [hY]; exact (hcX.next hto).app _
  have bz2 := hto.1.blk bzX (by simp; omega)
  have bw2 := hto.1.blk bwX (by simp; omega)
  have bzY := (show blkAt Y H.length = blkAt H2 H.length by rw [hY]; exact blkAt_lt (blkAt_len bz2) _).trans bz2
  have bwY := (show blkAt Y (H.length + 1) = blkAt H2 (H.length + 1) by rw [hY]; exact blkAt_lt (blkAt_len bw2) _).trans bw2
  have hf1Y : ∀ k ∈ f1, H.length + 2 ≤ k ∧ k ≠ K7 ∧ k ≠ K9 ∧ k < K7 := fun k hk => by have := hf1 k hk; have := hlt1 k hk; simp at this; omega
  have hf2Y : ∀ k ∈ f2, H.length + 2 ≤ k ∧ k ≠ K7 ∧ k ≠ K9 ∧ K7 < k ∧ k < K9 := fun k hk => by have h1 := hf2 k hk; have h2 := hlt2 k hk; simp at h1 h2; omega
  have oD : IsDeedS Y (.sl (some (KD, 0)) 0) [] [KD] := ⟨some (KD, 0), rfl, Own.of yD⟩
  rw [← hY, ← hK7, ← hK9, ← hKD]
  have hKs : H.length + 2 ≤ K7 ∧ K7 < K9 ∧ K9 < KD := by omega
  clear hY hK7 hK9 hKD o1 o1a o2 hf1 hf2 hlt1 hlt2 hcp
  have hwm : IntKind.i64.wrap (most + 1) = most + 1 := wrap64 (by omega) (by omega)
  simp [hwm]
  refine stpL_runs (l1Below hcY.2 (most + 1)) ?_
  rintro _ S ⟨⟨nn, rfl, hn0, hn1, -⟩, htoS⟩
  have hnm := hn1 (by omega)
  obtain ⟨N, rfl⟩ : ∃ N : Nat, nn = (N : Int) := ⟨nn.toNat, by omega⟩
  have no : ∀ i, H.length ≤ i → i ∉ [c] := fun i hi hj => by simp at hj; omega
  have s7 := htoS.1.blk y7 (no _ (by omega))
  have s9 := htoS.1.blk y9 (no _ (by omega))
  have bzS := htoS.1.blk bzY (no _ (by omega))
  have bwS := htoS.1.blk bwY (no _ (by omega))
  have os1 := oy1.keep htoS.1 (fun k hk => no k (by have := hf1Y k hk; omega))
  have os2 := oy2.keep htoS.1 (fun k hk => no k (by have := hf2Y k hk; omega))
  have oDS := oD.keep htoS.1 (fun k hk => no k (by simp at hk; omega))
  have hcS := hcY.next htoS
  clear y7 y9 yD oy1 oy2 oD bzY bwY htoS hcY
  simp
  refine wpS_loop (fun j tm H' => ∃ (i : Nat) (l : List Lf) (y : Box) (f : List Nat) (q : Lf) (ds : List Deed) (fd : List Nat), i + j = N ∧ tm 0 = .ptr c 0 0 ∧ tm 4 = .ptr H.length 0 0 ∧ tm 6 = .ptr (H.length + 1) 0 0 ∧ tm 7 = .ptr K7 0 0 ∧ tm 9 = .ptr K9 0 0 ∧ tm 10 = .w (.lf q) ∧ tm 11 = .int N ∧ tm 12 = .int i ∧ blkAt H' K7 = some ⟨178, .wr, [l1]⟩ ∧ IsBox H' l1 x0 f1 ∧ blkAt H' K9 = some ⟨178, .wr, [l]⟩ ∧ IsBox H' l y f ∧ y.ok = true ∧ IsDeedS H' q ds fd ∧ ds.length = i ∧ CurTo H H' c n ∧ blkAt H' H.length = some ⟨178, .wr, [[.i .i64 0, .i .i64 0, .i .i64 0, .i .i64 0, .i .i64 0, .sl none 0, .sl none 0, .sl none 0, .sl none 0, .sl none 0]]⟩ ∧ blkAt H' (H.length + 1) = some ⟨178, .wr, [[.i .i64 0, .i .i64 0, .i .i64 0, .i .i64 0, .i .i64 0, .sl none 0, .sl none 0, .sl none 0, .sl none 0, .sl none 0]]⟩ ∧ (∀ k ∈ f, K7 < k ∧ k ≠ K9) ∧ (∀ k ∈ fd, K9 < k) ∧ ∀ k ∈ f, k ∉ fd) N (by rw [env_K]; omega)
    ⟨0, l2, x0, f2, .sl (some (KD, 0)) 0, [], [KD], by simp, by simp, by simp, by simp, by simp, by simp, by simp, by simp, by simp, s7, os1, s9, os2, hx0, oDS, rfl, hcS, bzS, bwS, fun k hk => by have := hf2Y k hk; omega, by simp; omega, fun k hk hk2 => by have := hf2Y k hk; simp at hk2; omega⟩ ?_
  rintro j tm A hj ⟨i, l, y, f, q, ds, fd, hij, t0, t4, t6, t7, t9, t10, t11, t12, a7, oa1, a9, oa, hyok, oq, hdl, hcA, bzA, bwA, hfa, hfda, hdj⟩ Q2 hn2 he2 hr2
  have hL := oa.len
  have hT : l.take l.length = l := List.take_length
  rw [hL] at hT
  have hD10 : l.drop 10 = [] := by rw [← hL]; exact List.drop_length
  have d7 := blkAt_len a7
  have d9 := blkAt_len a9
  have hysz := (Box.smallOf hyok).1
  have hysz2 := hysz.sz
  simp [t12, t11]
  refine selS_intro (fun hc1 => ?_) (fun hc1 => ?_)
  · simp at hc1
    have hw : IntKind.i64.wrap ((i : Int) + 1) = (i : Int) + 1 := wrap64 (by omega) (by omega)
    simp [t0, t9, a9, d9, hL, hT]
    refine stpL_runs (l15DrawDeed hcA.2 oa.rd (by have := hysz.net; omega)) ?_
    rintro _ B ⟨⟨d, rfl, hd1, hd2⟩, htoB⟩
    have b7 := htoB.1.blk a7 (no _ (by omega))
    have b9 := htoB.1.blk a9 (no _ (by omega))
    have bzB := htoB.1.blk bzA (no _ (by omega))
    have bwB := htoB.1.blk bwA (no _ (by omega))
    have ob1 := oa1.keep htoB.1 (fun k hk => no k (by have := hf1Y k hk; omega))
    have ob := oa.keep htoB.1 (fun k hk => no k (by have := hfa k hk; omega))
    have oqB := oq.keep htoB.1 (fun k hk => no k (by have := hfda k hk; omega))
    have hcB := hcA.next htoB
    have hAB := htoB.len
    have d9B := blkAt_len b9
    clear oa oa1 oq a7 a9 bzA bwA htoB hcA
    obtain ⟨aq, rfl, owq⟩ := oqB
    simp [Deed.enc, t10]
    refine stpL_append (e := 191) (rows := ds.map Deed.enc) (ys := [d.enc]) (owq.app _) (Sl.of (by simp [Deed.enc])) rfl rfl rfl (by simp) (by simp; omega) (by simp) rfl fun aa C fc hoC hkC hfC => ?_
    have kC : Keep fd B C := hkC.base
    have hltq := owq.lt
    have c13 : blkAt C B.length = some ⟨191, .wr, [[.i .i64 d.kind, .i .i64 d.a, .i .i64 d.inn.kind, .i .i64 d.inn.port, .i .i64 d.inn.vec.root, .i .i64 d.inn.vec.cost, .i .i64 d.inn.vec.bridge, .i .i64 d.inn.vec.port, .i .i64 d.inn.hops, .b d.inn.up]]⟩ := hkC.blk (by simp) (fun h => by have := hltq _ h; omega)
    have c7 := kC.blk b7 (fun h => by have := hfda _ h; omega)
    have c9 := kC.blk b9 (fun h => by have := hfda _ h; omega)
    have bzC := kC.blk bzB (fun h => by have := hfda _ h; omega)
    have bwC := kC.blk bwB (fun h => by have := hfda _ h; omega)
    have oc1 := ob1.keep kC (fun k hk h => by have := hfda _ h; have := hf1Y k hk; omega)
    have oc := ob.keep kC hdj
    have hcC := hcB.own kC (fun k hk => by have := hfda k hk; omega) hcl
    have hBC := kC.1
    have hltb := ob.lt
    have hfc : ∀ k ∈ fc, K9 < k ∧ (k ∈ fd ∨ B.length ≤ k) := fun k hk => by
      rcases hfC k hk with h | h
      · exact ⟨hfda k h, .inl h⟩
      · simp at h; exact ⟨by omega, .inr (by omega)⟩
    have hqC : IsDeedS C (.sl aa (ds.length + 1)) (ds ++ [d]) fc := ⟨aa, by simp, by simpa using hoC⟩
    have d9C := blkAt_len c9
    have d13 := blkAt_len c13
    have hdjC : ∀ k ∈ f, k ∉ fc := fun k hk h => by
      rcases (hfc k h).2 with h | h
      · exact hdj k hk h
      · have := hltb k hk; omega
    have h49 : (H.length != K9) = true := by simp; omega
    simp [t4, t9, c9, d9C, hL, hT, h49]
    refine stpL_runs_f (specCopyBox oc.rd (by omega)) (by rintro _ _ ⟨_, _, _, _, hf⟩; exact hf.1) ?_
    rintro _ _ ⟨l4, f4, rfl, o4, ⟨⟨G4', rfl⟩, hf4⟩⟩
    have h15 := l15One o4 hysz hyok d ⟨hd1, hd2⟩
    simp only [Deed.enc] at h15
    have c13A := blkAt_app c13 G4'
    have d13A : B.length < C.length + G4'.length := by omega
    simp [c13A, d13A]
    refine stpL_runs_w h15 rfl (by rintro _ _ ⟨_, _, _, _, hk, _⟩; have := hk.1; exact this) ?_
    rintro _ D ⟨l5, rfl, bv⟩
    obtain ⟨f5, o5, k5, hf5⟩ := bv
    obtain ⟨z, hz⟩ : ∃ z, z = (deedD y d).1 := ⟨_, rfl⟩
    obtain ⟨cd, hcd⟩ : ∃ cd, cd = (deedD y d).2 := ⟨_, rfl⟩
    have hzs := (deedD_small hyok d).sz
    rw [← hz] at hzs o5
    rw [← hcd]
    have kD : Keep [] C D := (Keep.app [] C G4').next k5 (fun i hi => hf4 i hi)
    have hCD := kD.1
    have e7 := kD.blk c7 (by simp)
    have e9 := kD.blk c9 (by simp)
    have bzD := kD.blk bzC (by simp)
    have bwD := kD.blk bwC (by simp)
    have od1 := oc1.keep kD (by simp)
    have od := oc.keep kD (by simp)
    have hqD := hqC.keep kD (by simp)
    have hcD := hcC.own kD (by simp) hcl
    have hf5' : ∀ k ∈ f5, C.length ≤ k := fun k hk => by
      rcases hf5 k hk with h | h
      · exact hf4 k h
      · rw [List.length_append] at h; omega
    have hL5 := o5.len
    have hT5 : l5.take l5.length = l5 := List.take_length
    rw [hL5] at hT5
    have d9D := blkAt_len e9
    have hltc := hqC.lt
    have e2 := fun G => specBoxOk_is (o5.app G).rd (by omega)
    have o5A := fun G => o5.app G
    have next : ∀ (tm2 : Ab.T), tm2 0 = .ptr c 0 0 → tm2 4 = .ptr H.length 0 0 → tm2 6 = .ptr (H.length + 1) 0 0 → tm2 7 = .ptr K7 0 0 → tm2 9 = .ptr K9 0 0 → tm2 10 = .w (.lf (.sl aa (ds.length + 1))) → tm2 11 = .int N → tm2 12 = .int ((i : Int) + 1) → ∀ G, Q2 .normal tm2 (D ++ G) := by
      intro tm2 s0 s4 s6 s7 s9 s10 s11 s12 G
      refine hn2 (j - 1) _ _ (by omega) ⟨i + 1, l, y, f, _, ds ++ [d], fc, by omega, s0, s4, s6, s7, s9, s10, s11, by simpa using s12, blkAt_app e7 G, od1.app G, blkAt_app e9 G, od.app G, hyok, hqD.app G, by simp [hdl], hcD.app G, blkAt_app bzD G, blkAt_app bwD G, hfa, fun k hk => (hfc k hk).1, hdjC⟩
    have step : ∀ (tm2 : Ab.T), z.ok = true → tm2 0 = .ptr c 0 0 → tm2 4 = .ptr H.length 0 0 → tm2 6 = .ptr (H.length + 1) 0 0 → tm2 7 = .ptr K7 0 0 → tm2 9 = .ptr K9 0 0 → tm2 10 = .w (.lf (.sl aa (ds.length + 1))) → tm2 11 = .int N → tm2 12 = .int ((i : Int) + 1) → ∀ G, Q2 .normal tm2 ((D ++ G).set K9 (some ⟨178, .wr, [l5]⟩)) := by
      intro tm2 hzok s0 s4 s6 s7 s9 s10 s11 s12 G
      have ks := Keep.set (id := K9) (D ++ G) (some ⟨178, .wr, [l5]⟩)
      have ne9 : ∀ i, i ≠ K9 → i ∉ [K9] := fun i hi hj => hi (by simpa using hj)
      refine hn2 (j - 1) _ _ (by omega) ⟨i + 1, l5, z, f5, _, ds ++ [d], fc, by omega, s0, s4, s6, s7, s9, s10, s11, by simpa using s12, ks.blk (blkAt_app e7 G) (ne9 _ (by omega)), (od1.app G).keep ks (fun k hk => ne9 k (by have := hf1Y k hk; omega)), blkAt_set (by simp; omega), (o5.app G).keep ks (fun k hk => ne9 k (by have := hf5' k hk; omega)), hzok, (hqD.app G).keep ks (fun k hk => ne9 k (by have := (hfc k hk).1; omega)), by simp [hdl], (hcD.app G).set (by omega) (by omega) _, ks.blk (blkAt_app bzD G) (ne9 _ (by omega)), ks.blk (blkAt_app bwD G) (ne9 _ (by omega)), fun k hk => by have := hf5' k hk; omega, fun k hk => (hfc k hk).1, fun k hk h => ?_⟩
      have h1 := hltc k h
      have h2 := hf5' k hk
      omega
    simp [hL5, hT5]
    by_cases hc0 : cd = 0
    · simp [hc0, hL5, hT5, e2]
      cases hzok : z.ok
      · simp [t12, hw]
        refine next _ ?_ ?_ ?_ ?_ ?_ ?_ ?_ ?_ _
        all_goals simp [t0, t4, t6, t7, t9, t11]
      · have e9A := fun G => blkAt_app e9 G
        have g9 : K9 < D.length + 1 := by omega
        simp [t9, e9A, g9, hL, hD10, hL5, hT5, t12, hw]
        refine step _ hzok ?_ ?_ ?_ ?_ ?_ ?_ ?_ ?_ _
        all_goals simp [t0, t4, t6, t7, t9, t11]
    · simp [hc0, t12, hw]
      refine next _ ?_ ?_ ?_ ?_ ?_ ?_ ?_ ?_ _
      all_goals simp [t0, t4, t6, t7, t9, t11]
  · simp at hc1
    simp
    refine he2 _ _ _ ?_
    have h49 : (H.length != K9) = true := by simp; omega
    have h4a : ¬ H.length = K7 := by omega
    have dzA := blkAt_len bzA
    have dwA := blkAt_len bwA
    have hsw : ∀ y : Option Blk, blkAt (A.set H.length y) (H.length + 1) = blkAt A (H.length + 1) := fun y => blkAt_set_ne (by omega)
    simp [t4, t6, t7, t9, t10, a7, d7, a9, d9, hL1, hT1, hL, hT, h49, bzA, dzA, bwA, dwA, hsw]
    refine hQ _ _ _ (by simp) ?_
    obtain ⟨HF, hHF⟩ : ∃ HF : Heap, HF = (A.set H.length (some ⟨178, .wr, [l1]⟩)).set (H.length + 1) (some ⟨178, .wr, [l]⟩) := ⟨_, rfl⟩
    have kF : Keep [H.length, H.length + 1] A HF := by
      rw [hHF]
      exact (Keep.set _ _).trans (Keep.set _ _) (fun i hi _ => by simp at hi; simp [hi]) (fun i hi _ => by simp at hi; simp [hi])
    have nF : ∀ k, H.length + 2 ≤ k → k ∉ [H.length, H.length + 1] := fun k hk h => by simp at h; omega
    have f4 : blkAt HF H.length = some ⟨178, .wr, [l1]⟩ := by rw [hHF, blkAt_set_ne (by omega)]; exact blkAt_set dzA
    have f6 : blkAt HF (H.length + 1) = some ⟨178, .wr, [l]⟩ := by rw [hHF]; exact blkAt_set (by simpa using dwA)
    have of1 := oa1.keep kF (fun k hk => nF k (by have := hf1Y k hk; omega))
    have of2 := oa.keep kF (fun k hk => nF k (by have := hfa k hk; omega))
    have oqF := oq.keep kF (fun k hk => nF k (by have := hfda k hk; omega))
    have hcF : CurTo H HF c n := by rw [hHF]; exact (hcA.set (by omega) (by omega) _).set (by omega) (by omega) _
    have hil : i = N := by omega
    rw [← hHF]
    obtain ⟨aq, rfl, owq⟩ := oqF
    simp [Try.f180, f4, f6, hL1, hT1, hL, hT, t4, t6, -Int.ofNat_le]
    refine ⟨?_, hcF.leave hc _⟩
    rcases leave_opt H HF [W.agg l1, W.lf (.sl aq ds.length), W.agg l] with e | ⟨e, hr⟩ <;> rw [e]
    · refine ⟨l1, x0, f1, _, ds, fd, l, ⟨rfl, rfl, rfl⟩, of1, ⟨aq, rfl, owq⟩, y, f, of2, hx0, hyok, hxid, by omega, fun k hk => by have := hf1Y k hk; omega, fun k hk => by have := hfda k hk; omega, fun k hk => by have := hfa k hk; omega, hdj, fun k hk => ⟨fun h => by have := hfda k h; have := hf1Y k hk; omega, fun h => by have := hfa k h; have := hf1Y k hk; omega⟩⟩
    · simp at hr
      refine ⟨l1, x0, [], _, ds, [], l, ⟨rfl, rfl, rfl⟩, of1.free (by simpa using hr.1) H, (IsSl.free ⟨aq, rfl, owq⟩ hr.2.1 H), y, [], of2.free (by simpa using hr.2.2) H, hx0, hyok, hxid, by omega, by simp, by simp, by simp, by simp, by simp⟩

theorem l15DrawRight {H : Heap} {c n : Nat} (hc : Cur H c n) : Runs env 170 [.ptr c 0 0] H fun v H' => (∃ (l : List Lf) (x : Box) (fp : List Nat), v = .agg l ∧ IsBox H' l x fp ∧ x.ok = true ∧ ∀ i ∈ fp, H.length ≤ i) ∧ CurTo H H' c n := by
  have hcl := hc.lt
  refine Runs.walk ok170 Try.func170 rfl (by simp [Try.f170]) fun Q hQ => ?_
  simp only [Try.f170, strip, stripL, stripI, stripG, chkT, tagsB, tagsL, tagD, addT, tagA, lookN, tagOp, elmT, ty22, ty24, ty33, ty40, ty44, ty54, ty55, ty63, ty171, ty175, ty176, ty183, Nat.reduceEqDiff, if_false, reduceIte, Option.getD_some, Option.getD_none, dstAt, dstOk, Nat.reduceLT, decide_true, if_true]
  have hcX := hc.app [some ⟨178, .wr, [[.i .i64 0, .i .i64 0, .i .i64 0, .i .i64 0, .i .i64 0, .sl none 0, .sl none 0, .sl none 0, .sl none 0, .sl none 0]]⟩]
  simp
  refine stpL_runs (l15DrawRun hcX 50 (by omega) (by omega)) ?_
  rintro _ S ⟨⟨l1, x, f1, q, ds, fd, l2, y, f2, rfl, o1, oq, o2, hx, hy, hxn, hln, hf1, hfd, hf2, -, -⟩, hto⟩
  have bz := hto.1.blk (id := H.length) (b := ⟨178, .wr, [[.i .i64 0, .i .i64 0, .i .i64 0, .i .i64 0, .i .i64 0, .sl none 0, .sl none 0, .sl none 0, .sl none 0, .sl none 0]]⟩) (by simp) (by simp; omega)
  have hL1 := o1.len
  have hT1 : l1.take l1.length = l1 := List.take_length
  rw [hL1] at hT1
  have hL2 := o2.len
  have hT2 : l2.take l2.length = l2 := List.take_length
  rw [hL2] at hT2
  have hl := hto.len
  simp at hl
  have hlt2 := o2.lt
  have bzA := fun G => blkAt_app bz G
  have g1 : H.length < S.length + (1 + 1) := by omega
  have g2 : H.length < S.length + 2 := by omega
  simp [hL1, hT1, hL2, hT2, bzA, g1, g2, -set_lt]
  refine hQ _ _ _ (by simp) ?_
  obtain ⟨HF, hHF⟩ : ∃ HF : Heap, HF = List.set (S ++ [some ⟨178, .wr, [l1]⟩, some ⟨178, .wr, [l2]⟩] : Heap) H.length (some ⟨178, .wr, [l2]⟩) := ⟨_, rfl⟩
  have f0 : blkAt HF H.length = some ⟨178, .wr, [l2]⟩ := by rw [hHF]; exact blkAt_set (by simp; omega)
  have hcF : CurTo H HF c n := by rw [hHF]; exact ((hto.base).app _).set (by omega) (by omega) _
  have oF : IsBox HF l2 y f2 := by rw [hHF]; exact (o2.app _).keep (Keep.set _ _) (fun k hk h => by have := hf2 k hk; simp at h this; omega)
  rw [← hHF]
  simp [Try.f170, f0, hL2, hT2]
  refine ⟨?_, hcF.leave hc _⟩
  rcases leave_opt H HF [W.agg l2] with e | ⟨e, hr⟩ <;> rw [e]
  · exact ⟨y, f2, oF, hy, fun k hk => by have := hf2 k hk; simp at this; omega⟩
  · exact ⟨y, [], oF.free (by simpa using hr) H, hy, by simp⟩

theorem l12DrawRight {H : Heap} {c n : Nat} (hc : Cur H c n) : Runs env 168 [.ptr c 0 0] H fun v H' => (∃ (l : List Lf) (m : Minder) (fp : List Nat), v = .agg l ∧ IsMinder H' l m fp ∧ m.ok = true ∧ ∀ i ∈ fp, H.length ≤ i) ∧ CurTo H H' c n := by
  have hcl := hc.lt
  refine Runs.walk ok168 Try.func168 rfl (by simp [Try.f168]) fun Q hQ => ?_
  simp only [Try.f168, strip, stripL, stripI, stripG, chkT, tagsB, tagsL, tagD, addT, tagA, lookN, tagOp, elmT, ty22, ty24, ty33, ty40, ty44, ty54, ty55, ty63, ty171, ty175, ty176, ty183, Nat.reduceEqDiff, if_false, reduceIte, Option.getD_some, Option.getD_none, dstAt, dstOk, Nat.reduceLT, decide_true, if_true]
  have hcX := hc.app [some ⟨80, .wr, [[.b false, .i .i64 0, .i .i64 0, .sl none 0, .i .i64 0, .i .i64 0, .i .i64 0]]⟩]
  simp
  refine stpL_runs (l15DrawRight hcX) ?_
  rintro _ S ⟨⟨l, x, fp, rfl, ox, hx, hfp⟩, hto⟩
  have bz := hto.1.blk (id := H.length) (b := ⟨80, .wr, [[.b false, .i .i64 0, .i .i64 0, .sl none 0, .i .i64 0, .i .i64 0, .i .i64 0]]⟩) (by simp) (by simp; omega)
  have hL := ox.len
  have h2 := (Box.right hx).two
  obtain ⟨q0, q1, q2, q3, q4, f0, f1, f2, f3, f4, rfl, ⟨a, rows, fp0, fps, rfl, ho, hp, rfl, hnd0⟩, -, -, -, -, rfl, -⟩ := ox
  have hl := hto.len
  simp at hl
  simp [Box.enc, fieldV, env_P, Try.underlying178]
  refine stpL_runs (l1Below hto.2 2) ?_
  rintro _ T ⟨⟨k, rfl, hk0, hk1, -⟩, hto2⟩
  have hk2 := hk1 (by omega)
  obtain ⟨k, rfl⟩ : ∃ k' : Nat, k = (k' : Int) := ⟨k.toNat, by omega⟩
  have hkl : k < x.two.length := by omega
  obtain ⟨g1, g2, hM⟩ := hp.get hkl
  obtain ⟨id, bl, rfl, rfl, hb, hbe, hbm, hpre⟩ := ho.blk (by rintro rfl; simp at g1)
  obtain ⟨tl, htl⟩ := hpre
  have hrow : bl.rows[k]? = some rows[k] := by rw [← htl, List.getElem?_append_left g1, List.getElem?_eq_getElem g1]
  have no : ∀ i, H.length ≤ i → i ∉ [c] := fun i hi hj => by simp at hj; omega
  have hidH : H.length ≤ id := by have := hfp id (by simp); simp at this; omega
  have hbT := hto2.1.blk hb (no _ hidH)
  have dT := blkAt_len hbT
  have hMT := hM.keep hto2.1 (fun i hi => no i (by have := hfp i (by simp only [List.mem_append]; exact .inl (.inr (flat_mem (List.getElem?_eq_getElem g2) hi))); simp at this; omega))
  have mok := (Box.right hx).ok _ (List.getElem_mem hkl)
  have hms : x.two[k].sz ≤ 1048576 := by simp [Minder.ok, logOk] at mok; unfold Minder.sz; omega
  have hLr := hMT.len
  have hTr : rows[k].take rows[k].length = rows[k] := List.take_length
  rw [hLr] at hTr
  have hkI : (k : Int) < x.two.length := by omega
  have hkI0 : (0 : Int) ≤ k := by omega
  simp [indexAddrV, elemIs, hbT, dT, hbe, hkl, hkI, hrow, hLr, hTr]
  refine stpL_runs (specCopyM hMT.rd hms) ?_
  rintro _ _ ⟨l5, f5, rfl, o5, ⟨⟨G5, rfl⟩, hf5⟩⟩
  have bz2 := hto2.1.blk bz (no _ (by omega))
  have bz3 := blkAt_app bz2 G5
  have d3 := blkAt_len bz3
  have hL5 := o5.len
  have hT5 : l5.take l5.length = l5 := List.take_length
  rw [hL5] at hT5
  have hlT := hto2.len
  have d3' : H.length < T.length + G5.length := by simpa using d3
  simp [bz3, d3', hL5, hT5, -set_lt]
  refine hQ _ _ _ (by simp) ?_
  obtain ⟨HF, hHF⟩ : ∃ HF : Heap, HF = List.set (T ++ G5) H.length (some ⟨80, .wr, [l5]⟩) := ⟨_, rfl⟩
  have f0' : blkAt HF H.length = some ⟨80, .wr, [l5]⟩ := by rw [hHF]; exact blkAt_set d3
  have hcF : CurTo H HF c n := by rw [hHF]; exact ((hto.base.next hto2).app _).set (by omega) (by omega) _
  have oF := o5.keep (Keep.set (id := H.length) (T ++ G5) (some ⟨80, .wr, [l5]⟩)) (fun i hi h => by have := hf5 i hi; simp at h; omega)
  rw [← hHF] at oF ⊢
  simp [Try.f168, f0', hL5, hT5]
  refine ⟨?_, hcF.leave hc _⟩
  rcases leave_opt H HF [W.agg l5] with e | ⟨e, hr⟩ <;> rw [e]
  · exact ⟨x.two[k], f5, oF, mok, fun i hi => by have := hf5 i hi; omega⟩
  · exact ⟨x.two[k], [], oF.free (by simpa using hr) H, mok, by simp⟩

theorem l12Draw {H : Heap} {c n : Nat} (hc : Cur H c n) : Runs env 132 [.ptr c 0 0] H fun v H' => (∃ (l : List Lf) (m : Minder) (fp : List Nat), v = .agg l ∧ IsMinder H' l m fp ∧ m.sz ≤ 100 ∧ I64 m.ackLife ∧ ∀ i ∈ fp, H.length ≤ i) ∧ CurTo H H' c n := by
  have hcl := hc.lt
  refine Runs.walk ok132 Try.func132 rfl (by simp [Try.f132]) fun Q hQ => ?_
  simp only [Try.f132, strip, stripL, stripI, stripG, chkT, tagsB, tagsL, tagD, addT, tagA, lookN, tagOp, elmT, ty22, ty24, ty33, ty40, ty44, ty54, ty55, ty63, ty171, ty175, ty176, ty183, Nat.reduceEqDiff, if_false, reduceIte, Option.getD_some, Option.getD_none, dstAt, dstOk, Nat.reduceLT, decide_true, if_true]
  have fin : ∀ (HF : Heap) (tm : Ab.T) (x : Minder) (a : Option (Nat × Nat)) (fp : List Nat), tm 2 = .ptr H.length 0 0 → blkAt HF H.length = some ⟨80, .wr, [x.enc a]⟩ → Own HF 30 a (x.log.map In.enc) fp → x.sz ≤ 100 → I64 x.ackLife → (∀ i ∈ fp, H.length ≤ i) → CurTo H HF c n → Q .ret tm HF := by
    intro HF tm x a fp t2 hb ho hs hak hf hto
    refine hQ _ _ _ (by simp) ?_
    have hres : resT env.τ tm HF (Try.f132.results.toList) = some [W.agg (x.enc a)] := by simp [Try.f132, t2, hb, Minder.enc]
    rw [hres, optK_some]
    refine ⟨?_, hto.leave hc _⟩
    have oF : IsMinder HF (x.enc a) x fp := ⟨a, rfl, ho⟩
    rcases leave_opt H HF [W.agg (x.enc a)] with e | ⟨e, hr⟩ <;> rw [e]
    · exact ⟨_, x, fp, rfl, oF, hs, hak, hf⟩
    · exact ⟨_, x, [], rfl, oF.free (by simpa using hr) H, hs, hak, by simp⟩
  have hcX := hc.app [some ⟨80, .wr, [[.b false, .i .i64 0, .i .i64 0, .sl none 0, .i .i64 0, .i .i64 0, .i .i64 0]]⟩]
  have bzX : blkAt (H ++ [some ⟨80, .wr, [[.b false, .i .i64 0, .i .i64 0, .sl none 0, .i .i64 0, .i .i64 0, .i .i64 0]]⟩]) H.length = some ⟨80, .wr, [[.b false, .i .i64 0, .i .i64 0, .sl none 0, .i .i64 0, .i .i64 0, .i .i64 0]]⟩ := by simp
  have hlX : (H ++ [some ⟨80, .wr, [[.b false, .i .i64 0, .i .i64 0, .sl none 0, .i .i64 0, .i .i64 0, .i .i64 0]]⟩] : Heap).length = H.length + 1 := by simp
  simp
  refine stpL_runs (l12DrawRight hcX) ?_
  rintro _ H1 ⟨⟨l, m, fp, rfl, ⟨a, rfl, ow⟩, mok, hfp⟩, hto1⟩
  have hms : m.log.length ≤ 60 := by simp [Minder.ok, logOk] at mok; omega
  have hakm : I64 m.ackLife := by simp [Minder.ok] at mok; unfold I64; omega
  have bz1 := hto1.1.blk bzX (by simp; omega)
  have dz1 := blkAt_len bz1
  have hcc1 := hto1.base
  have hl1 := hto1.len
  have hlt1 := ow.lt
  rw [hlX] at hl1 hfp
  simp [Minder.enc]
  have hcM := hto1.2.app [some ⟨80, .wr, [[.b m.up, .i .i64 m.life, .i .i64 m.epoch, .sl a m.log.length, .i .i64 m.said, .i .i64 m.acked, .i .i64 m.ackLife]]⟩]
  refine stpL_runs (l1Below hcM 10) ?_
  rintro _ H2 ⟨⟨k, rfl, -⟩, hto2⟩
  have b3 : blkAt H2 H1.length = some ⟨80, .wr, [[.b m.up, .i .i64 m.life, .i .i64 m.epoch, .sl a m.log.length, .i .i64 m.said, .i .i64 m.acked, .i .i64 m.ackLife]]⟩ := hto2.1.blk (by simp) (by simp; omega)
  have bz2 := hto2.1.blk (blkAt_app bz1 _) (by simp; omega)
  have d3 := blkAt_len b3
  have dz2 := blkAt_len bz2
  have hcc2 := hcc1.next hto2.base
  have no : ∀ i ∈ fp, i ∉ [c] := fun i hi h => by have := hfp i hi; simp at h; omega
  have ow2 := (ow.app [some ⟨80, .wr, [[.b m.up, .i .i64 m.life, .i .i64 m.epoch, .sl a m.log.length, .i .i64 m.said, .i .i64 m.acked, .i .i64 m.ackLife]]⟩]).keep hto2.1 no
  have hl2 := hto2.len
  simp at hl2
  have hne3 : ∀ (Y : Heap) (y : Option Blk), blkAt (List.set Y H1.length y) H.length = blkAt Y H.length := fun Y y => blkAt_set_ne (by omega)
  have hne4 : ∀ (Y : Heap) (y : Blk), H1.length < Y.length → blkAt (List.set Y H1.length (some y)) H1.length = some y := fun Y y h => blkAt_set h
  have kp : ∀ (Y : Heap) (y z : Option Blk), Own Y 30 a (m.log.map In.enc) fp → Own ((List.set Y H1.length y).set H.length z) 30 a (m.log.map In.enc) fp := fun Y y z h =>
    (h.keep (Keep.set (id := H1.length) Y y) (fun i hi h => by have := hlt1 i hi; simp at h; omega)).keep (Keep.set (id := H.length) _ z) (fun i hi h => by have := hfp i hi; simp at h; omega)
  have kp1 : ∀ (Y : Heap) (z : Option Blk), Own Y 30 a (m.log.map In.enc) fp → Own (Y.set H.length z) 30 a (m.log.map In.enc) fp := fun Y z h =>
    h.keep (Keep.set (id := H.length) _ z) (fun i hi h => by have := hfp i hi; simp at h; omega)
  have hf' : ∀ i ∈ fp, H.length ≤ i := fun i hi => by have := hfp i hi; omega
  by_cases c0 : k = 0
  · simp [c0, b3, d3, bz2, dz2, hne3, hne4]
    refine fin _ _ ⟨!m.up, m.life, m.epoch, m.log, m.said, m.acked, m.ackLife⟩ a fp ?_ (blkAt_set (Nat.lt_of_lt_of_eq dz2 (List.length_set).symm)) (kp _ _ _ ow2) (by simp [Minder.sz]; omega) hakm hf' ((hcc2.set (by omega) (by omega) _).set (by omega) (by omega) _)
    simp
  by_cases c1 : k = 1
  · simp [c1]
    refine stpL_runs (l1Below hto2.2 9) ?_
    rintro _ H3 ⟨⟨y, rfl, -⟩, hto3⟩
    have b33 := hto3.1.blk b3 (by simp; omega)
    have bz3 := hto3.1.blk bz2 (by simp; omega)
    have ow3 := ow2.keep hto3.1 no
    have d33 := blkAt_len b33
    have dz3 := blkAt_len bz3
    have hcc3 := hcc2.next hto3
    simp [b33, d33, bz3, dz3, hne3, hne4]
    refine fin _ _ ⟨m.up, m.life, m.epoch, m.log, IntKind.i64.wrap (y - 1), m.acked, m.ackLife⟩ a fp ?_ (blkAt_set (Nat.lt_of_lt_of_eq dz3 (List.length_set).symm)) (kp _ _ _ ow3) (by simp [Minder.sz]; omega) hakm hf' ((hcc3.set (by omega) (by omega) _).set (by omega) (by omega) _)
    simp
  by_cases c2 : k = 2
  · simp [c2]
    refine stpL_runs (l1Below hto2.2 9) ?_
    rintro _ H3 ⟨⟨y, rfl, -⟩, hto3⟩
    have b33 := hto3.1.blk b3 (by simp; omega)
    have bz3 := hto3.1.blk bz2 (by simp; omega)
    have ow3 := ow2.keep hto3.1 no
    have d33 := blkAt_len b33
    have dz3 := blkAt_len bz3
    have hcc3 := hcc2.next hto3
    simp [b33, d33, bz3, dz3, hne3, hne4]
    refine fin _ _ ⟨m.up, m.life, m.epoch, m.log, m.said, IntKind.i64.wrap (y - 1), m.ackLife⟩ a fp ?_ (blkAt_set (Nat.lt_of_lt_of_eq dz3 (List.length_set).symm)) (kp _ _ _ ow3) (by simp [Minder.sz]; omega) hakm hf' ((hcc3.set (by omega) (by omega) _).set (by omega) (by omega) _)
    simp
  by_cases c3 : k = 3
  · simp [c3, b3, d3]
    refine stpL_cur (l8DrawBent hto2.2) hto2.2 (fun v H' h => h.2) ?_
    rintro _ H3 ⟨⟨y, rfl⟩, hto3⟩
    have b33 := hto3.1.blk b3 (by simp; omega)
    have bz3 := hto3.1.blk bz2 (by simp; omega)
    have ow3 := ow2.keep hto3.1 no
    have hcc3 := hcc2.next hto3
    have hl3 := hto3.len
    simp [In.enc]
    refine stpL_append (e := 30) (rows := m.log.map In.enc) (ys := [y.enc]) (ow3.app _) (Sl.of (by simp [In.enc])) rfl rfl rfl (by simp) (by simp; omega) (by simp) rfl fun aa C fc hoC hkC hfC => ?_
    have kC : Keep fp H3 C := hkC.base
    have hC := kC.1
    have bC := kC.blk b33 (fun h => by have := hlt1 _ h; omega)
    have bzC := kC.blk bz3 (fun h => by have := hfp _ h; omega)
    have dC := blkAt_len bC
    have dzC := blkAt_len bzC
    have hcC := hcc3.own kC (fun k hk => by have := hfp k hk; omega) hcl
    have hfc : ∀ i ∈ fc, H.length < i ∧ i ≠ H1.length := fun i hi => by
      rcases hfC i hi with h | h
      · exact ⟨by have := hfp i h; omega, by have := hlt1 i h; omega⟩
      · simp at h; omega
    simp [bC, dC, bzC, dzC, hne3, hne4]
    refine fin _ _ ⟨m.up, m.life, m.epoch, m.log ++ [y], m.said, m.acked, m.ackLife⟩ aa fc ?_ (by simp [Minder.enc]; exact blkAt_set (Nat.lt_of_lt_of_eq dzC (List.length_set).symm)) ?_ (by simp [Minder.sz]; omega) hakm (fun i hi => by have := hfc i hi; omega) ((hcC.set (by omega) (by omega) _).set (by omega) (by omega) _)
    · simp
    · simp only [List.map_append, List.map_cons, List.map_nil]
      exact (hoC.keep (Keep.set (id := H1.length) C _) (fun i hi h => by have := hfc i hi; simp at h; omega)).keep (Keep.set (id := H.length) _ _) (fun i hi h => by have := hfc i hi; simp at h; omega)
  by_cases c4 : k = 4
  · simp [c4]
    have hcL := hto2.2.app [some ⟨3, .wr, [encI (-1), encI 0, encI 1, encI 100001]⟩]
    simp only [encI] at hcL
    refine stpL_runs (l1PickInt (xs := [(-1), 0, 1, 100001]) hcL (Sl.of (by simp [encI])) (by simp) (by simp)) ?_
    rintro _ H3 ⟨⟨y, rfl, -⟩, hto3⟩
    have hto3 := hto3.base
    have b33 := hto3.1.blk b3 (by simp; omega)
    have bz3 := hto3.1.blk bz2 (by simp; omega)
    have ow3 := ow2.keep hto3.1 no
    have d33 := blkAt_len b33
    have dz3 := blkAt_len bz3
    have hcc3 := hcc2.next hto3
    simp [b33, d33, bz3, dz3, hne3, hne4]
    refine fin _ _ ⟨m.up, m.life, y, m.log, m.said, m.acked, m.ackLife⟩ a fp ?_ (blkAt_set (Nat.lt_of_lt_of_eq dz3 (List.length_set).symm)) (kp _ _ _ ow3) (by simp [Minder.sz]; omega) hakm hf' ((hcc3.set (by omega) (by omega) _).set (by omega) (by omega) _)
    simp
  simp [c0, c1, c2, c3, c4, b3, d3, bz2, dz2]
  refine fin _ _ m a fp ?_ (blkAt_set dz2) (kp1 _ _ ow2) (by simp [Minder.sz]; omega) hakm hf' (hcc2.set (by omega) (by omega) _)
  simp

theorem l13DrawReg {H : Heap} {c n : Nat} (hc : Cur H c n) : Runs env 141 [.ptr c 0 0] H fun v H' => (∃ x : Reg, v = .agg x.enc) ∧ CurTo H H' c n := by
  have hcl := hc.lt
  refine Runs.walk ok141 Try.func141 rfl (by simp [Try.f141]) fun Q hQ => ?_
  simp only [Try.f141, strip, stripL, stripI, stripG, chkT, tagsB, tagsL, tagD, addT, tagA, lookN, tagOp, elmT, ty22, ty24, ty33, ty40, ty44, ty54, ty55, ty63, ty171, ty175, ty176, ty183, Nat.reduceEqDiff, if_false, reduceIte, Option.getD_some, Option.getD_none, dstAt, dstOk, Nat.reduceLT, decide_true, if_true]
  have fin : ∀ (HF : Heap) (tm : Ab.T) (x : Reg), tm 2 = .ptr (H.length) 0 0 → blkAt HF (H.length) = some ⟨92, .wr, [x.enc]⟩ → CurTo H HF c n → Q .ret tm HF := by
    intro HF tm x t2 hb hto
    refine hQ _ _ _ (by simp) ?_
    have hres : resT env.τ tm HF (Try.f141.results.toList) = some [W.agg x.enc] := by simp [Try.f141, t2, hb, Reg.enc]
    rw [hres, optK_some]
    exact ⟨⟨x, rfl⟩, hto.leave hc _⟩
  have hcX := hc.app [some ⟨92, .wr, [[.i .i64 0, .i .i64 0, .i .i64 0]]⟩]
  have bzX : blkAt (H ++ [some ⟨92, .wr, [[.i .i64 0, .i .i64 0, .i .i64 0]]⟩]) H.length = some ⟨92, .wr, [[.i .i64 0, .i .i64 0, .i .i64 0]]⟩ := by simp
  have hlX : (H ++ [some ⟨92, .wr, [[.i .i64 0, .i .i64 0, .i .i64 0]]⟩] : Heap).length = H.length + 1 := by simp
  simp
  refine stpL_runs (l15DrawRight hcX) ?_
  rintro _ H1 ⟨⟨l, x, fp, rfl, ox, -, -⟩, hto1⟩
  obtain ⟨q0, q1, q2, q3, q4, f0, f1, f2, f3, f4, rfl, -⟩ := ox
  obtain ⟨r, hr⟩ : ∃ r, r = x.reg := ⟨_, rfl⟩
  have bz1 := hto1.1.blk bzX (by simp; omega)
  have dz1 := blkAt_len bz1
  have hcc1 := hto1.base
  have hl1 := hto1.len
  rw [hlX] at hl1
  simp [Box.enc, fieldV, env_P, Try.underlying178, ← hr]
  have hcM := hto1.2.app [some ⟨92, .wr, [[.i .i64 r.epoch, .i .i64 r.owner, .i .i64 r.pair]]⟩]
  refine stpL_runs (l1Below hcM 10) ?_
  rintro _ H2 ⟨⟨k, rfl, -⟩, hto2⟩
  have b3 : blkAt H2 H1.length = some ⟨92, .wr, [[.i .i64 r.epoch, .i .i64 r.owner, .i .i64 r.pair]]⟩ := hto2.1.blk (by simp) (by simp; omega)
  have bz2 := hto2.1.blk (blkAt_app bz1 _) (by simp; omega)
  have d3 := blkAt_len b3
  have dz2 := blkAt_len bz2
  have hcc2 := hcc1.next hto2.base
  have hne3 : ∀ (Y : Heap) (y : Option Blk), blkAt (List.set Y H1.length y) H.length = blkAt Y H.length := fun Y y => blkAt_set_ne (by omega)
  have hne4 : ∀ (Y : Heap) (y : Blk), H1.length < Y.length → blkAt (List.set Y H1.length (some y)) H1.length = some y := fun Y y h => blkAt_set h
  by_cases c0 : k = 0
  · simp [c0]
    have hcL := hto2.2.app [some ⟨3, .wr, [encI 0, encI 1, encI 100000, encI 100001]⟩]
    simp only [encI] at hcL
    refine stpL_runs (l1PickInt (xs := [0, 1, 100000, 100001]) hcL (Sl.of (by simp [encI])) (by simp) (by simp)) ?_
    rintro _ H3 ⟨⟨y, rfl, -⟩, hto3⟩
    have hto3 := hto3.base
    have b33 := hto3.1.blk b3 (by simp; omega)
    have bz3 := hto3.1.blk bz2 (by simp; omega)
    have d33 := blkAt_len b33
    have dz3 := blkAt_len bz3
    have hcc3 := hcc2.next hto3
    simp [b33, d33, bz3, dz3, hne3, hne4, Reg.enc]
    refine fin _ _ ⟨y, r.owner, r.pair⟩ ?_ (blkAt_set (Nat.lt_of_lt_of_eq dz3 (List.length_set).symm)) ((hcc3.set (by omega) (by omega) _).set (by omega) (by omega) _)
    simp
  by_cases c1 : k = 1
  · simp [c1]
    refine stpL_runs (l1Below hto2.2 4) ?_
    rintro _ H3 ⟨⟨y, rfl, -⟩, hto3⟩
    have b33 := hto3.1.blk b3 (by simp; omega)
    have bz3 := hto3.1.blk bz2 (by simp; omega)
    have d33 := blkAt_len b33
    have dz3 := blkAt_len bz3
    have hcc3 := hcc2.next hto3
    simp [b33, d33, bz3, dz3, hne3, hne4, Reg.enc]
    refine fin _ _ ⟨r.epoch, IntKind.i64.wrap (y - 1), r.pair⟩ ?_ (blkAt_set (Nat.lt_of_lt_of_eq dz3 (List.length_set).symm)) ((hcc3.set (by omega) (by omega) _).set (by omega) (by omega) _)
    simp
  by_cases c2 : k = 2
  · simp [c2]
    have hcL := hto2.2.app [some ⟨3, .wr, [encI (-1), encI 0, encI 1, encI 2]⟩]
    simp only [encI] at hcL
    refine stpL_runs (l1PickInt (xs := [(-1), 0, 1, 2]) hcL (Sl.of (by simp [encI])) (by simp) (by simp)) ?_
    rintro _ H3 ⟨⟨y, rfl, -⟩, hto3⟩
    have hto3 := hto3.base
    have b33 := hto3.1.blk b3 (by simp; omega)
    have bz3 := hto3.1.blk bz2 (by simp; omega)
    have d33 := blkAt_len b33
    have dz3 := blkAt_len bz3
    have hcc3 := hcc2.next hto3
    simp [b33, d33, bz3, dz3, hne3, hne4, Reg.enc]
    refine fin _ _ ⟨r.epoch, r.owner, y⟩ ?_ (blkAt_set (Nat.lt_of_lt_of_eq dz3 (List.length_set).symm)) ((hcc3.set (by omega) (by omega) _).set (by omega) (by omega) _)
    simp
  simp [c0, c1, c2, b3, d3, bz2, dz2]
  refine fin _ _ r ?_ (blkAt_set dz2) (hcc2.set (by omega) (by omega) _)
  simp

theorem l13DrawOf {H : Heap} {c n : Nat} (hc : Cur H c n) : Runs env 139 [.ptr c 0 0] H fun v H' => (∃ (r : Reg) (s : Int) (l : List Lf) (m : Minder) (fp : List Nat), v = .tup [.agg r.enc, .lf (.i .i64 s), .agg l] ∧ IsMinder H' l m fp ∧ m.sz ≤ 100 ∧ I64 m.ackLife ∧ I64 s ∧ -1 ≤ s ∧ s ≤ 2 ∧ ∀ i ∈ fp, H.length ≤ i) ∧ CurTo H H' c n := by
  have hcl := hc.lt
  refine Runs.walk ok139 Try.func139 rfl (by simp [Try.f139]) fun Q hQ => ?_
  simp only [Try.f139, strip, stripL, stripI, stripG, chkT, tagsB, tagsL, tagD, addT, tagA, lookN, tagOp, elmT, ty22, ty24, ty33, ty40, ty44, ty54, ty55, ty63, ty171, ty175, ty176, ty183, Nat.reduceEqDiff, if_false, reduceIte, Option.getD_some, Option.getD_none, dstAt, dstOk, Nat.reduceLT, decide_true, if_true]
  obtain ⟨X, hX⟩ : ∃ X : Heap, X = H ++ [some ⟨92, .wr, [[.i .i64 0, .i .i64 0, .i .i64 0]]⟩, some ⟨80, .wr, [[.b false, .i .i64 0, .i .i64 0, .sl none 0, .i .i64 0, .i .i64 0, .i .i64 0]]⟩] := ⟨_, rfl⟩
  have bz : blkAt X H.length = some ⟨92, .wr, [[.i .i64 0, .i .i64 0, .i .i64 0]]⟩ := by rw [hX]; simp
  have bm : blkAt X (H.length + 1) = some ⟨80, .wr, [[.b false, .i .i64 0, .i .i64 0, .sl none 0, .i .i64 0, .i .i64 0, .i .i64 0]]⟩ := by rw [hX]; simp
  have hlX : X.length = H.length + 2 := by rw [hX]; simp
  have hcX : CurTo H X c n := by rw [hX]; exact (CurTo.refl hc).app _
  have fin : ∀ (Y HF : Heap) (tm : Ab.T) (r : Reg) (s : Int) (l : List Lf) (m : Minder) (fp : List Nat), HF = (Y.set H.length (some ⟨92, .wr, [r.enc]⟩)).set (H.length + 1) (some ⟨80, .wr, [l]⟩) → H.length + 1 < Y.length → tm 2 = .ptr H.length 0 0 → tm 3 = .int s → tm 4 = .ptr (H.length + 1) 0 0 → IsMinder Y l m fp → m.sz ≤ 100 → I64 m.ackLife → -1 ≤ s → s ≤ 2 → (∀ i ∈ fp, H.length + 2 ≤ i) → CurTo H Y c n → Q .ret tm HF := by
    intro Y HF tm r s l m fp hHF hYl t2 t3 t4 om hms hak hs1 hs2 hfp hto
    have kF : Keep [H.length, H.length + 1] Y HF := by
      rw [hHF]
      exact (Keep.set _ _).trans (Keep.set _ _) (fun i hi _ => by simp at hi; simp [hi]) (fun i hi _ => by simp at hi; simp [hi])
    have b2 : blkAt HF H.length = some ⟨92, .wr, [r.enc]⟩ := by rw [hHF, blkAt_set_ne (by omega)]; exact blkAt_set (by omega)
    have b4 : blkAt HF (H.length + 1) = some ⟨80, .wr, [l]⟩ := by rw [hHF]; exact blkAt_set (by simpa using hYl)
    have oF := om.keep kF (fun i hi h => by have := hfp i hi; simp at h; omega)
    have htoF : CurTo H HF c n := by rw [hHF]; exact (hto.set (by omega) (by omega) _).set (by omega) (by omega) _
    have hL := oF.len
    have hT : l.take l.length = l := List.take_length
    rw [hL] at hT
    refine hQ _ _ _ (by simp) ?_
    have hres : resT env.τ tm HF (Try.f139.results.toList) = some [W.agg r.enc, W.lf (.i .i64 s), W.agg l] := by simp [Try.f139, t2, t3, t4, b2, b4, hL, hT, Reg.enc]
    rw [hres, optK_some]
    refine ⟨?_, htoF.leave hc _⟩
    have hs64 : I64 s := by unfold I64; omega
    rcases leave_opt H HF [W.agg r.enc, W.lf (.i .i64 s), W.agg l] with e | ⟨e, hr⟩ <;> rw [e]
    · exact ⟨r, s, l, m, fp, rfl, oF, hms, hak, hs64, hs1, hs2, fun i hi => by have := hfp i hi; omega⟩
    · simp only [List.all_cons, Bool.and_eq_true] at hr
      exact ⟨r, s, l, m, [], rfl, oF.free hr.2.2.1 H, hms, hak, hs64, hs1, hs2, by simp⟩
  simp
  rw [← hX]
  clear hX
  refine stpL_runs (l1Once hcX.2 4) ?_
  rintro _ A ⟨⟨b, rfl⟩, htoA⟩
  have hcA := hcX.next htoA
  have bzA := htoA.1.blk bz (by simp; omega)
  have bmA := htoA.1.blk bm (by simp; omega)
  have nzA := blkAt_len bmA
  have hAl := htoA.len
  cases b
  rotate_left
  · simp
    refine stpL_runs (l13DrawReg htoA.2) ?_
    rintro _ B ⟨⟨r, rfl⟩, htoB⟩
    have hcB := hcA.next htoB
    have bzB := htoB.1.blk bzA (by simp; omega)
    have bmB := htoB.1.blk bmA (by simp; omega)
    simp [Reg.enc]
    obtain ⟨B1, hB1⟩ : ∃ B1 : Heap, B1 = B ++ [some ⟨92, .wr, [[.i .i64 r.epoch, .i .i64 r.owner, .i .i64 r.pair]]⟩] := ⟨_, rfl⟩
    have hcB1 : CurTo H B1 c n := by rw [hB1]; exact hcB.app _
    have bzB1 := blkAt_app bzB [some ⟨92, .wr, [[.i .i64 r.epoch, .i .i64 r.owner, .i .i64 r.pair]]⟩]
    have bmB1 := blkAt_app bmB [some ⟨92, .wr, [[.i .i64 r.epoch, .i .i64 r.owner, .i .i64 r.pair]]⟩]
    rw [← hB1] at bzB1 bmB1 ⊢
    refine stpL_cur (l1Below hcB1.2 4) hcB1.2 (fun v H' h => h.2) ?_
    rintro _ C ⟨⟨u, rfl, hu0, hu1, -⟩, htoC⟩
    have hu := hu1 (by omega)
    have w1 : IntKind.i64.wrap (u - 1) = u - 1 := wrap64 (by omega) (by omega)
    have bzC := htoC.1.blk bzB1 (by simp; omega)
    have bmC := htoC.1.blk bmB1 (by simp; omega)
    have hcC := hcB1.next htoC
    simp [w1]
    refine stpL_cur (l12Draw htoC.2) htoC.2 (fun v H' h => h.2) ?_
    rintro _ D ⟨⟨l, m, fp, rfl, om, hms, hak, hfp⟩, htoD⟩
    have bzD := htoD.1.blk bzC (by simp; omega)
    have bmD := htoD.1.blk bmC (by simp; omega)
    have nz := blkAt_len bzD
    have nm := blkAt_len bmD
    have nC := blkAt_len bmC
    have hL := om.len
    have hT : l.take l.length = l := List.take_length
    rw [hL] at hT
    have hsw : ∀ y : Option Blk, blkAt (D.set H.length y) (H.length + 1) = blkAt D (H.length + 1) := fun y => blkAt_set_ne (by omega)
    simp [bzD, nz, hsw, bmD, nm, hL, hT, -set_lt]
    refine fin D _ _ r (u - 1) l m fp rfl (by omega) ?_ ?_ ?_ om hms hak (by omega) (by omega) (fun i hi => by have := hfp i hi; omega) (hcC.next htoD)
    all_goals simp
  simp
  refine stpL_runs (l15DrawRight htoA.2) ?_
  rintro _ B ⟨⟨l, x, fp, rfl, ox, hx, hfp⟩, htoB⟩
  have hcB := hcA.next htoB
  have bzB := htoB.1.blk bzA (by simp; omega)
  have bmB := htoB.1.blk bmA (by simp; omega)
  have hL := ox.len
  have hT : l.take l.length = l := List.take_length
  rw [hL] at hT
  have hBl := htoB.len
  simp [hL, hT]
  obtain ⟨B1, hB1⟩ : ∃ B1 : Heap, B1 = B ++ [some ⟨178, .wr, [l]⟩] := ⟨_, rfl⟩
  have b6 : blkAt B1 B.length = some ⟨178, .wr, [l]⟩ := by rw [hB1]; simp
  have hcB1 : CurTo H B1 c n := by rw [hB1]; exact hcB.app _
  have bzB1 := blkAt_app bzB [some ⟨178, .wr, [l]⟩]
  have bmB1 := blkAt_app bmB [some ⟨178, .wr, [l]⟩]
  have oxB := ox.app [some ⟨178, .wr, [l]⟩]
  rw [← hB1] at bzB1 bmB1 oxB ⊢
  refine stpL_runs (l1Below hcB1.2 2) ?_
  rintro _ C ⟨⟨k, rfl, hk0, hk1, -⟩, htoC⟩
  have hk := hk1 (by omega)
  obtain ⟨k, rfl⟩ : ∃ k' : Nat, k = (k' : Int) := ⟨k.toNat, by omega⟩
  have bzC := htoC.1.blk bzB1 (by simp; omega)
  have bmC := htoC.1.blk bmB1 (by simp; omega)
  have b6C := htoC.1.blk b6 (by simp; omega)
  have hcC := hcB1.next htoC
  have no : ∀ i ∈ fp, i ∉ [c] := fun i hi h => by have := hfp i hi; simp at h; omega
  have oxC := (oxB.keep htoC.1 no).rd
  have h2 := (Box.right hx).two
  obtain ⟨q0, q1, q2, q3, q4, rfl, ⟨a0, rws, rfl, hrs, hlen, hat⟩, -⟩ := oxC
  have hkl : k < x.two.length := by omega
  have hkr : k < rws.length := by omega
  obtain ⟨id1, r1, bl1, rfl, hbl1, hbe1, hrow1⟩ := hrs k _ (List.getElem?_eq_getElem hkr)
  have hM := hat k _ _ (List.getElem?_eq_getElem hkr) (List.getElem?_eq_getElem hkl)
  have hLM := hM.len
  have hTM : rws[k].take rws[k].length = rws[k] := List.take_length
  rw [hLM] at hTM
  have n1 := blkAt_len hbl1
  have n6 := blkAt_len b6C
  have hkI : (k : Int) < x.two.length := by omega
  have mok := (Box.right hx).ok _ (List.getElem_mem hkl)
  have hms : x.two[k].sz ≤ 100 := by simp [Minder.ok, logOk] at mok; unfold Minder.sz; omega
  have hak : I64 x.two[k].ackLife := by simp [Minder.ok] at mok; unfold I64; omega
  simp only [Box.enc] at b6C
  simp [b6C, n6, indexAddrV, elemIs, hbl1, n1, hbe1, hkl, hkI, hrow1, hLM, hTM]
  refine stpL_runs_f (specCopyM hM (by omega)) (by rintro _ _ ⟨_, _, _, _, hf⟩; exact hf.1) ?_
  rintro _ _ ⟨l5, f5, rfl, o5, ⟨⟨G5, rfl⟩, hf5⟩⟩
  have hL5 := o5.len
  have hT5 : l5.take l5.length = l5 := List.take_length
  rw [hL5] at hT5
  obtain ⟨D, hD⟩ : ∃ D : Heap, D = C ++ G5 := ⟨_, rfl⟩
  have bzD := blkAt_app bzC G5
  have bmD := blkAt_app bmC G5
  rw [← hD] at bzD bmD o5 ⊢
  have nz := blkAt_len bzD
  have nm := blkAt_len bmD
  have nC := blkAt_len bmC
  have hcD : CurTo H D c n := by rw [hD]; exact hcC.app _
  have hsw : ∀ y : Option Blk, blkAt (D.set H.length y) (H.length + 1) = blkAt D (H.length + 1) := fun y => blkAt_set_ne (by omega)
  have b6D : ∀ G, blkAt (C ++ G) B.length = _ := fun G => blkAt_app b6C G
  simp [bzD, nz, hsw, bmD, nm, hL5, hT5, -set_lt]
  refine fin D _ _ x.reg k l5 x.two[k] f5 rfl (by omega) ?_ ?_ ?_ o5 hms hak (by omega) (by omega) (fun i hi => by have := hf5 i hi; omega) hcD
  all_goals simp

theorem drawRegOk {H : Heap} {a : Option (Nat × Nat)} {bs : List Int} (hs : Sl H 5 a (bs.map encU)) (hn : bs.length ≤ 1048576) : Runs env 78 [.w (.lf (.sl a bs.length))] H fun v H' => (∃ r : Reg, v = .agg r.enc) ∧ Keep [] H H' := by
  refine Runs.walk ok78 Try.func78 rfl (by simp [Try.f78]) fun Q hQ => ?_
  simp only [Try.f78, strip, stripL, stripI, stripG, chkT, tagsB, tagsL, tagD, addT, tagA, lookN, tagOp, elmT, ty22, ty24, ty33, ty40, ty44, ty54, ty55, ty63, ty171, ty175, ty176, ty183, Nat.reduceEqDiff, if_false, reduceIte, Option.getD_some, Option.getD_none, dstAt, dstOk, Nat.reduceLT, decide_true, if_true]
  obtain ⟨X0, hX0⟩ : ∃ X0 : Heap, X0 = H ++ [some ⟨92, .wr, [[.i .i64 0, .i .i64 0, .i .i64 0]]⟩] := ⟨_, rfl⟩
  have bz0 : blkAt X0 H.length = some ⟨92, .wr, [[.i .i64 0, .i .i64 0, .i .i64 0]]⟩ := by rw [hX0]; simp
  have k0 : Keep [] H X0 := by rw [hX0]; exact Keep.app _ _ _
  have hl0 : X0.length = H.length + 1 := by rw [hX0]; simp
  have hs0 : Sl X0 5 a (bs.map encU) := by rw [hX0]; exact hs.app _
  simp
  rw [← hX0]
  refine stpL_runs (l1New hs0 hn) ?_
  rintro _ X ⟨c, rfl, hc, hcl, hk⟩
  have bz := hk.blk bz0 (by simp)
  simp
  refine stpL_runs (l13DrawReg hc) ?_
  rintro _ Y ⟨⟨r, rfl⟩, hto⟩
  have bz2 := hto.1.blk bz (fun h => by simp at h; omega)
  have hY := blkAt_len bz2
  simp [Reg.enc, bz2, hY, -set_lt]
  obtain ⟨HF, hHF⟩ : ∃ HF : Heap, HF = Y.set H.length (some ⟨92, .wr, [r.enc]⟩) := ⟨_, rfl⟩
  simp only [Reg.enc] at hHF
  rw [← hHF]
  have b2 : blkAt HF H.length = some ⟨92, .wr, [r.enc]⟩ := by rw [hHF]; exact blkAt_set hY
  have kF : Keep [H.length] Y HF := by rw [hHF]; exact Keep.set _ _
  have kA : Keep [] H HF := ((k0.next hk (by simp)).next hto.1 (by simp; omega)).next kF (by simp)
  have fin : ∀ (tm : Ab.T), tm 2 = .ptr H.length 0 0 → Q .ret tm HF := by
    intro tm s2
    refine hQ _ _ _ (by simp) ?_
    have hres : resT env.τ tm HF (Try.f78.results.toList) = some [W.agg r.enc] := by simp [Try.f78, s2, b2, Reg.enc]
    rw [hres, optK_some]
    refine ⟨⟨r, rfl⟩, ?_⟩
    rcases leave_opt H HF [W.agg r.enc] with e | ⟨e, hr⟩ <;> rw [e]
    · exact kA
    · exact Keep.refl _ _
  refine fin _ ?_
  simp

theorem drawMinds {H : Heap} {a : Option (Nat × Nat)} {bs : List Int} (hs : Sl H 5 a (bs.map encU)) (hn : bs.length ≤ 1048576) : Runs env 77 [.w (.lf (.sl a bs.length))] H fun v H' => (∃ (r : Reg) (s : Int) (l : List Lf) (m : Minder), v = .tup [.agg r.enc, .lf (.i .i64 s), .agg l] ∧ RdMinder H' l m ∧ m.sz ≤ 100 ∧ I64 s ∧ -1 ≤ s ∧ s ≤ 2) ∧ Keep [] H H' := by
  refine Runs.walk ok77 Try.func77 rfl (by simp [Try.f77]) fun Q hQ => ?_
  simp only [Try.f77, strip, stripL, stripI, stripG, chkT, tagsB, tagsL, tagD, addT, tagA, lookN, tagOp, elmT, ty22, ty24, ty33, ty40, ty44, ty54, ty55, ty63, ty171, ty175, ty176, ty183, Nat.reduceEqDiff, if_false, reduceIte, Option.getD_some, Option.getD_none, dstAt, dstOk, Nat.reduceLT, decide_true, if_true]
  obtain ⟨X0, hX0⟩ : ∃ X0 : Heap, X0 = H ++ [some ⟨92, .wr, [[.i .i64 0, .i .i64 0, .i .i64 0]]⟩, some ⟨80, .wr, [[.b false, .i .i64 0, .i .i64 0, .sl none 0, .i .i64 0, .i .i64 0, .i .i64 0]]⟩] := ⟨_, rfl⟩
  have bz0 : blkAt X0 H.length = some ⟨92, .wr, [[.i .i64 0, .i .i64 0, .i .i64 0]]⟩ := by rw [hX0]; simp
  have bm0 : blkAt X0 (H.length + 1) = some ⟨80, .wr, [[.b false, .i .i64 0, .i .i64 0, .sl none 0, .i .i64 0, .i .i64 0, .i .i64 0]]⟩ := by rw [hX0]; simp
  have k0 : Keep [] H X0 := by rw [hX0]; exact Keep.app _ _ _
  have hl0 : X0.length = H.length + 2 := by rw [hX0]; simp
  have hs0 : Sl X0 5 a (bs.map encU) := by rw [hX0]; exact hs.app _
  simp
  rw [← hX0]
  refine stpL_runs (l1New hs0 hn) ?_
  rintro _ X ⟨c, rfl, hc, hcl, hk⟩
  have bz := hk.blk bz0 (by simp)
  have bm := hk.blk bm0 (by simp)
  simp
  refine stpL_runs (l13DrawOf hc) ?_
  rintro _ Y ⟨⟨r, s, l, m, fp, rfl, om, hms, hak, hs64, hs1, hs2, hfp⟩, hto⟩
  have bz2 := hto.1.blk bz (fun h => by simp at h; omega)
  have bm2 := hto.1.blk bm (fun h => by simp at h; omega)
  have hL := om.len
  have hkl := hk.1
  have hcl2 := hc.lt
  have hYl := hto.len
  have hlt := om.lt
  have hYz := blkAt_len bm2
  obtain ⟨a3, rfl, ow⟩ := om
  simp [Reg.enc, Minder.enc]
  obtain ⟨T5, hT5⟩ : ∃ T5 : Heap, T5 = [some ⟨92, .wr, [[.i .i64 r.epoch, .i .i64 r.owner, .i .i64 r.pair]]⟩, some ⟨80, .wr, [[.b m.up, .i .i64 m.life, .i .i64 m.epoch, .sl a3 m.log.length, .i .i64 m.said, .i .i64 m.acked, .i .i64 m.ackLife]]⟩] := ⟨_, rfl⟩
  obtain ⟨Y1, hY1⟩ : ∃ Y1 : Heap, Y1 = Y ++ T5 := ⟨_, rfl⟩
  have b5 : blkAt Y1 Y.length = some ⟨92, .wr, [[.i .i64 r.epoch, .i .i64 r.owner, .i .i64 r.pair]]⟩ := by rw [hY1, hT5]; simp
  have b7 : blkAt Y1 (Y.length + 1) = some ⟨80, .wr, [[.b m.up, .i .i64 m.life, .i .i64 m.epoch, .sl a3 m.log.length, .i .i64 m.said, .i .i64 m.acked, .i .i64 m.ackLife]]⟩ := by rw [hY1, hT5]; simp
  have n5 := blkAt_len b5
  have n7 := blkAt_len b7
  have hc1 : Cur Y1 c bs.length := by rw [hY1]; exact hto.2.app _
  have bz3 := blkAt_app bz2 T5
  have bm3 := blkAt_app bm2 T5
  have ow1 := ow.app T5
  rw [← hY1] at bz3 bm3 ow1
  have kY1 : Keep [] H Y1 := by rw [hY1]; exact ((k0.next hk (by simp)).next hto.1 (by simp; omega)).trans (Keep.app [] Y _) (by simp) (by simp)
  have no : ∀ i ∈ fp, i ∉ [c] := fun i hi h => by have := hfp i hi; simp at h; omega
  have hf2 : ∀ i ∈ fp, H.length + 2 ≤ i := fun i hi => by have := hfp i hi; omega
  have fin : ∀ (Z HF : Heap) (tm : Ab.T) (R : Reg) (ow : Own Z 30 a3 (m.log.map In.enc) fp) (kZ : Keep [] H Z) , HF = (Z.set H.length (some ⟨92, .wr, [R.enc]⟩)).set (H.length + 1) (some ⟨80, .wr, [m.enc a3]⟩) → H.length + 1 < Z.length → tm 2 = .ptr H.length 0 0 → tm 3 = .int s → tm 4 = .ptr (H.length + 1) 0 0 → Q .ret tm HF := by
    intro Z HF tm R ow kZ  hHF hZl t2 t3 t4 
    have kF : Keep [H.length, H.length + 1] Z HF := by
      rw [hHF]
      exact (Keep.set _ _).trans (Keep.set _ _) (fun i hi _ => by simp at hi; simp [hi]) (fun i hi _ => by simp at hi; simp [hi])
    have kA : Keep [] H HF := kZ.next kF (by simp)
    have b2 : blkAt HF H.length = some ⟨92, .wr, [R.enc]⟩ := by rw [hHF, blkAt_set_ne (by omega)]; exact blkAt_set (by omega)
    have b4 : blkAt HF (H.length + 1) = some ⟨80, .wr, [m.enc a3]⟩ := by rw [hHF]; exact blkAt_set (by simpa using hZl)
    have oF := ow.keep kF (fun i hi h => by have := hf2 i hi; simp at h; omega)
    refine hQ _ _ _ (by simp) ?_
    have hres : resT env.τ tm HF (Try.f77.results.toList) = some [W.agg R.enc, W.lf (.i .i64 s), W.agg (m.enc a3)] := by simp [Try.f77, t2, t3, t4, b2, b4, Reg.enc, Minder.enc]
    rw [hres, optK_some]
    rcases leave_opt H HF [W.agg R.enc, W.lf (.i .i64 s), W.agg (m.enc a3)] with e | ⟨e, hr⟩ <;> rw [e]
    · exact ⟨⟨R, s, _, m, rfl, ⟨a3, rfl, oF.sl⟩, hms, hs64, hs1, hs2⟩, kA⟩
    · simp only [List.all_cons, Bool.and_eq_true] at hr
      exact ⟨⟨R, s, _, m, rfl, (IsMinder.free ⟨a3, rfl, oF⟩ hr.2.2.1 H).rd, hms, hs64, hs1, hs2⟩, Keep.refl _ _⟩
  have nz := blkAt_len bz3
  have nm := blkAt_len bm3
  have hsw : ∀ y : Option Blk, blkAt (Y1.set H.length y) (H.length + 1) = blkAt Y1 (H.length + 1) := fun y => blkAt_set_ne (by omega)
  rw [← hT5, ← hY1]
  simp [b5, b7, n5, n7, bz3, nz, hsw, bm3, nm, -set_lt]
  refine fin Y1 _ _ r ow1 kY1 rfl (by omega) ?_ ?_ ?_
  all_goals simp

theorem drawTake {H : Heap} {a : Option (Nat × Nat)} {bs : List Int} (hs : Sl H 5 a (bs.map encU)) (hn : bs.length ≤ 1048576) : Runs env 71 [.w (.lf (.sl a bs.length))] H fun v H' => (∃ (r : Reg) (s : Int) (l : List Lf) (m : Minder), v = .tup [.agg r.enc, .lf (.i .i64 s), .agg l] ∧ RdMinder H' l m ∧ m.sz ≤ 100 ∧ I64 s ∧ -1 ≤ s ∧ s ≤ 2) ∧ Keep [] H H' := by
  refine Runs.walk ok71 Try.func71 rfl (by simp [Try.f71]) fun Q hQ => ?_
  simp only [Try.f71, strip, stripL, stripI, stripG, chkT, tagsB, tagsL, tagD, addT, tagA, lookN, tagOp, elmT, ty22, ty24, ty33, ty40, ty44, ty54, ty55, ty63, ty171, ty175, ty176, ty183, Nat.reduceEqDiff, if_false, reduceIte, Option.getD_some, Option.getD_none, dstAt, dstOk, Nat.reduceLT, decide_true, if_true]
  obtain ⟨X0, hX0⟩ : ∃ X0 : Heap, X0 = H ++ [some ⟨92, .wr, [[.i .i64 0, .i .i64 0, .i .i64 0]]⟩, some ⟨80, .wr, [[.b false, .i .i64 0, .i .i64 0, .sl none 0, .i .i64 0, .i .i64 0, .i .i64 0]]⟩] := ⟨_, rfl⟩
  have bz0 : blkAt X0 H.length = some ⟨92, .wr, [[.i .i64 0, .i .i64 0, .i .i64 0]]⟩ := by rw [hX0]; simp
  have bm0 : blkAt X0 (H.length + 1) = some ⟨80, .wr, [[.b false, .i .i64 0, .i .i64 0, .sl none 0, .i .i64 0, .i .i64 0, .i .i64 0]]⟩ := by rw [hX0]; simp
  have k0 : Keep [] H X0 := by rw [hX0]; exact Keep.app _ _ _
  have hl0 : X0.length = H.length + 2 := by rw [hX0]; simp
  have hs0 : Sl X0 5 a (bs.map encU) := by rw [hX0]; exact hs.app _
  simp
  rw [← hX0]
  refine stpL_runs (l1New hs0 hn) ?_
  rintro _ X ⟨c, rfl, hc, hcl, hk⟩
  have bz := hk.blk bz0 (by simp)
  have bm := hk.blk bm0 (by simp)
  simp
  refine stpL_runs (l13DrawOf hc) ?_
  rintro _ Y ⟨⟨r, s, l, m, fp, rfl, om, hms, hak, hs64, hs1, hs2, hfp⟩, hto⟩
  have bz2 := hto.1.blk bz (fun h => by simp at h; omega)
  have bm2 := hto.1.blk bm (fun h => by simp at h; omega)
  have hL := om.len
  have hkl := hk.1
  have hcl2 := hc.lt
  have hYl := hto.len
  have hlt := om.lt
  have hYz := blkAt_len bm2
  obtain ⟨a3, rfl, ow⟩ := om
  simp [Reg.enc, Minder.enc]
  obtain ⟨T5, hT5⟩ : ∃ T5 : Heap, T5 = [some ⟨92, .wr, [[.i .i64 r.epoch, .i .i64 r.owner, .i .i64 r.pair]]⟩, some ⟨80, .wr, [[.b m.up, .i .i64 m.life, .i .i64 m.epoch, .sl a3 m.log.length, .i .i64 m.said, .i .i64 m.acked, .i .i64 m.ackLife]]⟩] := ⟨_, rfl⟩
  obtain ⟨Y1, hY1⟩ : ∃ Y1 : Heap, Y1 = Y ++ T5 := ⟨_, rfl⟩
  have b5 : blkAt Y1 Y.length = some ⟨92, .wr, [[.i .i64 r.epoch, .i .i64 r.owner, .i .i64 r.pair]]⟩ := by rw [hY1, hT5]; simp
  have b7 : blkAt Y1 (Y.length + 1) = some ⟨80, .wr, [[.b m.up, .i .i64 m.life, .i .i64 m.epoch, .sl a3 m.log.length, .i .i64 m.said, .i .i64 m.acked, .i .i64 m.ackLife]]⟩ := by rw [hY1, hT5]; simp
  have n5 := blkAt_len b5
  have n7 := blkAt_len b7
  have hc1 : Cur Y1 c bs.length := by rw [hY1]; exact hto.2.app _
  have bz3 := blkAt_app bz2 T5
  have bm3 := blkAt_app bm2 T5
  have ow1 := ow.app T5
  rw [← hY1] at bz3 bm3 ow1
  have kY1 : Keep [] H Y1 := by rw [hY1]; exact ((k0.next hk (by simp)).next hto.1 (by simp; omega)).trans (Keep.app [] Y _) (by simp) (by simp)
  have no : ∀ i ∈ fp, i ∉ [c] := fun i hi h => by have := hfp i hi; simp at h; omega
  have hf2 : ∀ i ∈ fp, H.length + 2 ≤ i := fun i hi => by have := hfp i hi; omega
  have fin : ∀ (Z HF : Heap) (tm : Ab.T) (R : Reg) (ow : Own Z 30 a3 (m.log.map In.enc) fp) (kZ : Keep [] H Z) , HF = (Z.set H.length (some ⟨92, .wr, [R.enc]⟩)).set (H.length + 1) (some ⟨80, .wr, [m.enc a3]⟩) → H.length + 1 < Z.length → tm 2 = .ptr H.length 0 0 → tm 3 = .int s → tm 4 = .ptr (H.length + 1) 0 0 → Q .ret tm HF := by
    intro Z HF tm R ow kZ  hHF hZl t2 t3 t4 
    have kF : Keep [H.length, H.length + 1] Z HF := by
      rw [hHF]
      exact (Keep.set _ _).trans (Keep.set _ _) (fun i hi _ => by simp at hi; simp [hi]) (fun i hi _ => by simp at hi; simp [hi])
    have kA : Keep [] H HF := kZ.next kF (by simp)
    have b2 : blkAt HF H.length = some ⟨92, .wr, [R.enc]⟩ := by rw [hHF, blkAt_set_ne (by omega)]; exact blkAt_set (by omega)
    have b4 : blkAt HF (H.length + 1) = some ⟨80, .wr, [m.enc a3]⟩ := by rw [hHF]; exact blkAt_set (by simpa using hZl)
    have oF := ow.keep kF (fun i hi h => by have := hf2 i hi; simp at h; omega)
    refine hQ _ _ _ (by simp) ?_
    have hres : resT env.τ tm HF (Try.f71.results.toList) = some [W.agg R.enc, W.lf (.i .i64 s), W.agg (m.enc a3)] := by simp [Try.f71, t2, t3, t4, b2, b4, Reg.enc, Minder.enc]
    rw [hres, optK_some]
    rcases leave_opt H HF [W.agg R.enc, W.lf (.i .i64 s), W.agg (m.enc a3)] with e | ⟨e, hr⟩ <;> rw [e]
    · exact ⟨⟨R, s, _, m, rfl, ⟨a3, rfl, oF.sl⟩, hms, hs64, hs1, hs2⟩, kA⟩
    · simp only [List.all_cons, Bool.and_eq_true] at hr
      exact ⟨⟨R, s, _, m, rfl, (IsMinder.free ⟨a3, rfl, oF⟩ hr.2.2.1 H).rd, hms, hs64, hs1, hs2⟩, Keep.refl _ _⟩
  rw [← hT5, ← hY1]
  refine stpL_runs (l1Once hc1 2) ?_
  rintro _ Z ⟨⟨b, rfl⟩, hto2⟩
  have b5Z := hto2.1.blk b5 (fun h => by simp at h; omega)
  have b7Z := hto2.1.blk b7 (fun h => by simp at h; omega)
  have bzZ := hto2.1.blk bz3 (fun h => by simp at h; omega)
  have bmZ := hto2.1.blk bm3 (fun h => by simp at h; omega)
  have n5Z := blkAt_len b5Z
  have n7Z := blkAt_len b7Z
  have nzZ := blkAt_len bzZ
  have nmZ := blkAt_len bmZ
  have owZ := ow1.keep hto2.1 no
  have kZ := kY1.next hto2.1 (by simp; omega)
  have hsw : ∀ (Z : Heap) (y : Option Blk), blkAt (Z.set H.length y) (H.length + 1) = blkAt Z (H.length + 1) := fun Z y => blkAt_set_ne (by omega)
  cases b
  · simp [b5Z, b7Z, n5Z, n7Z, bzZ, nzZ, hsw, bmZ, nmZ, -set_lt]
    refine fin Z _ _ r owZ kZ rfl (by omega) ?_ ?_ ?_
    all_goals simp
  · obtain ⟨K, hK⟩ : ∃ K, K = Y.length := ⟨_, rfl⟩
    have hbZ := hto2.len
    rw [← hK] at b5Z b7Z n5Z n7Z hYl hlt hYz ⊢
    have s7 : ∀ y : Option Blk, blkAt (Z.set K y) (K + 1) = blkAt Z (K + 1) := fun y => blkAt_set_ne (by omega)
    have sz : ∀ y : Option Blk, blkAt (Z.set K y) H.length = blkAt Z H.length := fun y => blkAt_set_ne (by omega)
    have sm : ∀ y : Option Blk, blkAt (Z.set K y) (H.length + 1) = blkAt Z (H.length + 1) := fun y => blkAt_set_ne (by omega)
    have s5 : ∀ y : Blk, blkAt (Z.set K (some y)) K = some y := fun y => blkAt_set n5Z
    have kS : ∀ y : Option Blk, Keep [K] Z (Z.set K y) := fun y => Keep.set _ _
    simp [b5Z, b7Z, n5Z, n7Z, bzZ, nzZ, hsw, bmZ, nmZ, s7, sz, sm, s5, -set_lt]
    refine fin _ _ _ ⟨r.epoch, r.owner, m.life⟩ (owZ.keep (kS _) (fun i hi h => by have := hlt i hi; simp at h; omega)) (kZ.next (kS _) (by simp; omega)) rfl (by simp; omega) ?_ ?_ ?_
    all_goals simp

theorem drawPairs {H : Heap} {a : Option (Nat × Nat)} {bs : List Int} (hs : Sl H 5 a (bs.map encU)) (hn : bs.length ≤ 1048576) : Runs env 74 [.w (.lf (.sl a bs.length))] H fun v H' => (∃ (r : Reg) (s : Int) (l : List Lf) (m : Minder) (p : Int), v = .tup [.agg r.enc, .lf (.i .i64 s), .agg l, .lf (.i .i64 p)] ∧ RdMinder H' l m ∧ m.sz ≤ 100 ∧ I64 s ∧ -1 ≤ s ∧ s ≤ 2 ∧ I64 p) ∧ Keep [] H H' := by
  refine Runs.walk ok74 Try.func74 rfl (by simp [Try.f74]) fun Q hQ => ?_
  simp only [Try.f74, strip, stripL, stripI, stripG, chkT, tagsB, tagsL, tagD, addT, tagA, lookN, tagOp, elmT, ty22, ty24, ty33, ty40, ty44, ty54, ty55, ty63, ty171, ty175, ty176, ty183, Nat.reduceEqDiff, if_false, reduceIte, Option.getD_some, Option.getD_none, dstAt, dstOk, Nat.reduceLT, decide_true, if_true]
  obtain ⟨X0, hX0⟩ : ∃ X0 : Heap, X0 = H ++ [some ⟨92, .wr, [[.i .i64 0, .i .i64 0, .i .i64 0]]⟩, some ⟨80, .wr, [[.b false, .i .i64 0, .i .i64 0, .sl none 0, .i .i64 0, .i .i64 0, .i .i64 0]]⟩] := ⟨_, rfl⟩
  have bz0 : blkAt X0 H.length = some ⟨92, .wr, [[.i .i64 0, .i .i64 0, .i .i64 0]]⟩ := by rw [hX0]; simp
  have bm0 : blkAt X0 (H.length + 1) = some ⟨80, .wr, [[.b false, .i .i64 0, .i .i64 0, .sl none 0, .i .i64 0, .i .i64 0, .i .i64 0]]⟩ := by rw [hX0]; simp
  have k0 : Keep [] H X0 := by rw [hX0]; exact Keep.app _ _ _
  have hl0 : X0.length = H.length + 2 := by rw [hX0]; simp
  have hs0 : Sl X0 5 a (bs.map encU) := by rw [hX0]; exact hs.app _
  simp
  rw [← hX0]
  refine stpL_runs (l1New hs0 hn) ?_
  rintro _ X ⟨c, rfl, hc, hcl, hk⟩
  have bz := hk.blk bz0 (by simp)
  have bm := hk.blk bm0 (by simp)
  simp
  refine stpL_runs (l13DrawOf hc) ?_
  rintro _ Y ⟨⟨r, s, l, m, fp, rfl, om, hms, hak, hs64, hs1, hs2, hfp⟩, hto⟩
  have bz2 := hto.1.blk bz (fun h => by simp at h; omega)
  have bm2 := hto.1.blk bm (fun h => by simp at h; omega)
  have hL := om.len
  have hkl := hk.1
  have hcl2 := hc.lt
  have hYl := hto.len
  have hlt := om.lt
  have hYz := blkAt_len bm2
  obtain ⟨a3, rfl, ow⟩ := om
  simp [Reg.enc, Minder.enc]
  obtain ⟨T5, hT5⟩ : ∃ T5 : Heap, T5 = [some ⟨92, .wr, [[.i .i64 r.epoch, .i .i64 r.owner, .i .i64 r.pair]]⟩, some ⟨80, .wr, [[.b m.up, .i .i64 m.life, .i .i64 m.epoch, .sl a3 m.log.length, .i .i64 m.said, .i .i64 m.acked, .i .i64 m.ackLife]]⟩] := ⟨_, rfl⟩
  obtain ⟨Y1, hY1⟩ : ∃ Y1 : Heap, Y1 = Y ++ T5 := ⟨_, rfl⟩
  have b5 : blkAt Y1 Y.length = some ⟨92, .wr, [[.i .i64 r.epoch, .i .i64 r.owner, .i .i64 r.pair]]⟩ := by rw [hY1, hT5]; simp
  have b7 : blkAt Y1 (Y.length + 1) = some ⟨80, .wr, [[.b m.up, .i .i64 m.life, .i .i64 m.epoch, .sl a3 m.log.length, .i .i64 m.said, .i .i64 m.acked, .i .i64 m.ackLife]]⟩ := by rw [hY1, hT5]; simp
  have n5 := blkAt_len b5
  have n7 := blkAt_len b7
  have hc1 : Cur Y1 c bs.length := by rw [hY1]; exact hto.2.app _
  have bz3 := blkAt_app bz2 T5
  have bm3 := blkAt_app bm2 T5
  have ow1 := ow.app T5
  rw [← hY1] at bz3 bm3 ow1
  have kY1 : Keep [] H Y1 := by rw [hY1]; exact ((k0.next hk (by simp)).next hto.1 (by simp; omega)).trans (Keep.app [] Y _) (by simp) (by simp)
  have no : ∀ i ∈ fp, i ∉ [c] := fun i hi h => by have := hfp i hi; simp at h; omega
  have hf2 : ∀ i ∈ fp, H.length + 2 ≤ i := fun i hi => by have := hfp i hi; omega
  have fin : ∀ (Z HF : Heap) (tm : Ab.T) (R : Reg) (ow : Own Z 30 a3 (m.log.map In.enc) fp) (kZ : Keep [] H Z) (p : Int) (hp : I64 p), HF = (Z.set H.length (some ⟨92, .wr, [R.enc]⟩)).set (H.length + 1) (some ⟨80, .wr, [m.enc a3]⟩) → H.length + 1 < Z.length → tm 2 = .ptr H.length 0 0 → tm 3 = .int s → tm 4 = .ptr (H.length + 1) 0 0 → tm 5 = .int p → Q .ret tm HF := by
    intro Z HF tm R ow kZ p hp hHF hZl t2 t3 t4 t5
    have kF : Keep [H.length, H.length + 1] Z HF := by
      rw [hHF]
      exact (Keep.set _ _).trans (Keep.set _ _) (fun i hi _ => by simp at hi; simp [hi]) (fun i hi _ => by simp at hi; simp [hi])
    have kA : Keep [] H HF := kZ.next kF (by simp)
    have b2 : blkAt HF H.length = some ⟨92, .wr, [R.enc]⟩ := by rw [hHF, blkAt_set_ne (by omega)]; exact blkAt_set (by omega)
    have b4 : blkAt HF (H.length + 1) = some ⟨80, .wr, [m.enc a3]⟩ := by rw [hHF]; exact blkAt_set (by simpa using hZl)
    have oF := ow.keep kF (fun i hi h => by have := hf2 i hi; simp at h; omega)
    refine hQ _ _ _ (by simp) ?_
    have hres : resT env.τ tm HF (Try.f74.results.toList) = some [W.agg R.enc, W.lf (.i .i64 s), W.agg (m.enc a3), W.lf (.i .i64 p)] := by simp [Try.f74, t2, t3, t4, t5, b2, b4, Reg.enc, Minder.enc]
    rw [hres, optK_some]
    rcases leave_opt H HF [W.agg R.enc, W.lf (.i .i64 s), W.agg (m.enc a3), W.lf (.i .i64 p)] with e | ⟨e, hr⟩ <;> rw [e]
    · exact ⟨⟨R, s, _, m, p, rfl, ⟨a3, rfl, oF.sl⟩, hms, hs64, hs1, hs2, hp⟩, kA⟩
    · simp only [List.all_cons, Bool.and_eq_true] at hr
      exact ⟨⟨R, s, _, m, p, rfl, (IsMinder.free ⟨a3, rfl, oF⟩ hr.2.2.1 H).rd, hms, hs64, hs1, hs2, hp⟩, Keep.refl _ _⟩
  have hI : Y ++ [some ⟨92, .wr, [[.i .i64 r.epoch, .i .i64 r.owner, .i .i64 r.pair]]⟩, some ⟨80, .wr, [[.b m.up, .i .i64 m.life, .i .i64 m.epoch, .sl a3 m.log.length, .i .i64 m.said, .i .i64 m.acked, .i .i64 m.ackLife]]⟩, some ⟨3, .wr, [encI 0, encI m.ackLife, encI m.ackLife, encI 1]⟩] = Y1 ++ [some ⟨3, .wr, [encI 0, encI m.ackLife, encI m.ackLife, encI 1]⟩] := by rw [hY1, hT5]; simp
  have hYL : Y1.length = Y.length + 2 := by rw [hY1, hT5]; simp
  have hc2 := hc1.app [some ⟨3, .wr, [encI 0, encI m.ackLife, encI m.ackLife, encI 1]⟩]
  have hsl : Sl (Y1 ++ [some ⟨3, .wr, [encI 0, encI m.ackLife, encI m.ackLife, encI 1]⟩]) 3 (some (Y1.length, 0)) ([0, m.ackLife, m.ackLife, 1].map encI) := Sl.of (by simp)
  rw [hYL] at hsl
  simp only [encI] at hI hc2 hsl
  rw [hI]
  refine stpL_cur (l1PickInt (xs := [0, m.ackLife, m.ackLife, 1]) hc2 hsl (by simp) (by simp)) hc2 (fun v H' h => h.2) ?_
  rintro _ Z ⟨⟨p, rfl, hp⟩, hto2⟩
  have hp64 : I64 p := by
    simp at hp
    rcases hp with rfl | rfl | rfl
    · unfold I64; omega
    · exact hak
    · unfold I64; omega
  have hto2 := hto2.base
  have b5Z := hto2.1.blk b5 (fun h => by simp at h; omega)
  have b7Z := hto2.1.blk b7 (fun h => by simp at h; omega)
  have bzZ := hto2.1.blk bz3 (fun h => by simp at h; omega)
  have bmZ := hto2.1.blk bm3 (fun h => by simp at h; omega)
  have n5Z := blkAt_len b5Z
  have n7Z := blkAt_len b7Z
  have nzZ := blkAt_len bzZ
  have nmZ := blkAt_len bmZ
  have owZ := ow1.keep hto2.1 no
  have kZ := kY1.next hto2.1 (by simp; omega)
  have hsw : ∀ (Z : Heap) (y : Option Blk), blkAt (Z.set H.length y) (H.length + 1) = blkAt Z (H.length + 1) := fun Z y => blkAt_set_ne (by omega)
  simp [bzZ, nzZ, hsw, bmZ, nmZ, -set_lt]
  refine fin Z _ _ r owZ kZ p hp64 rfl (by omega) ?_ ?_ ?_ ?_
  all_goals simp

theorem sameInsL {H : Heap} {q r : Lf} {xs ys : List In} (h : RdInS H q xs) (h2 : RdInS H r ys) (hn : xs.length ≤ 1048576) : run env 135 [.w (.lf q), .w (.lf r)] H = some (.bool (decide (xs = ys)), H) := by
  obtain ⟨a, rfl, ha⟩ := h
  obtain ⟨b, rfl, hb⟩ := h2
  refine run_walk ok135 Try.func135 rfl (by simp [Try.f135]) fun Q hQ => ?_
  simp only [Try.f135, strip, stripL, stripI, stripG, chkT, tagsB, tagsL, tagD, addT, tagA, lookN, tagOp, elmT, ty22, ty24, ty33, ty40, ty44, ty54, ty55, ty63, ty171, ty175, ty176, ty183, Nat.reduceEqDiff, if_false, reduceIte, Option.getD_some, Option.getD_none, dstAt, dstOk, Nat.reduceLT, decide_true, if_true]
  simp [builtinV, pureB, lenV]
  refine selS_intro (fun hl => ?_) (fun hl => ?_)
  · simp
    refine hQ _ _ _ (by simp) ?_
    simp at hl
    have : ¬ xs = ys := fun h => hl (by rw [h])
    simp [Try.f135, this]
  simp at hl
  simp [builtinV, pureB, lenV]
  refine wpS_loop (fun j tm H' => ∃ i, i + j = xs.length ∧ tm 0 = .w (.lf (.sl a xs.length)) ∧ tm 1 = .w (.lf (.sl b ys.length)) ∧ tm 5 = .int i ∧ H' = H ∧ xs.take i = ys.take i) xs.length (by rw [env_K]; omega) ⟨0, by simp, by simp, by simp, by simp, rfl, by simp⟩ ?_
  rintro j tm H' hj ⟨i, hij, h0, h1, h5, rfl, heq⟩ Q' hn' he' hr'
  simp [h0, h1, h5, builtinV, pureB, lenV]
  refine selS_intro (fun hc => ?_) (fun hc => ?_)
  · simp at hc
    have hc2 : i < ys.length := by omega
    obtain ⟨id, r, bl, rfl, hbl, hbe, hrow⟩ := ha i _ (by simp [hc]; rfl)
    obtain ⟨id2, r2, bl2, rfl, hbl2, hbe2, hrow2⟩ := hb i _ (by simp [hc2]; rfl)
    have g4 : IntKind.i64.wrap ((i : Int) + 1) = (i : Int) + 1 := wrap64 (by omega) (by omega)
    simp [h0, h1, h5, indexAddrV, elemIs, hbl, hbe, hbl2, hbe2, hc, hc2, hrow, hrow2, In.enc]
    refine selS_intro (fun hd => ?_) (fun hd => ?_)
    · simp
      refine hr' _ _ ?_
      simp
      refine hQ _ _ _ (by simp) ?_
      have : ¬ xs = ys := fun h => by subst h; simp at hd
      simp [Try.f135, this]
    · have hxy : xs[i] = ys[i] := by
        refine In.enc_inj ?_
        simpa [In.enc] using hd
      simp [h0, h1, h5, g4]
      exact hn' (j - 1) _ _ (by omega) ⟨i + 1, by omega, by simp [h0], by simp [h1], by simp, rfl, by rw [List.take_add_one, List.take_add_one, heq]; simp [hc, hc2, hxy]⟩
  · simp at hc
    simp [h0, h1, h5]
    refine he' _ _ _ ?_
    simp
    refine hQ _ _ _ (by simp) ?_
    have : xs = ys := by
      rw [List.take_of_length_le (by omega), List.take_of_length_le (by omega)] at heq
      exact heq
    simp [Try.f135, this]

theorem sameMinderL {H : Heap} {l r : List Lf} {x y : Minder} (h : RdMinder H l x) (h2 : RdMinder H r y) (hn : x.sz ≤ 1048576) : run env 67 [.agg l, .agg r] H = some (.bool (decide (x = y)), H) := by
  obtain ⟨a, rfl, h⟩ := h
  obtain ⟨b, rfl, h2⟩ := h2
  have e := fun G => sameInsL (q := .sl a x.log.length) (r := .sl b y.log.length) (xs := x.log) (ys := y.log) (H := H ++ G) ⟨a, rfl, h.app G⟩ ⟨b, rfl, h2.app G⟩ hn
  refine run_walk ok67 Try.func67 rfl (by simp [Try.f67]) fun Q hQ => ?_
  simp only [Try.f67, strip, stripL, stripI, stripG, chkT, tagsB, tagsL, tagD, addT, tagA, lookN, tagOp, elmT, ty22, ty24, ty33, ty40, ty44, ty54, ty55, ty63, ty171, ty175, ty176, ty183, Nat.reduceEqDiff, if_false, reduceIte, Option.getD_some, Option.getD_none, dstAt, dstOk, Nat.reduceLT, decide_true, if_true]
  simp [Minder.enc]
  repeat' (first | (refine gdL_t (fun h => ?_) (fun h => ?_) <;> simp [h, e]) | (refine gdL_f (fun h => ?_) (fun h => ?_) <;> simp [h, e]) | (refine selS_intro (fun h => ?_) (fun h => ?_) <;> simp [h, e]))
  all_goals (refine hQ _ _ _ (by simp) ?_)
  all_goals (clear hQ; obtain ⟨x1, x2, x3, x4, x5, x6, x7⟩ := x; obtain ⟨y1, y2, y3, y4, y5, y6, y7⟩ := y; simp_all [Try.f67])

theorem rgTakeNo {r : Reg} {s : Int} {m : Minder} (h : (takeR r s m).2.2 = false) : (takeR r s m).1 = r ∧ (takeR r s m).2.1 = m := by
  unfold takeR at h ⊢
  split at h
  · simp at h
  · rename_i hh; rw [if_neg hh]; exact ⟨rfl, rfl⟩
theorem rgTakeYes {r : Reg} {s : Int} {m : Minder} (h : (takeR r s m).2.2 = true) : minds (takeR r s m).1 s (takeR r s m).2.1 = true ∧ (takeR r s m).1.epoch = r.epoch + 1 ∧ (takeR r s m).1.pair = 0 ∧ minds (takeR r s m).1 (1 - s) (takeR r s m).2.1 = false ∧ r.ok = true := by
  unfold takeR at h ⊢
  split at h
  · rename_i hh
    rw [if_pos hh]
    simp only [Bool.and_eq_true, Bool.or_eq_true, decide_eq_true_eq] at hh
    obtain ⟨⟨⟨⟨⟨⟨⟨h1, h2⟩, h3⟩, h4⟩, h5⟩, h6⟩, h7⟩, h8⟩ := hh
    have he : 1 ≤ r.epoch + 1 ∧ r.epoch + 1 ≤ 100000 := by simp [Reg.ok] at h8; omega
    have mok : ({ m with epoch := r.epoch + 1, acked := 0, ackLife := 0 } : Minder).ok = true := by
      simp [Minder.ok] at h2 ⊢
      obtain ⟨a1, a2⟩ := h2
      refine ⟨?_, ?_⟩ <;> first | omega | simp_all <;> omega
    refine ⟨?_, rfl, rfl, ?_, h1⟩
    · have mok' := mok
      simp only [h3] at mok'
      simp [minds, h8, h3, mok']
    · simp [minds]
      omega
  · simp at h
theorem rgPairsNo {r : Reg} {s : Int} {m : Minder} {p : Int} (h : (pairs r s m p).2 = false) : (pairs r s m p).1 = r := by
  unfold pairs at h ⊢
  split at h
  · simp at h
  · rename_i hh; rw [if_neg hh]
theorem rgPairsYes {r : Reg} {s : Int} {m : Minder} {p : Int} (h : (pairs r s m p).2 = true) : minds (pairs r s m p).1 s m = true ∧ (pairs r s m p).1.pair = p := by
  unfold pairs at h ⊢
  split at h
  · rename_i hh
    rw [if_pos hh]
    simp [minds] at hh ⊢
    obtain ⟨⟨⟨⟨⟨h1, h2⟩, h3⟩, h4⟩, h5⟩, h6⟩ := hh
    have ha : 0 ≤ m.ackLife ∧ m.ackLife ≤ 100000 := by simp [Minder.ok] at h2; omega
    refine ⟨⟨⟨⟨?_, h2⟩, h3⟩, h4⟩, h5⟩
    simp [Reg.ok] at h1 ⊢
    omega
  · simp at h
theorem rgMindsOne {r : Reg} {s : Int} {m : Minder} (h : minds r s m = true) : minds r (1 - s) m = false := by
  simp [minds] at h ⊢
  omega
theorem regsLaw {H : Heap} {a : Option (Nat × Nat)} {bs : List Int} (hs : Sl H 5 a (bs.map encU)) : Runs env 8 [.w (.lf (.sl a bs.length))] H fun v _ => v = .bool true := by
  have eb := fun (H : Heap) => bigL (H := H) (a := a) (n := bs.length)
  refine Runs.walk ok8 Try.func8 rfl (by simp [Try.f8]) fun Q hQ => ?_
  simp only [Try.f8, strip, stripL, stripI, stripG, chkT, tagsB, tagsL, tagD, addT, tagA, lookN, tagOp, elmT, ty22, ty24, ty33, ty40, ty44, ty54, ty55, ty63, ty171, ty175, ty176, ty183, Nat.reduceEqDiff, if_false, reduceIte, Option.getD_some, Option.getD_none, dstAt, dstOk, Nat.reduceLT, decide_true, if_true]
  simp [eb]
  refine selS_intro (fun hb => ?_) (fun hb => ?_)
  · simp
    refine hQ _ _ _ (by simp) ?_
    simp [Try.f8]
  simp at hb
  have hn : bs.length ≤ 1048576 := by omega
  simp
  refine stpL_runs (drawTake hs hn) ?_
  rintro _ X1 ⟨⟨r, s, l, m, rfl, om, hms, hs64, hs1, hs2⟩, kX1⟩
  have hL := om.len
  have hT : l.take l.length = l := List.take_length
  rw [hL] at hT
  simp [hL, hT, Reg.enc]
  obtain ⟨A1, hA1⟩ : ∃ A1 : Heap, A1 = X1 ++ [some ⟨92, .wr, [r.enc]⟩, some ⟨80, .wr, [l]⟩] := ⟨_, rfl⟩
  have b3 : blkAt A1 X1.length = some ⟨92, .wr, [r.enc]⟩ := by rw [hA1]; simp
  have b5 : blkAt A1 (X1.length + 1) = some ⟨80, .wr, [l]⟩ := by rw [hA1]; simp
  have k1 : Keep [] X1 A1 := by rw [hA1]; exact Keep.app _ _ _
  simp only [Reg.enc] at hA1 b3
  rw [← hA1]
  clear hA1
  obtain ⟨K3, hK3⟩ : ∃ K, K = X1.length := ⟨_, rfl⟩
  rw [← hK3] at b3 b5 ⊢
  have om1 := om.base k1
  have hTK := implTake_is om1 (by omega) r s hs64
  have hTK2 := fun {Z : Heap} (k : Keep [] A1 Z) => specTake_is (om1.base k) (by omega) r s hs64
  have hTn := @rgTakeNo r s m
  have hTy := @rgTakeYes r s m
  have hNs : ((takeR r s m).2.1).sz ≤ 1048576 := takeR_sz (by omega)
  obtain ⟨a', ha'⟩ : ∃ x, x = (takeR r s m).1 := ⟨_, rfl⟩
  obtain ⟨n', hn'⟩ : ∃ x, x = (takeR r s m).2.1 := ⟨_, rfl⟩
  obtain ⟨ok, hok⟩ : ∃ x, x = (takeR r s m).2.2 := ⟨_, rfl⟩
  rw [← ha', ← hn', ← hok] at hTK hTn hTy
  rw [← hn'] at hNs
  simp only [← ha', ← hn', ← hok] at hTK2
  simp only [Reg.enc] at hTK hTK2
  refine stpL_runs hTK ?_
  rintro _ _ ⟨l1, f1, rfl, o1, ⟨⟨G1, rfl⟩, -⟩⟩
  have hL1 := o1.len
  have hT1 : l1.take l1.length = l1 := List.take_length
  rw [hL1] at hT1
  simp [hL1, hT1]
  obtain ⟨A2, hA2⟩ : ∃ A2 : Heap, A2 = A1 ++ (G1 ++ [some ⟨92, .wr, [[.i .i64 a'.epoch, .i .i64 a'.owner, .i .i64 a'.pair]]⟩, some ⟨80, .wr, [l1]⟩]) := ⟨_, rfl⟩
  have b6 : blkAt A2 (A1.length + G1.length) = some ⟨92, .wr, [[.i .i64 a'.epoch, .i .i64 a'.owner, .i .i64 a'.pair]]⟩ := by rw [hA2]; simp
  have b7 : blkAt A2 (A1.length + (G1.length + 1)) = some ⟨80, .wr, [l1]⟩ := by rw [hA2]; simp
  have k2 : Keep [] A1 A2 := by rw [hA2]; exact Keep.app _ _ _
  have o1 := (o1.app [some ⟨92, .wr, [[.i .i64 a'.epoch, .i .i64 a'.owner, .i .i64 a'.pair]]⟩, some ⟨80, .wr, [l1]⟩]).rd
  rw [List.append_assoc, ← hA2] at o1
  rw [← hA2]
  obtain ⟨K6, hK6⟩ : ∃ K, K = A1.length + G1.length := ⟨_, rfl⟩
  obtain ⟨K7, hK7⟩ : ∃ K, K = A1.length + (G1.length + 1) := ⟨_, rfl⟩
  rw [← hK6] at b6 ⊢
  rw [← hK7] at b7 ⊢
  clear hA2
  have b32 := k2.blk b3 (by simp)
  have b52 := k2.blk b5 (by simp)
  have n32 := blkAt_len b32
  have n52 := blkAt_len b52
  simp [b32, b52, n32, n52, hL, hT]
  refine stpL_runs (hTK2 k2) ?_
  rintro _ _ ⟨l2, f2, rfl, o2, ⟨⟨G2, rfl⟩, -⟩⟩
  have hL2 := o2.len
  have hT2 : l2.take l2.length = l2 := List.take_length
  rw [hL2] at hT2
  simp [hL2, hT2]
  obtain ⟨A3, hA3⟩ : ∃ A3 : Heap, A3 = A2 ++ (G2 ++ [some ⟨92, .wr, [[.i .i64 a'.epoch, .i .i64 a'.owner, .i .i64 a'.pair]]⟩, some ⟨80, .wr, [l2]⟩]) := ⟨_, rfl⟩
  have b9 : blkAt A3 (A2.length + G2.length) = some ⟨92, .wr, [[.i .i64 a'.epoch, .i .i64 a'.owner, .i .i64 a'.pair]]⟩ := by rw [hA3]; simp
  have b10 : blkAt A3 (A2.length + (G2.length + 1)) = some ⟨80, .wr, [l2]⟩ := by rw [hA3]; simp
  have k3 : Keep [] A2 A3 := by rw [hA3]; exact Keep.app _ _ _
  have o2 := (o2.app [some ⟨92, .wr, [[.i .i64 a'.epoch, .i .i64 a'.owner, .i .i64 a'.pair]]⟩, some ⟨80, .wr, [l2]⟩]).rd
  rw [List.append_assoc, ← hA3] at o2
  rw [← hA3]
  obtain ⟨K9, hK9⟩ : ∃ K, K = A2.length + G2.length := ⟨_, rfl⟩
  obtain ⟨K10, hK10⟩ : ∃ K, K = A2.length + (G2.length + 1) := ⟨_, rfl⟩
  rw [← hK9] at b9 ⊢
  rw [← hK10] at b10 ⊢
  clear hA3
  have kH3 : Keep [] H A3 := ((kX1.next k1 (by simp)).next k2 (by simp)).next k3 (by simp)
  refine stpL_runs (drawPairs (hs.keep kH3 (by simp)) hn) ?_
  rintro _ B0 ⟨⟨q, t, l4, m4, p, rfl, om4, hms4, ht64, ht1, ht2, hp64⟩, k4⟩
  have hL4 := om4.len
  have hT4 : l4.take l4.length = l4 := List.take_length
  rw [hL4] at hT4
  have ep1 := fun G => implPairs_is (om4.app G) (by omega) q t ht64 p hp64
  have ep2 := fun G => specPairs_is (om4.app G) (by omega) q t ht64 p hp64
  have hPn := @rgPairsNo q t m4 p
  have hPy := @rgPairsYes q t m4 p
  obtain ⟨d, hd⟩ : ∃ x, x = (pairs q t m4 p).1 := ⟨_, rfl⟩
  obtain ⟨is, his⟩ : ∃ x, x = (pairs q t m4 p).2 := ⟨_, rfl⟩
  rw [← hd, ← his] at hPn hPy
  simp only [← hd, ← his, Reg.enc] at ep1 ep2
  simp [hL4, hT4, Reg.enc, ep1, ep2]
  obtain ⟨B1, hB1⟩ : ∃ B1 : Heap, B1 = B0 ++ [some ⟨92, .wr, [[.i .i64 q.epoch, .i .i64 q.owner, .i .i64 q.pair]]⟩, some ⟨80, .wr, [l4]⟩, some ⟨92, .wr, [[.i .i64 d.epoch, .i .i64 d.owner, .i .i64 d.pair]]⟩, some ⟨92, .wr, [[.i .i64 d.epoch, .i .i64 d.owner, .i .i64 d.pair]]⟩] := ⟨_, rfl⟩
  have b12 : blkAt B1 B0.length = some ⟨92, .wr, [[.i .i64 q.epoch, .i .i64 q.owner, .i .i64 q.pair]]⟩ := by rw [hB1]; simp
  have b14 : blkAt B1 (B0.length + 1) = some ⟨80, .wr, [l4]⟩ := by rw [hB1]; simp
  have b16 : blkAt B1 (B0.length + 2) = some ⟨92, .wr, [[.i .i64 d.epoch, .i .i64 d.owner, .i .i64 d.pair]]⟩ := by rw [hB1]; simp
  have b18 : blkAt B1 (B0.length + 3) = some ⟨92, .wr, [[.i .i64 d.epoch, .i .i64 d.owner, .i .i64 d.pair]]⟩ := by rw [hB1]; simp
  have k5 : Keep [] B0 B1 := by rw [hB1]; exact Keep.app _ _ _
  rw [← hB1]
  clear hB1
  obtain ⟨KB, hKB⟩ : ∃ K, K = B0.length := ⟨_, rfl⟩
  rw [← hKB] at b12 b14 b16 b18 ⊢
  have kH5 := (kH3.next k4 (by simp)).next k5 (by simp)
  refine stpL_runs (drawMinds (hs.keep kH5 (by simp)) hn) ?_
  rintro _ C0 ⟨⟨u, v, l5, m5, rfl, om5, hms5, hv64, hv1, hv2⟩, k6⟩
  have hL5 := om5.len
  have hT5 : l5.take l5.length = l5 := List.take_length
  rw [hL5] at hT5
  simp [hL5, hT5, Reg.enc]
  obtain ⟨C1, hC1⟩ : ∃ C1 : Heap, C1 = C0 ++ [some ⟨92, .wr, [[.i .i64 u.epoch, .i .i64 u.owner, .i .i64 u.pair]]⟩, some ⟨80, .wr, [l5]⟩] := ⟨_, rfl⟩
  have b20 : blkAt C1 C0.length = some ⟨92, .wr, [[.i .i64 u.epoch, .i .i64 u.owner, .i .i64 u.pair]]⟩ := by rw [hC1]; simp
  have b22 : blkAt C1 (C0.length + 1) = some ⟨80, .wr, [l5]⟩ := by rw [hC1]; simp
  have k7 : Keep [] C0 C1 := by rw [hC1]; exact Keep.app _ _ _
  rw [← hC1]
  clear hC1
  obtain ⟨KC, hKC⟩ : ∃ K, K = C0.length := ⟨_, rfl⟩
  rw [← hKC] at b20 b22 ⊢
  have kH7 := (kH5.next k6 (by simp)).next k7 (by simp)
  refine stpL_runs (drawRegOk (hs.keep kH7 (by simp)) hn) ?_
  rintro _ D0 ⟨⟨w, rfl⟩, k8⟩
  simp [Reg.enc]
  obtain ⟨D, hD⟩ : ∃ D : Heap, D = D0 ++ [some ⟨92, .wr, [[.i .i64 w.epoch, .i .i64 w.owner, .i .i64 w.pair]]⟩] := ⟨_, rfl⟩
  have b23 : blkAt D D0.length = some ⟨92, .wr, [[.i .i64 w.epoch, .i .i64 w.owner, .i .i64 w.pair]]⟩ := by rw [hD]; simp
  have k9 : Keep [] D0 D := by rw [hD]; exact Keep.app _ _ _
  rw [← hD]
  clear hD
  have j7 := k8.next k9 (by simp)
  have j6 := k7.next j7 (by simp)
  have j5 := k6.next j6 (by simp)
  have j4 := k5.next j5 (by simp)
  have j3 := k4.next j4 (by simp)
  have j2 := k3.next j3 (by simp)
  have c3 := j2.blk b32 (by simp)
  have c5 := j2.blk b52 (by simp)
  have c6 := j2.blk b6 (by simp)
  have c7 := j2.blk b7 (by simp)
  have c9 := j3.blk b9 (by simp)
  have c10 := j3.blk b10 (by simp)
  have c12 := j5.blk b12 (by simp)
  have c14 := j5.blk b14 (by simp)
  have c16 := j5.blk b16 (by simp)
  have c18 := j5.blk b18 (by simp)
  have c20 := j7.blk b20 (by simp)
  have c22 := j7.blk b22 (by simp)
  have d3 := blkAt_len c3
  have d5 := blkAt_len c5
  have d6 := blkAt_len c6
  have d7 := blkAt_len c7
  have d9 := blkAt_len c9
  have d10 := blkAt_len c10
  have d12 := blkAt_len c12
  have d14 := blkAt_len c14
  have d16 := blkAt_len c16
  have d18 := blkAt_len c18
  have d20 := blkAt_len c20
  have d22 := blkAt_len c22
  have d23 := blkAt_len b23
  have oM := om1.base (k2.next j2 (by simp))
  have oN := o1.base j2
  have oN2 := o2.base j3
  have oP := om4.base j4
  have oU := om5.base j6
  have e1 := sameMinderL oN oN2 hNs
  have e2 := sameMinderL oN oM hNs
  have e3 := implMinds_is oU (by omega) u v hv64
  have e4 := specMinds_is oU (by omega) u v hv64
  have e5 := implRegOk D w
  have e6 := specRegOk D w
  have e7 := implMinds_is oP (by omega) d t ht64
  have w1 : IntKind.i64.wrap (1 - v) = 1 - v := wrap64 (by omega) (by omega)
  have w2 : IntKind.i64.wrap (1 - s) = 1 - s := wrap64 (by omega) (by omega)
  have e8 := implMinds_is oU (by omega) u (1 - v) (by unfold I64; omega)
  have e9 := implMinds_is oN hNs a' s hs64
  have e10 := implMinds_is oN hNs a' (1 - s) (by unfold I64; omega)
  simp only [Reg.enc] at e3 e4 e5 e6 e7 e8 e9 e10
  simp [c6, d6, c9, d9, c7, d7, c10, d10, hL1, hT1, hL2, hT2, e1, c16, d16, c18, d18, c20, d20, c22, d22, hL5, hT5, e3, e4, b23, d23, e5, e6]
  cases hz : is
  · have hdq := hPn hz
    simp [c16, d16, c12, d12, hdq]
    cases hmu : minds u v m5
    · rw [hmu] at e3
      simp [c20, d20, c22, d22, hL5, hT5, e3]
      cases hk : ok
      · obtain ⟨hx1, hx2⟩ := hTn hk
        simp [c6, d6, c3, d3, c7, d7, c5, d5, hL1, hT1, hL, hT, e2, hx1, hx2]
        refine hQ _ _ _ (by simp) ?_
        simp [Try.f8]
      · obtain ⟨g1, g2, g3, g4, g5⟩ := hTy hk
        rw [g1] at e9
        rw [g4] at e10
        simp only [g2, g3] at e9 e10
        have w3 : IntKind.i64.wrap (r.epoch + 1) = r.epoch + 1 := by
          have : 1 ≤ r.epoch ∧ r.epoch ≤ 100000 := by simp [Reg.ok] at g5; omega
          exact wrap64 (by omega) (by omega)
        simp [c6, d6, c7, d7, hL1, hT1, c3, d3, e9, g2, g3, w3, w2, e10]
        refine hQ _ _ _ (by simp) ?_
        simp [Try.f8]
    · have h8 := rgMindsOne hmu
      rw [hmu] at e3
      rw [h8] at e8
      simp [c20, d20, c22, d22, hL5, hT5, e3, w1, e8]
      cases hk : ok
      · obtain ⟨hx1, hx2⟩ := hTn hk
        simp [c6, d6, c3, d3, c7, d7, c5, d5, hL1, hT1, hL, hT, e2, hx1, hx2]
        refine hQ _ _ _ (by simp) ?_
        simp [Try.f8]
      · obtain ⟨g1, g2, g3, g4, g5⟩ := hTy hk
        rw [g1] at e9
        rw [g4] at e10
        simp only [g2, g3] at e9 e10
        have w3 : IntKind.i64.wrap (r.epoch + 1) = r.epoch + 1 := by
          have : 1 ≤ r.epoch ∧ r.epoch ≤ 100000 := by simp [Reg.ok] at g5; omega
          exact wrap64 (by omega) (by omega)
        simp [c6, d6, c7, d7, hL1, hT1, c3, d3, e9, g2, g3, w3, w2, e10]
        refine hQ _ _ _ (by simp) ?_
        simp [Try.f8]
  · obtain ⟨hp1, hp2⟩ := hPy hz
    rw [hp1] at e7
    simp only [hp2] at e7
    simp [c16, d16, c14, d14, hL4, hT4, e7, hp2]
    cases hmu : minds u v m5
    · rw [hmu] at e3
      simp [c20, d20, c22, d22, hL5, hT5, e3]
      cases hk : ok
      · obtain ⟨hx1, hx2⟩ := hTn hk
        simp [c6, d6, c3, d3, c7, d7, c5, d5, hL1, hT1, hL, hT, e2, hx1, hx2]
        refine hQ _ _ _ (by simp) ?_
        simp [Try.f8]
      · obtain ⟨g1, g2, g3, g4, g5⟩ := hTy hk
        rw [g1] at e9
        rw [g4] at e10
        simp only [g2, g3] at e9 e10
        have w3 : IntKind.i64.wrap (r.epoch + 1) = r.epoch + 1 := by
          have : 1 ≤ r.epoch ∧ r.epoch ≤ 100000 := by simp [Reg.ok] at g5; omega
          exact wrap64 (by omega) (by omega)
        simp [c6, d6, c7, d7, hL1, hT1, c3, d3, e9, g2, g3, w3, w2, e10]
        refine hQ _ _ _ (by simp) ?_
        simp [Try.f8]
    · have h8 := rgMindsOne hmu
      rw [hmu] at e3
      rw [h8] at e8
      simp [c20, d20, c22, d22, hL5, hT5, e3, w1, e8]
      cases hk : ok
      · obtain ⟨hx1, hx2⟩ := hTn hk
        simp [c6, d6, c3, d3, c7, d7, c5, d5, hL1, hT1, hL, hT, e2, hx1, hx2]
        refine hQ _ _ _ (by simp) ?_
        simp [Try.f8]
      · obtain ⟨g1, g2, g3, g4, g5⟩ := hTy hk
        rw [g1] at e9
        rw [g4] at e10
        simp only [g2, g3] at e9 e10
        have w3 : IntKind.i64.wrap (r.epoch + 1) = r.epoch + 1 := by
          have : 1 ≤ r.epoch ∧ r.epoch ≤ 100000 := by simp [Reg.ok] at g5; omega
          exact wrap64 (by omega) (by omega)
        simp [c6, d6, c7, d7, hL1, hT1, c3, d3, e9, g2, g3, w3, w2, e10]
        refine hQ _ _ _ (by simp) ?_
        simp [Try.f8]
end W
end Go.Proofs.Ytfhaanknijlamaa
