/- The functions that this law reaches: what each computes. Conditions: those that each theorem names. -/
import Derived.Test.YtafakoecgaijoaaGreatWalkDoAll2
set_option maxRecDepth 100000
set_option maxHeartbeats 4000000
set_option linter.unusedSimpArgs false
set_option linter.unusedVariables false
set_option linter.unnecessarySimpa false
namespace Go.Proofs.YtafakoecgaijoaaGreat
open Go Go.Ab Go.ChangeShapes Go.WideShapes Go.ChangeAt Go.RowKit
namespace W
theorem sayM {H : Heap} {id : Nat} {l : List Lf} {x : Box} {fp : List Nat} (hb : blkAt H id = some ⟨44, .wr, [l]⟩) (hI : IsBox H l x fp) (hid : id ∉ fp) (hok : x.ok = true) (hn : x.sz ≤ 1048000) :
    Runs env 108 [.ptr id 0 0] H fun v H' => v = .int (sayD x).2 ∧ BoxTo H H' id fp (sayD x).1 := by
  have h2 := (Box.right hok).two
  have hidl := blkAt_len hb
  have e1 : run env 121 [.ptr id 0 0] H = some (.int (whoM x), H) := minderM hb hI.rd h2 (by omega)
  refine Runs.walk ok108 Tryz.func108 rfl (by simp [Tryz.f108]) fun Q hQ => ?_
  simp only [Tryz.f108, strip, stripL, stripI, stripG, chkT, tagsB, tagsL, tagD, addT, tagA, lookN, tagOp, elmT, ty24, ty25, ty26, ty27, ty28, ty39, ty40, ty41, ty42, ty57, ty59, ty62, ty98, Nat.reduceEqDiff, if_false, reduceIte, Option.getD_some, Option.getD_none, dstAt, dstOk, Nat.reduceLT, decide_true, if_true]
  have fin : ∀ (HF : Heap) (tm : Ab.T) (c : Int) (y : Box), sayD x = (y, c) → BoxTo H HF id fp y → tm 2 = .int c → Q .ret tm HF := by
    intro HF tm c y h1 h t4
    refine hQ _ _ _ (by simp) ?_
    simp [Tryz.f108, t4, h1]
    exact h.leave hb hI hid _
  simp [e1]
  by_cases hneg : whoM x < 0
  · simp [hneg]
    exact fin _ _ 3 x (by rw [sayD, if_pos (.inl hneg)]) (BoxTo.refl hb hI hid) (by simp)
  obtain ⟨s, hs2, hw⟩ : ∃ s : Nat, s < 2 ∧ whoM x = (s : Int) := by
    rcases whoM_cases x with ⟨h, -⟩ | ⟨h, -⟩ | ⟨h, -⟩
    · exact ⟨0, by omega, h⟩
    · exact ⟨1, by omega, h⟩
    · omega
  have hs : s < x.two.length := by omega
  rw [hw] at hneg ⊢
  obtain ⟨bid, blo, q1, q2, q3, q4, row, fs, rfl, hbne, hbl, hbb, hbe, hbm, hrow, hrd, hbfs, hidfs, hput⟩ := boxTwoOwn hb hI hid hs
  have hb0 := hb
  simp only [Box.enc] at hb
  obtain ⟨m, hm⟩ : ∃ m, m = x.two[s] := ⟨_, rfl⟩
  rw [← hm] at hrd
  have hmsz : m.sz ≤ 1048576 := by
    have := MinderS.sz_at (List.getElem_mem hs)
    unfold Box.sz at hn
    rw [hm]
    omega
  have mok := (Box.right hok).ok _ (List.getElem_mem hs)
  rw [← hm] at mok
  have hmA : mAt x (s : Int) = m := by simp [mAt, List.getD, List.getElem?_eq_getElem hs, hm]
  have hrd1 := hrd.rd
  obtain ⟨a, rfl, oa⟩ := hrd
  have hs0 : (0 : Int) ≤ s := by omega
  have hsl2 : (s : Int) < 2 := by omega
  have hrok : x.reg.ok = true := by simp only [Box.ok, Bool.and_eq_true] at hok; exact hok.1.1.1.1.1.1.1.2
  have hp64 : I64 x.reg.pair := by simp [Reg.ok] at hrok; unfold I64; omega
  have e2 := implReady_is hrd1 hmsz x.reg.pair hp64
  simp only [Minder.enc] at e2
  simp [hneg, hb, hidl, h2, indexAddrV, elemIs, hbb, hbe, hbl, hs2, hs0, hsl2, hrow, Minder.enc]
  simp [e2]
  cases hrdy : ready m x.reg.pair
  · simp
    exact fin _ _ 3 x (by rw [sayD, hw, if_pos (.inr (by rw [hmA]; exact hrdy))]) (BoxTo.refl hb0 hI hid) (by simp)
  simp [hb, hidl, h2, indexAddrV, elemIs, hbb, hbe, hbl, hs2, hs0, hsl2, hrow, Minder.enc]
  obtain ⟨k, hk⟩ : ∃ k : Nat, m.said = (k : Int) := ⟨m.said.toNat, by simp [Minder.ok] at mok; omega⟩
  have hkl : k < m.log.length := by simp [ready] at hrdy; omega
  have hm64 : I64 m.said := by unfold I64; rw [hk]; unfold Minder.sz at hmsz; omega
  have hbr : (bridgeNew x.id x.ports).2 = true := by simp only [Box.ok, Bool.and_eq_true] at hok; exact hok.1.1.1.1.1.1.1.1
  have hbn := bridgeNew_yes hbr
  refine stpL_runs_f (implSaying_is (log := m.log) ⟨a, rfl, oa.sl⟩ hmsz x.id (by unfold I64; omega) x.ports (by unfold I64; omega) m.said hm64) (by rintro _ _ ⟨_, _, _, _, hf⟩; exact hf.1) ?_
  rintro _ _ ⟨_, fq, rfl, ⟨aq, rfl, oq⟩, ⟨⟨G2, rfl⟩, hfq⟩⟩
  have hsl8 := saying_len x.id x.ports m.log m.said
  obtain ⟨L, hL⟩ : ∃ L, L = saying x.id x.ports m.log m.said := ⟨_, rfl⟩
  rw [← hL] at oq hsl8 ⊢
  simp
  refine stpL_runs_w (acceptMq (blkAt_app hb0 G2) (hI.app G2) hid (by omega) oq.sl ?_ (by omega)) rfl (by rintro _ _ ⟨_, _, _, _, _, hk, _⟩; exact hk.1) ?_
  · intro i r hi _
    have h1 := hfq i (oq.ids i r hi)
    exact ⟨fun h2 => by have := hI.lt i h2; omega, by omega⟩
  rintro _ H1 ⟨rfl, l1, g1, b1, o1, k1, hg1, hl1⟩
  obtain ⟨bid2, blo2, r1, r2, r3, r4, row2, fs2, hl2, hbne2, hbl2, hbb2, hbe2, hbm2, hrow2, hrd2, hbfs2, hidfs2, hput2⟩ := boxTwoOwn b1 o1 (fun h => by rcases hg1 id h with h | h; exact hid h; simp at h; omega) (s := s) hs
  have hq0 : bid2 = bid := by
    rw [hl2] at hl1
    simp [Box.enc] at hl1
    exact hl1.1
  obtain rfl := hq0.symm
  subst hl2
  have hm2 : (acceptB x L).two[s]'(by exact hs) = m := by rw [hm]; rfl
  rw [hm2] at hrd2
  obtain ⟨a2, rfl, oa2⟩ := hrd2
  have b1' := b1
  have hbe3 : (acceptB x L).two.length = 2 := h2
  simp only [Box.enc, hbe3] at b1'
  have hid1 := blkAt_len b1
  have hw1 : IntKind.i64.wrap ((k : Int) + 1) = (k : Int) + 1 := wrap64 (by omega) (by unfold Minder.sz at hmsz; omega)
  simp [hbb2, hbl2, hbe2, hbm2, hrow2, Minder.enc, hk, hw1]
  have hl0 : (acceptB x L).line.length ≤ 60 := by
    have : logOk x.line = true := by simp only [Box.ok, Bool.and_eq_true] at hok; exact hok.1.2
    simp [logOk] at this
    show x.line.length ≤ 60
    omega
  obtain ⟨H2, hH2⟩ : ∃ H2, H2 = H1.set bid (some ⟨106, .wr, blo2.rows.set s [.b m.up, .i .i64 m.life, .i .i64 m.epoch, .sl a2 m.log.length, .i .i64 (k + 1), .i .i64 m.acked, .i .i64 m.ackLife]⟩) := ⟨_, rfl⟩
  obtain ⟨g2, y1, y2, y3, y4, y5⟩ := hput2 H1 [.b m.up, .i .i64 m.life, .i .i64 m.epoch, .sl a2 m.log.length, .i .i64 (k + 1), .i .i64 m.acked, .i .i64 m.ackLife] ⟨m.up, m.life, m.epoch, m.log, k + 1, m.acked, m.ackLife⟩ fs2 (Keep.refl _ _) ⟨a2, rfl, oa2⟩ (fun i hi => .inl hi)
  rw [← hH2] at y1 y2 y4
  have hbbF : blkAt H2 bid = some ⟨106, .wr, blo2.rows.set s [.b m.up, .i .i64 m.life, .i .i64 m.epoch, .sl a2 m.log.length, .i .i64 (k + 1), .i .i64 m.acked, .i .i64 m.ackLife]⟩ := by rw [hH2]; exact blkAt_set hbl2
  have hrl : s < blo2.rows.length := (List.getElem?_eq_some_iff.1 hrow2).1
  have hrow3 : (blo2.rows.set s [.b m.up, .i .i64 m.life, .i .i64 m.epoch, .sl a2 m.log.length, .i .i64 (k + 1), .i .i64 m.acked, .i .i64 m.ackLife])[s]? = some [.b m.up, .i .i64 m.life, .i .i64 m.epoch, .sl a2 m.log.length, .i .i64 (k + 1), .i .i64 m.acked, .i .i64 m.ackLife] := by simp [hrl]
  have y1' := y1
  simp only [Box.enc, hbe3] at y1'
  have hid2 := blkAt_len y1
  have hbl3 := blkAt_len hbbF
  have hsD : sayD x = (if (x.line.length : Int) < m.said + 1 then setLine (setTwo (acceptB x L) s ⟨m.up, m.life, m.epoch, m.log, k + 1, m.acked, m.ackLife⟩) (x.line ++ [m.log.getD m.said.toNat default]) else setTwo (acceptB x L) s ⟨m.up, m.life, m.epoch, m.log, k + 1, m.acked, m.ackLife⟩, 0) := by
    rw [sayD, if_neg (by rw [hw, hmA, hrdy]; simp)]
    have hL' : saying x.id x.ports m.log k = L := by rw [hL, hk]
    simp only [hw, hmA, hk, hL', Int.toNat_natCast]
  have hto : BoxTo H H2 id fp (setTwo (acceptB x L) s ⟨m.up, m.life, m.epoch, m.log, k + 1, m.acked, m.ackLife⟩) := by
    refine BoxTo.trans (H1 := H1) (f1 := g1) ((Keep.app [] H G2).trans k1 (by simp) (fun i hi _ => hi)) (fun i hi => ?_) ⟨_, g2, y1, y2, y3, y4, y5⟩
    rcases hg1 i hi with h | h
    · exact .inl h
    · exact .inr (by simp at h; omega)
  obtain ⟨p0, p1, p2, p3, p4, e0, e1, e2, e3, e4, hle, j0, j1, j2, ⟨a3, hp3, o3⟩, j4, rfl, hnd⟩ := y2
  simp only [Box.enc, setTwo, List.cons.injEq, and_true, true_and] at hle
  obtain ⟨rfl, rfl, rfl, rfl, rfl⟩ := hle
  have hln : (setTwo (acceptB x L) s ⟨m.up, m.life, m.epoch, m.log, k + 1, m.acked, m.ackLife⟩).line = x.line := rfl
  rw [hln] at hp3 o3
  subst hp3
  have hlx : x.line.length ≤ 60 := hl0
  have hH12 : H1.length = H2.length := by rw [hH2]; simp
  rw [← hH2]
  simp [y1', hbbF, hrow3, hid2, hbl3, builtinV, pureB, lenV]
  refine selS_intro (fun hc => ?_) (fun hc => ?_)
  · simp at hc
    have kk : Keep [bid] H1 H2 := by rw [hH2]; exact Keep.set _ _
    obtain ⟨id3, r3, bl3, rfl, hb3, hbe4, hrw3⟩ := (oa2.keep kk (fun i hi hj => by simp at hj; subst hj; exact hbfs2 hi)).sl k _ (by simp [hkl]; rfl)
    have hid3 := blkAt_len hb3
    have hw2 : IntKind.i64.wrap (k : Int) = (k : Int) := wrap64 (by omega) (by unfold Minder.sz at hmsz; omega)
    have hgd : m.log.getD m.said.toNat default = m.log[k] := by rw [hk, Int.toNat_natCast]; simp [List.getD, List.getElem?_eq_getElem hkl]
    rw [if_pos (by rw [hk]; omega), hgd] at hsD
    have hgl : (k : Int) < m.log.length := by omega
    simp [y1', hbbF, hrow3, hid2, hbl3, builtinV, pureB, lenV, hw2, indexAddrV, elemIs, hb3, hbe4, hid3, hrw3, hkl, hgl, In.enc]
    refine stpL_append (e := 50) (rows := x.line.map In.enc) (ys := [m.log[k].enc]) (o3.app _) (Sl.of (by simp [In.enc])) rfl rfl rfl (by simp) (by simp; omega) (by simp) rfl fun a'' H'' fp'' ho'' hk'' hf'' => ?_
    have k2 : Keep e3 H2 H'' := hk''.base
    have hi3 : id ∉ e3 := fun h => y3 (by simp [h])
    have b2 := k2.blk y1' hi3
    have d2 := blkAt_len b2
    simp [b2, d2]
    refine fin _ _ 0 _ hsD ?_ (by simp)
    have hf9 : ∀ i ∈ fp'', i ∈ e3 ∨ H2.length ≤ i := fun i hi => (hf'' i hi).imp (fun h => h) (fun h => by rw [List.length_append] at h; omega)
    have hq : IsInS H'' (.sl a'' (x.line.length + 1)) (x.line ++ [m.log[k]]) fp'' := ⟨a'', by simp, by simpa using ho''⟩
    have hbx := boxLine (x := setTwo (acceptB x L) s ⟨m.up, m.life, m.epoch, m.log, k + 1, m.acked, m.ackLife⟩) hid2 y3 j0 j1 j2 j4 hnd k2 hq hf9
    rw [hbe3] at hbx
    obtain ⟨_, _, -, -, -, zk, -⟩ := hto
    refine BoxTo.trans zk (f1 := e0 ++ (e1 ++ (e2 ++ (e3 ++ e4)))) (fun i hi => ?_) hbx
    rcases y5 i hi with h | h
    · rcases hg1 i h with h | h
      · exact .inl h
      · exact .inr (by simp at h; omega)
    · have := k1.1
      simp at this
      exact .inr (by omega)
  · simp at hc
    simp
    exact fin _ _ 0 _ (by rw [hsD, if_neg (by rw [hk]; omega)]) hto (by simp)

theorem giveM {H : Heap} {id : Nat} {l : List Lf} {x : Box} {fp : List Nat} (hb : blkAt H id = some ⟨44, .wr, [l]⟩) (hI : IsBox H l x fp) (hid : id ∉ fp) (hok : x.ok = true) (hn : x.sz ≤ 1048000) {i : Nat} (hi : i < x.net.length) :
    Runs env 128 [.ptr id 0 0, .int i] H fun v H' => v = .tup [] ∧ BoxTo H H' id fp (heardD (setNet x (x.net.eraseIdx i)) x.net[i]) := by
  have h2 := (Box.right hok).two
  have hidl := blkAt_len hb
  have hnet : x.net.length ≤ 20 ∧ ∀ w ∈ x.net, w.ok = true := by
    simp only [Box.ok, Bool.and_eq_true, List.all_eq_true, decide_eq_true_eq] at hok
    exact ⟨hok.1.1.1.1.1.2, hok.1.1.1.2⟩
  obtain ⟨w, hw⟩ : ∃ w, w = x.net[i] := ⟨_, rfl⟩
  have hwok := hnet.2 w (by rw [hw]; exact List.getElem_mem hi)
  have hfrm : 0 ≤ w.frm ∧ w.frm ≤ 1 := by simp [Wire.ok] at hwok; omega
  obtain ⟨s, hs⟩ : ∃ s : Nat, 1 - w.frm = (s : Int) := ⟨(1 - w.frm).toNat, by omega⟩
  have hs2 : s < 2 := by omega
  have hb0 := hb
  have hI0 := hI
  obtain ⟨q0, q1, q2, q3, q4, f0, f1, f2, f3, f4, rfl, i0, ⟨a1, rfl, o1⟩, i2, i3, i4, rfl, hnd⟩ := hI
  have hi1 : id ∉ f1 := fun h => hid (by simp [h])
  simp only [Box.enc] at hb
  have hbA := fun G => blkAt_app hb G
  have hid2 : id < H.length + 1 := by omega
  have hi20 : (i : Int) < x.net.length := by omega
  have hwr : IntKind.i64.wrap ((i : Int) + 1) = (i : Int) + 1 := wrap64 (by omega) (by omega)
  have hws : IntKind.i64.wrap (1 - w.frm) = (s : Int) := by rw [hs]; exact wrap64 (by omega) (by omega)
  obtain ⟨id3, r3, bl3, rfl, hb3, hbe3, hrow3⟩ := o1.sl i w.enc (by rw [List.getElem?_map, List.getElem?_eq_getElem hi, hw]; rfl)
  have hid3 := blkAt_len hb3
  have hbA3 := fun G => blkAt_app hb3 G
  rw [← hw]
  simp only [Wire.enc] at hrow3
  refine Runs.walk ok128 Tryz.func128 rfl (by simp [Tryz.f128]) fun Q hQ => ?_
  simp only [Tryz.f128, strip, stripL, stripI, stripG, chkT, tagsB, tagsL, tagD, addT, tagA, lookN, tagOp, elmT, ty24, ty25, ty26, ty27, ty28, ty39, ty40, ty41, ty42, ty57, ty59, ty62, ty98, Nat.reduceEqDiff, if_false, reduceIte, Option.getD_some, Option.getD_none, dstAt, dstOk, Nat.reduceLT, decide_true, if_true]
  simp [hb, hidl, hbA, hid2, indexAddrV, elemIs, hi, hi20, hb3, hid3, hbe3, hrow3, hwr]
  have hdel := deleteM (H := H ++ [some ⟨113, .wr, [w.enc]⟩]) (o1.app _) hi (by omega)
  simp only [Wire.enc, In.enc] at hdel
  refine stpL_runs hdel ?_
  rintro _ H1 ⟨q', rfl, oq, k1⟩
  have k1' : Keep f1 H H1 := k1.base
  have b1 := k1'.blk hb hi1
  have d1 := blkAt_len b1
  have hW : blkAt H1 H.length = some ⟨113, .wr, [w.enc]⟩ := k1.blk (by simp [Wire.enc, In.enc]) (fun h => by have := o1.lt _ h; omega)
  have dW := blkAt_len hW
  simp only [Wire.enc, In.enc] at hW
  have hx0 := boxNet (x := x) hidl hid i0 i2 i3 i4 hnd k1' oq (fun i hi => .inl hi)
  obtain ⟨H2, hH2⟩ : ∃ H2, H2 = H1.set id (some ⟨44, .wr, [x.enc q0 q' q2 q3 q4]⟩) := ⟨_, rfl⟩
  rw [← hH2] at hx0
  have hW2 : blkAt H2 H.length = some ⟨113, .wr, [[.i .i64 w.frm, .b w.ack, .i .i64 w.life, .i .i64 w.n, .i .i64 w.inn.kind, .i .i64 w.inn.port, .i .i64 w.inn.vec.root, .i .i64 w.inn.vec.cost, .i .i64 w.inn.vec.bridge, .i .i64 w.inn.vec.port, .i .i64 w.inn.hops, .b w.inn.up]]⟩ := by
    rw [hH2, blkAt_set_ne (by omega)]; exact hW
  have dW2 := blkAt_len hW2
  have hst : H1.set id (some ⟨44, .wr, [[.i .i64 x.id, .i .i64 x.ports, .i .i64 x.reg.epoch, .i .i64 x.reg.owner, .i .i64 x.reg.pair, q0, q', q2, q3, q4]]⟩) = H2 := by rw [hH2]; rfl
  simp [b1, d1, hst]
  obtain ⟨y, hy⟩ : ∃ y, y = setNet x (x.net.eraseIdx i) := ⟨_, rfl⟩
  rw [← hy] at hx0
  have hy2 : y.two.length = 2 := by rw [hy]; exact h2
  have hys : s < y.two.length := by omega
  obtain ⟨l2, fp2, b2, o2, hidf2, k2, hf2⟩ := hx0
  obtain ⟨bid, blo, r1, r2, r3, r4, row, fs, rfl, hbne, hbl, hbb, hbe, hbm, hrow, hrd, hbfs, hidfs, hput⟩ := boxTwoOwn b2 o2 hidf2 hys
  have b2' := b2
  simp only [Box.enc, hy2] at b2'
  have hid2' := blkAt_len b2
  have hs0 : (0 : Int) ≤ s := by omega
  have hsl2 : (s : Int) < 2 := by omega
  obtain ⟨m, hm⟩ : ∃ m, m = y.two[s] := ⟨_, rfl⟩
  rw [← hm] at hrd
  have hmA : mAt y (s : Int) = m := by simp [mAt, List.getD, List.getElem?_eq_getElem hys, hm]
  have hty : y.two = x.two := by rw [hy]; rfl
  have hmx : m ∈ x.two := by rw [hm, ← hty]; exact List.getElem_mem hys
  have mok := (Box.right hok).ok m hmx
  have hmsz : m.sz ≤ 1048576 := by
    have := MinderS.sz_at hmx
    unfold Box.sz at hn
    omega
  have hrdR := hrd.rd
  have e1 := fun G => implMinds_is (hrdR.app G) hmsz y.reg s (by unfold I64; omega)
  have hnote := implNote_is hrdR hmsz w.inn
  have hH := heardD.eq_1 y w
  simp only [hs, hmA, Int.toNat_natCast] at hH
  obtain ⟨a, rfl, oa⟩ := hrd
  simp only [Minder.enc, Reg.enc] at e1 hnote hrow
  simp only [In.enc] at hnote
  rw [← hy] at hQ
  have fin : ∀ (HF : Heap) (tm : Ab.T) (z : Box), heardD y w = z → BoxTo H HF id (f0 ++ (f1 ++ (f2 ++ (f3 ++ f4)))) z → Q .normal tm HF := by
    intro HF tm z h1 h
    refine hQ _ _ _ (by simp) ?_
    simp [Tryz.f128, h1]
    exact h.leave hb0 hI0 hid _
  have to0 : BoxTo H H2 id (f0 ++ (f1 ++ (f2 ++ (f3 ++ f4)))) y := ⟨_, fp2, b2, o2, hidf2, k2, hf2⟩
  simp [hW2, dW2, hws, b2', hid2', indexAddrV, elemIs, hbb, hbe, hbl, hs2, hs0, hsl2, hrow]
  cases hup : m.up
  · rw [if_pos hup] at hH
    simp
    exact fin _ _ y hH to0
  rw [if_neg (by simp [hup])] at hH
  cases hack : w.ack
  · simp [hack, hW2, dW2, b2', hid2', indexAddrV, elemIs, hbb, hbe, hbl, hs2, hs0, hsl2, hrow]
    rw [if_neg (by simp [hack])] at hH
    by_cases hlf : w.life = m.life
    · rw [if_neg (by simp [hlf])] at hH
      have hyn : y.net.length ≤ 1048576 := by rw [hy]; show (x.net.eraseIdx i).length ≤ _; have := List.length_eraseIdx_le x.net i; omega
      by_cases hnt : m.epoch = 0 ∧ w.n = (m.log.length : Int)
      · rw [if_pos hnt] at hH
        have hn1 := hnt.1
        have hn2 := hnt.2
        simp [hn1, hn2, hlf, hW2, dW2, b2', hid2', indexAddrV, elemIs, hbb, hbe, hbl, hs2, hs0, hsl2, hrow, builtinV, pureB, lenV]
        rw [hn1] at hnote
        refine stpL_runs_f hnote (by rintro _ _ ⟨_, _, _, _, hf⟩; exact hf.1) ?_
        rintro _ _ ⟨ln, fn, rfl, on, ⟨⟨G2, rfl⟩, hfn⟩⟩
        have hfn' : ∀ i ∈ fn, i ∈ fs ∨ H2.length ≤ i := fun i hi => .inr (hfn i hi)
        obtain ⟨an, rfl, oan⟩ := on
        have hbbA := fun G => blkAt_app hbb G
        have hbl4 : bid < H2.length + G2.length := by omega
        have hrl : s < blo.rows.length := (List.getElem?_eq_some_iff.1 hrow).1
        have hrow3 : ∀ r : List Lf, (blo.rows.set s r)[s]? = some r := fun r => by simp [hrl]
        have hset : ∀ y : Blk, blkAt ((H2 ++ G2).set bid (some y)) bid = some y := fun y => blkAt_set (by simp; omega)
        obtain ⟨g2, y1, y2, y3, y4, y5⟩ := hput (H2 ++ G2) _ (note m w.inn).1 fn (Keep.app _ _ _) ⟨an, rfl, oan⟩ hfn'
        have hlife : (note m w.inn).1.life = m.life := by unfold note; split <;> rfl
        have hmA2 : mAt (setTwo y s (note m w.inn).1) (s : Int) = (note m w.inn).1 := by simp [mAt, List.getD, setTwo, hys]
        rw [hmA2] at hH
        have hsd := sendM y1 y2 y3 (by exact hyn) ⟨s, true, m.life, (note m w.inn).1.log.length, ⟨0, 0, ⟨0, 0, 0, 0⟩, 0, false⟩⟩
        simp only [Wire.enc, Minder.enc, hlife] at hsd y4
        simp [Minder.enc, hbbA, hbl4, hbe, hbm, hrow, hset, hrow3, hlife, builtinV, pureB, lenV]
        refine stpL_runs_w hsd rfl (by rintro _ _ ⟨_, _, _, _, _, _, hk, _⟩; exact hk.1) ?_
        rintro _ HF ⟨rfl, hto⟩
        simp
        exact fin _ _ _ hH (BoxTo.trans k2 hf2 (BoxTo.trans y4 y5 hto))
      · rw [if_neg hnt, hmA] at hH
        have hsd := sendM b2 o2 hidf2 hyn ⟨s, true, m.life, m.log.length, ⟨0, 0, ⟨0, 0, 0, 0⟩, 0, false⟩⟩
        simp only [Wire.enc] at hsd
        by_cases hn1 : m.epoch = 0
        · have hn2 : ¬ w.n = (m.log.length : Int) := fun h => hnt ⟨hn1, h⟩
          simp [hn1, hn2, hlf, hW2, dW2, b2', hid2', indexAddrV, elemIs, hbb, hbe, hbl, hs2, hs0, hsl2, hrow, builtinV, pureB, lenV]
          refine stpL_runs_w hsd rfl (by rintro _ _ ⟨_, _, _, _, _, _, hk, _⟩; exact hk.1) ?_
          rintro _ HF ⟨rfl, hto⟩
          simp
          exact fin _ _ _ hH (BoxTo.trans k2 hf2 hto)
        · simp [hn1, hlf, hW2, dW2, b2', hid2', indexAddrV, elemIs, hbb, hbe, hbl, hs2, hs0, hsl2, hrow, builtinV, pureB, lenV]
          refine stpL_runs_w hsd rfl (by rintro _ _ ⟨_, _, _, _, _, _, hk, _⟩; exact hk.1) ?_
          rintro _ HF ⟨rfl, hto⟩
          simp
          exact fin _ _ _ hH (BoxTo.trans k2 hf2 hto)
    · rw [if_pos hlf] at hH
      simp [hlf]
      exact fin _ _ y hH to0
  · rw [if_pos hack] at hH
    simp [hup, hack, hW2, dW2, b2', hid2', indexAddrV, elemIs, hbb, hbe, hbl, hs2, hs0, hsl2, hrow]
    have e10 := implMinds_is hrdR hmsz y.reg s (by unfold I64; omega)
    simp only [Minder.enc, Reg.enc] at e10
    have hrl : s < blo.rows.length := (List.getElem?_eq_some_iff.1 hrow).1
    have upd : ∀ tm : Ab.T, minds y.reg s m = true → (m.ackLife < w.life ∨ (w.life = m.ackLife ∧ m.acked < w.n)) → ∀ k : Int, min w.n (m.log.length : Int) = k → Q .normal tm (H2.set bid (some ⟨106, .wr, blo.rows.set s [.b m.up, .i .i64 m.life, .i .i64 m.epoch, .sl a m.log.length, .i .i64 m.said, .i .i64 k, .i .i64 w.life]⟩)) := by
      intro tm hmi hnew k hk
      rw [if_pos ⟨hmi, hnew⟩, hk] at hH
      obtain ⟨g2, y1, y2, y3, y4, y5⟩ := hput H2 [.b m.up, .i .i64 m.life, .i .i64 m.epoch, .sl a m.log.length, .i .i64 m.said, .i .i64 k, .i .i64 w.life] ⟨m.up, m.life, m.epoch, m.log, m.said, k, w.life⟩ fs (Keep.refl _ _) ⟨a, rfl, oa⟩ (fun i hi => .inl hi)
      exact fin _ _ _ hH (BoxTo.trans k2 hf2 ⟨_, g2, y1, y2, y3, y4, y5⟩)
    have skp : ∀ tm : Ab.T, ¬ (minds y.reg s m = true ∧ (m.ackLife < w.life ∨ (w.life = m.ackLife ∧ m.acked < w.n))) → Q .normal tm H2 := by
      intro tm h
      rw [if_neg h] at hH
      exact fin _ _ y hH to0
    cases hmi : minds y.reg s m
    · by_cases c1 : m.ackLife < w.life
      · simp [hmi, c1, hW2, dW2, b2', hid2', indexAddrV, elemIs, hbb, hbe, hbl, hs2, hs0, hsl2, hrow, e10]
        exact skp _ (by simp [hmi])
      · by_cases c2 : w.life = m.ackLife
        · simp [hmi, c1, c2, hW2, dW2, b2', hid2', indexAddrV, elemIs, hbb, hbe, hbl, hs2, hs0, hsl2, hrow, e10]
          exact skp _ (by simp [hmi])
        · simp [hmi, c1, c2, hW2, dW2, b2', hid2', indexAddrV, elemIs, hbb, hbe, hbl, hs2, hs0, hsl2, hrow, e10]
          exact skp _ (by simp [hmi])
    · have hmn : ∀ k : Int, k = min w.n (m.log.length : Int) → (if (m.log.length : Int) < w.n then (m.log.length : Int) else w.n) = k := by intro k hk; rw [hk]; split <;> omega
      have hrow3 : ∀ r : List Lf, (blo.rows.set s r)[s]? = some r := fun r => by simp [hrl]
      by_cases c1 : m.ackLife < w.life
      · simp [hmi, c1, hW2, dW2, b2', hid2', indexAddrV, elemIs, hbb, hbe, hbl, hs2, hs0, hsl2, hrow, e10, builtinV, pureB, lenV, foldI, hbm, hrow3, blkAt_set]
        exact upd _ hmi (.inl c1) _ (by split <;> omega)
      · by_cases c2 : w.life = m.ackLife
        · rw [c2] at upd
          by_cases c3 : m.acked < w.n
          · simp [hmi, c1, c2, c3, hW2, dW2, b2', hid2', indexAddrV, elemIs, hbb, hbe, hbl, hs2, hs0, hsl2, hrow, e10, builtinV, pureB, lenV, foldI, hbm, hrow3, blkAt_set]
            exact upd _ hmi (.inr ⟨rfl, c3⟩) _ (by split <;> omega)
          · simp [hmi, c1, c2, c3, hW2, dW2, b2', hid2', indexAddrV, elemIs, hbb, hbe, hbl, hs2, hs0, hsl2, hrow, e10]
            exact skp _ (by simp [hmi, c2]; omega)
        · simp [hmi, c1, c2, hW2, dW2, b2', hid2', indexAddrV, elemIs, hbb, hbe, hbl, hs2, hs0, hsl2, hrow, e10]
          exact skp _ (by simp [hmi]; omega)

theorem onWireM {H : Heap} {id : Nat} {l : List Lf} {x : Box} {fp : List Nat} (hb : blkAt H id = some ⟨44, .wr, [l]⟩) (hI : IsBox H l x fp) (hid : id ∉ fp) (hok : x.ok = true) (hn : x.sz ≤ 1048000) (d : Deed) :
    Runs env 109 [.ptr id 0 0, .agg d.enc] H fun v H' => v = .int (onWireD x d).2 ∧ BoxTo H H' id fp (onWireD x d).1 := by
  have hidl := blkAt_len hb
  have hnet : x.net.length ≤ 20 := by
    simp only [Box.ok, Bool.and_eq_true, List.all_eq_true, decide_eq_true_eq] at hok
    exact hok.1.1.1.1.1.2
  have hb0 := hb
  have hI0 := hI
  obtain ⟨q0, q1, q2, q3, q4, f0, f1, f2, f3, f4, rfl, i0, ⟨a1, rfl, o1⟩, i2, i3, i4, rfl, hnd⟩ := hI
  have hi1 : id ∉ f1 := fun h => hid (by simp [h])
  simp only [Box.enc] at hb
  have hbA := fun G => blkAt_app hb G
  have hid2 : id < H.length + 1 := by omega
  have hws : IntKind.i64.wrap ((x.net.length : Int) - 1) = (x.net.length : Int) - 1 := wrap64 (by omega) (by omega)
  refine Runs.walk ok109 Tryz.func109 rfl (by simp [Tryz.f109]) fun Q hQ => ?_
  simp only [Tryz.f109, strip, stripL, stripI, stripG, chkT, tagsB, tagsL, tagD, addT, tagA, lookN, tagOp, elmT, ty24, ty25, ty26, ty27, ty28, ty39, ty40, ty41, ty42, ty57, ty59, ty62, ty98, Nat.reduceEqDiff, if_false, reduceIte, Option.getD_some, Option.getD_none, dstAt, dstOk, Nat.reduceLT, decide_true, if_true]
  have fin : ∀ (HF : Heap) (tm : Ab.T) (c : Int) (z : Box), onWireD x d = (z, c) → BoxTo H HF id (f0 ++ (f1 ++ (f2 ++ (f3 ++ f4)))) z → tm 4 = .int c → Q .ret tm HF := by
    intro HF tm c z h1 h t4
    refine hQ _ _ _ (by simp) ?_
    simp [Tryz.f109, h1, t4]
    exact h.leave hb0 hI0 hid _
  simp [hbA, hidl, hid2, Deed.enc, builtinV, pureB, lenV, hws, inRange]
  by_cases hin : 0 ≤ d.a ∧ d.a ≤ (x.net.length : Int) - 1
  · obtain ⟨i, hi⟩ : ∃ i : Nat, d.a = (i : Int) := ⟨d.a.toNat, by omega⟩
    have hil : i < x.net.length := by omega
    have hi20 : (i : Int) < x.net.length := by omega
    have hwr : IntKind.i64.wrap ((i : Int) + 1) = (i : Int) + 1 := wrap64 (by omega) (by omega)
    have hle : (i : Int) ≤ (x.net.length : Int) - 1 := by omega
    have hD : onWireD x d = if d.kind = 5 then sendD x x.net[i] else if d.kind = 4 then (setNet x (x.net.eraseIdx i), 0) else (heardD (setNet x (x.net.eraseIdx i)) x.net[i], 0) := by
      rw [onWireD, if_neg (by omega), hi, Int.toNat_natCast]
      simp [List.getD, List.getElem?_eq_getElem hil]
    simp [hi, hle]
    by_cases h4 : d.kind = 4
    · rw [if_neg (by omega), if_pos h4] at hD
      simp [h4, hi, hwr, hbA, hid2]
      refine stpL_runs_w (deleteM (o1.app _) hil (by omega)) rfl (by rintro _ _ ⟨_, _, _, hk⟩; exact hk.1) ?_
      rintro _ H1 ⟨q', rfl, oq, k1⟩
      have k1' : Keep f1 H H1 := k1.base
      have b1 := k1'.blk hb hi1
      have d1 := blkAt_len b1
      simp [b1, d1]
      exact fin _ _ 0 _ hD (boxNet (x := x) hidl hid i0 i2 i3 i4 hnd k1' oq (fun i hi => .inl hi)) (by simp)
    · by_cases h5 : d.kind = 5
      · rw [if_pos h5] at hD
        obtain ⟨id3, r3, bl3, rfl, hb3, hbe3, hrow3⟩ := o1.sl i x.net[i].enc (by rw [List.getElem?_map, List.getElem?_eq_getElem hil]; rfl)
        have hid3 := blkAt_len hb3
        have hbA3 := fun G => blkAt_app hb3 G
        have hid4 : id3 < H.length + 1 := by omega
        have hsd := fun G => sendM (blkAt_app hb0 G) (hI0.app G) hid (by omega) x.net[i]
        simp only [Wire.enc] at hrow3 hsd
        simp [h5, hi, hbA, hid2, hbA3, hid4, hbe3, indexAddrV, elemIs, hi20, hil, hrow3]
        refine stpL_runs_w (hsd _) rfl (by rintro _ _ ⟨_, _, _, _, _, _, hk, _⟩; exact hk.1) ?_
        rintro _ HF ⟨rfl, hto⟩
        simp
        refine fin _ _ (sendD x x.net[i]).2 (sendD x x.net[i]).1 hD (BoxTo.trans (Keep.app _ _ _) (fun i hi => .inl hi) hto) ?_
        simp
      · rw [if_neg h5, if_neg h4] at hD
        simp [h4, h5, hi]
        refine stpL_runs (giveM (blkAt_app hb0 _) (hI0.app _) hid hok hn hil) ?_
        rintro _ HF ⟨rfl, hto⟩
        simp
        refine fin _ _ 0 _ hD (BoxTo.trans (Keep.app _ _ _) (fun i hi => .inl hi) hto) ?_
        simp
  · have hf : (!decide (0 ≤ d.a) || !decide (d.a ≤ (x.net.length : Int) - 1)) = true := by
      rcases Int.lt_or_le d.a 0 with h | h
      · simp [show ¬ 0 ≤ d.a by omega]
      · simp [show ¬ d.a ≤ (x.net.length : Int) - 1 by omega]
    rw [hf]
    simp
    refine fin _ _ 2 x (by rw [onWireD, if_pos (by omega)]) (BoxTo.app hb0 hI0 hid _) ?_
    simp

theorem setTwo_ok {x : Box} (h : x.ok = true) {s : Nat} {m : Minder} (hm : m.ok = true) : (setTwo x s m).ok = true := by
  have hall : (x.two.set s m).all Minder.ok = true := by
    rw [List.all_eq_true]
    intro k hk
    rcases List.mem_or_eq_of_mem_set hk with hk | rfl
    · exact (List.all_eq_true.1 (by simp only [Box.ok, Bool.and_eq_true] at h; exact h.1.1.1.1.2)) k hk
    · exact hm
  simp only [Box.ok, setTwo, Bool.and_eq_true] at h ⊢
  obtain ⟨⟨⟨⟨⟨⟨⟨⟨h1, h2⟩, h3⟩, h4⟩, h5⟩, h6⟩, h7⟩, h8⟩, h9⟩ := h
  exact ⟨⟨⟨⟨⟨⟨⟨⟨h1, h2⟩, decide_eq_true ((List.length_set).trans (of_decide_eq_true h3))⟩, h4⟩, hall⟩, h6⟩, h7⟩, h8⟩, h9⟩
theorem newLife_set {x : Box} (h2 : x.two.length = 2) {s : Nat} (hs : s < 2) {m : Minder} (hm : m.life = (mAt x (s : Int)).life) : setTwo (setTwo x s m) s (newLife (setTwo x s m)) = setTwo x s (newLife x) := by
  obtain ⟨id, ports, reg, two, net, gates, line, said⟩ := x
  match two, h2 with
  | [p, q], _ =>
    obtain rfl | rfl : s = 0 ∨ s = 1 := by omega
    · simp [mAt] at hm
      simp [setTwo, newLife, mAt, hm]
    · simp [mAt] at hm
      simp [setTwo, newLife, mAt, hm]

theorem onMinderM {H : Heap} {id : Nat} {l : List Lf} {x : Box} {fp : List Nat} (hb : blkAt H id = some ⟨44, .wr, [l]⟩) (hI : IsBox H l x fp) (hid : id ∉ fp) (hok : x.ok = true) (hn : x.sz ≤ 1048000) (d : Deed) {s : Nat} (hs2 : s < 2) (hda : d.a = (s : Int)) :
    Runs env 110 [.ptr id 0 0, .agg d.enc] H fun v H' => v = .int (onMinderD x d).2 ∧ BoxTo H H' id fp (onMinderD x d).1 := by
  have h2 := (Box.right hok).two
  have hidl := blkAt_len hb
  have hs : s < x.two.length := by omega
  have hb0 := hb
  obtain ⟨bid, blo, q1, q2, q3, q4, row, fs, rfl, hbne, hbl, hbb, hbe, hbm, hrow, hrd, hbfs, hidfs, hput⟩ := boxTwoOwn hb hI hid hs
  simp only [Box.enc, h2] at hb
  have hmx := List.getElem_mem hs
  obtain ⟨m, hm⟩ : ∃ m, m = x.two[s] := ⟨_, rfl⟩
  rw [← hm] at hrd hmx
  have mok := (Box.right hok).ok m hmx
  have hmsz : m.sz ≤ 1048576 := by
    have := MinderS.sz_at hmx
    unfold Box.sz at hn
    omega
  have hmA : mAt x (s : Int) = m := by simp [mAt, List.getD, List.getElem?_eq_getElem hs, hm]
  have hrdR := hrd.rd
  have e1 := fun G => implMinds_is (hrdR.app G) hmsz x.reg s (by unfold I64; omega)
  obtain ⟨a, rfl, oa⟩ := hrd
  simp only [Minder.enc, Reg.enc] at e1
  have hrow' := hrow
  simp only [Minder.enc] at hrow
  have hal : I64 m.ackLife := by simp [Minder.ok] at mok; unfold I64; omega
  have hs0 : (0 : Int) ≤ s := by omega
  have hsl2 : (s : Int) < 2 := by omega
  have hbA := fun G => blkAt_app hb G
  have hbbA := fun G => blkAt_app hbb G
  have hid1 : id < H.length + 1 := by omega
  have hid2 : id < H.length + 2 := by omega
  have hbl1 : bid < H.length + 1 := by omega
  have hbl2 : bid < H.length + 2 := by omega
  have hD := onMinderD.eq_1 x d
  simp only [hda, hmA, Int.toNat_natCast] at hD
  refine Runs.walk ok110 Tryz.func110 rfl (by simp [Tryz.f110]) fun Q hQ => ?_
  simp only [Tryz.f110, strip, stripL, stripI, stripG, chkT, tagsB, tagsL, tagD, addT, tagA, lookN, tagOp, elmT, ty24, ty25, ty26, ty27, ty28, ty39, ty40, ty41, ty42, ty57, ty59, ty62, ty98, Nat.reduceEqDiff, if_false, reduceIte, Option.getD_some, Option.getD_none, dstAt, dstOk, Nat.reduceLT, decide_true, if_true]
  have fin : ∀ (HF : Heap) (tm : Ab.T) (c : Int) (z : Box), onMinderD x d = (z, c) → BoxTo H HF id fp z → tm 4 = .int c → Q .ret tm HF := by
    intro HF tm c z h1 h t4
    refine hQ _ _ _ (by simp) ?_
    simp [Tryz.f110, h1, t4]
    exact h.leave hb0 hI hid _
  simp [Deed.enc, hda, hbA, hid1, indexAddrV, elemIs, hbbA, hbl1, hbe, hs2, hs0, hsl2, hrow]
  have tr : ∀ {G HF : Heap} {z : Box}, BoxTo (H ++ G) HF id fp z → BoxTo H HF id fp z := fun h => BoxTo.trans (Keep.app _ _ _) (fun i hi => .inl hi) h
  by_cases c2 : d.kind = 2
  · rw [if_pos c2] at hD
    simp [c2]
    refine stpL_runs (shipM (blkAt_app hb0 _) (hI.app _) hid hok (by omega) hs2) ?_
    rintro _ HF ⟨rfl, hto⟩
    simp
    refine fin _ _ (shipD x s).2 (shipD x s).1 hD (tr hto) ?_
    simp
  rw [if_neg c2] at hD
  by_cases c9 : d.kind = 9
  · rw [if_pos c9] at hD
    simp [c9]
    refine stpL_runs (takeM (blkAt_app hb0 _) (hI.app _) hid hok (by omega) hs2) ?_
    rintro _ HF ⟨rfl, hto⟩
    simp
    refine fin _ _ (takeD x s).2 (takeD x s).1 hD (tr hto) ?_
    simp
  rw [if_neg c9] at hD
  by_cases c10 : d.kind = 10
  · rw [if_pos c10] at hD
    simp [c10]
    refine stpL_runs (pairM (blkAt_app hb0 _) (hI.app _) hid hok (by omega) hs2 m.ackLife hal) ?_
    rintro _ HF ⟨rfl, hto⟩
    simp
    refine fin _ _ (pairD x s m.ackLife).2 (pairD x s m.ackLife).1 hD (tr hto) ?_
    simp
  rw [if_neg c10] at hD
  by_cases c11 : d.kind = 11
  · rw [if_pos c11] at hD
    simp [c11]
    refine stpL_runs (pairM (blkAt_app hb0 _) (hI.app _) hid hok (by omega) hs2 0 (by unfold I64; omega)) ?_
    rintro _ HF ⟨rfl, hto⟩
    simp
    refine fin _ _ (pairD x s 0).2 (pairD x s 0).1 hD (tr hto) ?_
    simp
  rw [if_neg c11] at hD
  by_cases c8 : d.kind = 8
  · rw [if_pos c8] at hD
    cases hup : m.up
    · rw [if_neg (by simp [hup])] at hD
      simp [c8, hup]
      refine stpL_runs (riseM (blkAt_app hb0 _) (hI.app _) hid hok hs2) ?_
      rintro _ HF ⟨rfl, hto⟩
      simp
      refine fin _ _ 0 _ hD (tr hto) ?_
      simp
    · rw [if_pos hup] at hD
      simp [c8, hup]
      refine fin _ _ 3 x hD (BoxTo.app hb0 hI hid _) ?_
      simp
  rw [if_neg c8] at hD
  simp [c2, c9, c10, c11, c8]
  cases hup : m.up
  · rw [if_pos hup] at hD
    simp
    refine fin _ _ 3 x hD (BoxTo.app hb0 hI hid _) ?_
    simp
  rw [if_neg (by simp [hup])] at hD
  rw [hup] at e1
  have hrl : s < blo.rows.length := (List.getElem?_eq_some_iff.1 hrow).1
  have hLr : ([.b true, .i .i64 m.life, .i .i64 m.epoch, .sl a m.log.length, .i .i64 m.said, .i .i64 m.acked, .i .i64 m.ackLife] : List Lf).drop 7 = [] := rfl
  obtain ⟨fp9, y1, y2, y3, y4, y5⟩ := hput (H ++ [some ⟨52, .wr, [d.enc]⟩, some ⟨106, .wr, [m.enc a]⟩]) [.b false, .i .i64 m.life, .i .i64 0, .sl none 0, .i .i64 0, .i .i64 0, .i .i64 0] ⟨false, m.life, 0, [], 0, 0, 0⟩ [] (Keep.app [] H _) ⟨none, rfl, Own.nil _ _⟩ (by simp)
  have to1 := (⟨_, fp9, y1, y2, y3, y4, y5⟩ : BoxTo H _ id fp (setTwo x s ⟨false, m.life, 0, [], 0, 0, 0⟩))
  have hse : ∀ (X : Heap) (y : Option Blk), blkAt (List.set X bid y) H.length = blkAt X H.length := fun X y => blkAt_set_ne (by omega)
  have hok1 : (setTwo x s ⟨false, m.life, 0, [], 0, 0, 0⟩).ok = true := setTwo_ok hok (by simp [Minder.ok, logOk] at mok ⊢; omega)
  simp only [Deed.enc, Minder.enc, hda, hup] at y1 y2 y4
  simp only [Deed.enc, Minder.enc, hda, hup] at to1
  by_cases c12 : d.kind = 12
  · rw [if_pos c12] at hD
    by_cases hno : m.epoch = 0 ∨ minds x.reg s m = true
    · rw [if_pos hno] at hD
      by_cases he : m.epoch = 0
      · simp [c12, he]
        refine fin _ _ 3 x hD (BoxTo.app hb0 hI hid _) ?_
        simp
      · have hmi := hno.resolve_left he
        simp [c12, he, hbA, hid2, e1, hmi]
        refine fin _ _ 3 x hD (BoxTo.app hb0 hI hid _) ?_
        simp
    · rw [if_neg hno] at hD
      have he : ¬ m.epoch = 0 := fun h => hno (.inl h)
      have hmi : minds x.reg s m = false := by cases h : minds x.reg s m; rfl; exact absurd (.inr h) hno
      rw [c12] at y1 y2 y4
      simp [c12, he, hbA, hid2, e1, hmi, indexAddrV, elemIs, hbbA, hbl2, hbe, hs2, hs0, hsl2, hrow, hbm]
      simp [hse]
      refine stpL_runs (riseM y1 y2 y3 hok1 hs2) ?_
      rintro _ HF ⟨rfl, hto⟩
      simp
      have hnl : setTwo (setTwo x s ⟨false, m.life, 0, [], 0, 0, 0⟩) s (newLife (setTwo x s ⟨false, m.life, 0, [], 0, 0, 0⟩)) = setTwo x s (newLife x) := newLife_set h2 hs2 (by rw [hmA])
      rw [hnl] at hto
      refine fin _ _ 0 _ hD (BoxTo.trans y4 y5 hto) ?_
      simp
  · rw [if_neg c12] at hD
    simp [c12, hbA, hid2, indexAddrV, elemIs, hbbA, hbl2, hbe, hs2, hs0, hsl2, hrow, hbm]
    simp [hse, c12]
    refine fin _ _ 0 _ hD to1 ?_
    simp

theorem deedM {H : Heap} {id : Nat} {l : List Lf} {x : Box} {fp : List Nat} (hb : blkAt H id = some ⟨44, .wr, [l]⟩) (hI : IsBox H l x fp) (hid : id ∉ fp) (hok : x.ok = true) (hn : x.sz ≤ 1048000) (d : Deed) :
    Runs env 81 [.ptr id 0 0, .agg d.enc] H fun v H' => v = .int (deedD x d).2 ∧ BoxTo H H' id fp (deedD x d).1 := by
  have hD := deedD.eq_1 x d
  have tr : ∀ {G HF : Heap} {z : Box}, BoxTo (H ++ G) HF id fp z → BoxTo H HF id fp z := fun h => BoxTo.trans (Keep.app _ _ _) (fun i hi => .inl hi) h
  refine Runs.walk ok81 Tryz.func81 rfl (by simp [Tryz.f81]) fun Q hQ => ?_
  simp only [Tryz.f81, strip, stripL, stripI, stripG, chkT, tagsB, tagsL, tagD, addT, tagA, lookN, tagOp, elmT, ty24, ty25, ty26, ty27, ty28, ty39, ty40, ty41, ty42, ty57, ty59, ty62, ty98, Nat.reduceEqDiff, if_false, reduceIte, Option.getD_some, Option.getD_none, dstAt, dstOk, Nat.reduceLT, decide_true, if_true]
  have fin : ∀ (HF : Heap) (tm : Ab.T) (c : Int) (z : Box), deedD x d = (z, c) → BoxTo H HF id fp z → tm 4 = .int c → Q .ret tm HF := by
    intro HF tm c z h1 h t4
    refine hQ _ _ _ (by simp) ?_
    simp [Tryz.f81, h1, t4]
    exact h.leave hb hI hid _
  simp [Deed.enc]
  by_cases c1 : d.kind = 1
  · rw [if_pos c1] at hD
    have hr := fun G => noteM (blkAt_app hb G) (hI.app G) hid hok (by omega) d.inn
    simp only [In.enc] at hr
    simp [c1]
    refine stpL_runs (hr _) ?_
    rintro _ HF ⟨rfl, hto⟩
    simp
    refine fin _ _ (inD x d.inn).2 (inD x d.inn).1 hD (tr hto) ?_
    simp
  rw [if_neg c1] at hD
  by_cases c6 : d.kind = 6
  · rw [if_pos c6] at hD
    simp [c6]
    refine stpL_runs (sayM (blkAt_app hb _) (hI.app _) hid hok hn) ?_
    rintro _ HF ⟨rfl, hto⟩
    simp
    refine fin _ _ (sayD x).2 (sayD x).1 hD (tr hto) ?_
    simp
  rw [if_neg c6] at hD
  have hw := fun G => onWireM (blkAt_app hb G) (hI.app G) hid hok hn d
  have hm := fun G (s : Nat) hs h => onMinderM (blkAt_app hb G) (hI.app G) hid hok hn d (s := s) hs h
  simp only [Deed.enc] at hw hm
  have goW : onWireD x d = onWireD x d := rfl
  by_cases c345 : d.kind = 3 ∨ d.kind = 4 ∨ d.kind = 5
  · rw [if_pos c345] at hD
    rcases c345 with c | c | c
    all_goals
      rw [c] at hw
      simp [c]
      refine stpL_runs (hw _) ?_
      rintro _ HF ⟨rfl, hto⟩
      simp
      refine fin _ _ (onWireD x d).2 (onWireD x d).1 hD (tr hto) ?_
      simp
  rw [if_neg c345] at hD
  have c3 : ¬ d.kind = 3 := fun h => c345 (.inl h)
  have c4 : ¬ d.kind = 4 := fun h => c345 (.inr (.inl h))
  have c5 : ¬ d.kind = 5 := fun h => c345 (.inr (.inr h))
  simp [c1, c6, c3, c4, c5, isSide]
  by_cases hs : 0 ≤ d.a ∧ d.a ≤ 1
  · rw [if_neg (by simpa using hs)] at hD
    obtain ⟨s, hs2, hda⟩ : ∃ s : Nat, s < 2 ∧ d.a = (s : Int) := ⟨d.a.toNat, by omega, by omega⟩
    have h01 : (!decide (d.a = 0) && !decide (d.a = 1)) = false := by
      rcases (show d.a = 0 ∨ d.a = 1 by omega) with h | h <;> simp [h]
    rw [h01]
    simp
    refine stpL_runs (hm _ s hs2 hda) ?_
    rintro _ HF ⟨rfl, hto⟩
    simp
    refine fin _ _ (onMinderD x d).2 (onMinderD x d).1 hD (tr hto) ?_
    simp
  · rw [if_pos hs] at hD
    have h0 : ¬ d.a = 0 := by omega
    have h1 : ¬ d.a = 1 := by omega
    simp [h0, h1]
    refine fin _ _ 2 x hD (BoxTo.app hb hI hid _) ?_
    simp

structure Small (y : Box) : Prop where
  two : y.two.length = 2
  log : ∀ m ∈ y.two, m.log.length ≤ 61
  net : y.net.length ≤ 22
  gates : y.gates.length ≤ 4
  line : y.line.length ≤ 61
  said : y.said.length ≤ 40
theorem Small.sz {y : Box} (h : Small y) : y.sz ≤ 1000 := by
  obtain ⟨h1, h2, h3, h4, h5, h6⟩ := h
  obtain ⟨id, ports, reg, two, net, gates, line, said⟩ := y
  match two, h1 with
  | [m, n], _ =>
    have a := h2 m (by simp)
    have b := h2 n (by simp)
    simp [Box.sz, MinderS.sz, Minder.sz] at *
    omega
theorem Small.setTwo {y : Box} (h : Small y) (s : Nat) {m : Minder} (hm : m.log.length ≤ 61) : Small (setTwo y s m) :=
  ⟨(List.length_set).trans h.two, fun k hk => by
    rcases List.mem_or_eq_of_mem_set hk with hk | rfl
    · exact h.log k hk
    · exact hm, h.net, h.gates, h.line, h.said⟩
theorem Small.setNet {y : Box} (h : Small y) {ws : List Wire} (hw : ws.length ≤ 22) : Small (setNet y ws) := ⟨h.two, h.log, hw, h.gates, h.line, h.said⟩
theorem Small.setReg {y : Box} (h : Small y) (r : Reg) : Small (setReg y r) := ⟨h.two, h.log, h.net, h.gates, h.line, h.said⟩
theorem Small.setLine {y : Box} (h : Small y) {l : List In} (hl : l.length ≤ 61) : Small (setLine y l) := ⟨h.two, h.log, h.net, h.gates, hl, h.said⟩
theorem Small.send {y : Box} (h : Small y) (w : Wire) : Small (sendD y w).1 := by
  unfold sendD
  split
  · exact h
  · exact h.setNet (by simp; omega)
theorem Small.accept {x : Box} (h : Small x) (L : List Out) : Small (acceptB x L) :=
  ⟨h.two, h.log, h.net, Nat.le_trans (Nat.le_of_eq (accGates_len L x.gates)) h.gates, h.line, (lastL_len (x.said ++ L)).1⟩
theorem note_len (m : Minder) (i : In) : (note m i).1.log.length ≤ m.log.length + 1 := by unfold note; split <;> simp
theorem takeR_log (r : Reg) (s : Int) (m : Minder) : (takeR r s m).2.1.log = m.log := by unfold takeR; split <;> rfl
theorem Box.smallOf {x : Box} (h : x.ok = true) : Small x ∧ x.line.length ≤ 60 ∧ x.net.length ≤ 20 ∧ ∀ m ∈ x.two, m.log.length ≤ 60 := by
  simp only [Box.ok, Bool.and_eq_true, decide_eq_true_eq, List.all_eq_true] at h
  obtain ⟨⟨⟨⟨⟨⟨⟨⟨h1, h2⟩, h3⟩, h4⟩, h5⟩, h6⟩, h7⟩, h8⟩, h9⟩ := h
  have hb := bridgeNew_yes h1
  have hl : x.line.length ≤ 60 := by simp [logOk] at h8; omega
  have hm : ∀ m ∈ x.two, m.log.length ≤ 60 := fun m hm => by
    have a := h5 m hm
    simp [Minder.ok, logOk] at a; omega
  exact ⟨⟨h3, fun m h => by have := hm m h; omega, by omega, by omega, by omega, h9⟩, hl, h4, hm⟩
theorem mAt_log {x : Box} {n : Nat} (h : ∀ m ∈ x.two, m.log.length ≤ n) (s : Int) : (mAt x s).log.length ≤ n := by
  unfold mAt
  rcases Nat.lt_or_ge s.toNat x.two.length with hl | hl
  · rw [List.getD_eq_getElem?_getD, List.getElem?_eq_getElem hl]
    exact h _ (List.getElem_mem hl)
  · rw [List.getD_eq_getElem?_getD, List.getElem?_eq_none hl]
    exact Nat.zero_le _
theorem Small.heard {y : Box} (h : Small y) (hl : ∀ m ∈ y.two, m.log.length ≤ 60) (w : Wire) : Small (heardD y w) := by
  unfold heardD
  have hm := mAt_log hl (1 - w.frm)
  have hm61 : (mAt y (1 - w.frm)).log.length ≤ 61 := by omega
  have hn := note_len (mAt y (1 - w.frm)) w.inn
  dsimp only
  split
  · exact h
  · split
    · split
      · exact h.setTwo _ hm61
      · exact h
    · split
      · exact h
      · refine Small.send ?_ _
        split
        · exact h.setTwo _ (by omega)
        · exact h
theorem deedD_small {x : Box} (hok : x.ok = true) (d : Deed) : Small (deedD x d).1 := by
  obtain ⟨h, hl, hw, hm⟩ := Box.smallOf hok
  have hmA := mAt_log hm
  have hE : ∀ i, (x.net.eraseIdx i).length ≤ 22 := fun i => by have := List.length_eraseIdx_le x.net i; omega
  unfold deedD
  split
  · unfold inD
    split
    · exact h
    · split
      · exact h.setTwo _ (by have := note_len (mAt x (whoM x)) d.inn; have := hmA (whoM x); omega)
      · exact h
  split
  · unfold sayD
    split
    · exact h
    · dsimp only
      have hx : Small (setTwo (acceptB x (saying x.id x.ports (mAt x (whoM x)).log (mAt x (whoM x)).said)) (whoM x).toNat ⟨(mAt x (whoM x)).up, (mAt x (whoM x)).life, (mAt x (whoM x)).epoch, (mAt x (whoM x)).log, (mAt x (whoM x)).said + 1, (mAt x (whoM x)).acked, (mAt x (whoM x)).ackLife⟩) := by
        exact Small.setTwo (h.accept _) _ (show (mAt x (whoM x)).log.length ≤ 61 by have := hmA (whoM x); omega)
      split
      · exact hx.setLine (by simp; omega)
      · exact hx
  split
  · unfold onWireD
    split
    · exact h
    · split
      · exact h.send _
      · split
        · exact h.setNet (hE _)
        · exact Small.heard (h.setNet (hE _)) hm _
  split
  · exact h
  unfold onMinderD
  dsimp only
  have hnl : (newLife x).log.length ≤ 61 := Nat.zero_le _
  split
  · unfold shipD
    split
    · exact h
    · exact h.send _
  split
  · unfold takeD
    dsimp only
    split
    · exact h
    · split
      · exact h
      · refine Small.setTwo (h.setReg _) _ ?_
        simp only [takeR_log]
        have := hmA d.a; omega
  split
  · unfold pairD
    split
    · exact h.setReg _
    · exact h
  split
  · unfold pairD
    split
    · exact h.setReg _
    · exact h
  split
  · split
    · exact h
    · exact h.setTwo _ hnl
  split
  · exact h
  split
  · split
    · exact h
    · exact h.setTwo _ hnl
  · exact h.setTwo _ (Nat.zero_le _)

theorem doM {H : Heap} {l : List Lf} {x : Box} (h : RdBox H l x) (hok : x.ok = true) (d : Deed) :
    Runs env 40 [.agg l, .agg d.enc] H fun v H' => ∃ l' fp, v = .tup [.agg l', .lf (.i .i64 (doR x d).2)] ∧ IsBox H' l' (doR x d).1 fp ∧ Fresh H H' fp := by
  have hR := h
  obtain ⟨hsm, -⟩ := Box.smallOf hok
  have hn := hsm.sz
  obtain ⟨y, hy⟩ : ∃ y, y = (deedD x d).1 := ⟨_, rfl⟩
  obtain ⟨c, hc⟩ : ∃ c, c = (deedD x d).2 := ⟨_, rfl⟩
  have hsy := (deedD_small hok d).sz
  rw [← hy] at hsy
  have hD := doR.eq_1 x d
  rw [← hy, ← hc] at hD
  obtain ⟨q0, q1, q2, q3, q4, rfl, r0, r1, r2, r3, r4⟩ := h
  refine Runs.walk ok40 Tryz.func40 rfl (by simp [Tryz.f40]) fun Q hQ => ?_
  simp only [Tryz.f40, strip, stripL, stripI, stripG, chkT, tagsB, tagsL, tagD, addT, tagA, lookN, tagOp, elmT, ty24, ty25, ty26, ty27, ty28, ty39, ty40, ty41, ty42, ty57, ty59, ty62, ty98, Nat.reduceEqDiff, if_false, reduceIte, Option.getD_some, Option.getD_none, dstAt, dstOk, Nat.reduceLT, decide_true, if_true]
  simp [Box.enc, Deed.enc]
  refine stpL_runs (copyBox (hR.app _) (by omega)) ?_
  rintro _ _ ⟨l1, f1, rfl, o1, ⟨⟨G1, rfl⟩, hf1⟩⟩
  have hL1 := o1.len
  have hT1 : l1.take l1.length = l1 := List.take_length
  rw [hL1] at hT1
  have hlt1 := o1.lt
  have o1' := o1.app [some ⟨44, .wr, [l1]⟩]
  simp only [List.append_assoc, List.cons_append, List.nil_append, Box.enc] at o1'
  simp [hL1, hT1]
  have hdm := fun (H3 : Heap) id l (hb : blkAt H3 id = some ⟨44, .wr, [l]⟩) f1 (hI : IsBox H3 l x f1) (hid : id ∉ f1) => deedM hb hI hid hok (by omega) d
  simp only [Deed.enc] at hdm
  obtain ⟨H3, hH3⟩ : ∃ H3 : Heap, H3 = H ++ some ⟨44, .wr, [[.i .i64 x.id, .i .i64 x.ports, .i .i64 x.reg.epoch, .i .i64 x.reg.owner, .i .i64 x.reg.pair, q0, q1, q2, q3, q4]]⟩ :: some ⟨52, .wr, [[.i .i64 d.kind, .i .i64 d.a, .i .i64 d.inn.kind, .i .i64 d.inn.port, .i .i64 d.inn.vec.root, .i .i64 d.inn.vec.cost, .i .i64 d.inn.vec.bridge, .i .i64 d.inn.vec.port, .i .i64 d.inn.hops, .b d.inn.up]]⟩ :: some ⟨44, .wr, [[.i .i64 0, .i .i64 0, .i .i64 0, .i .i64 0, .i .i64 0, .sl none 0, .sl none 0, .sl none 0, .sl none 0, .sl none 0]]⟩ :: (G1 ++ [some ⟨44, .wr, [l1]⟩]) := ⟨_, rfl⟩
  have b1 : blkAt H3 H.length = some ⟨44, .wr, [[.i .i64 x.id, .i .i64 x.ports, .i .i64 x.reg.epoch, .i .i64 x.reg.owner, .i .i64 x.reg.pair, q0, q1, q2, q3, q4]]⟩ := by rw [hH3]; simp
  have b2 : blkAt H3 (H.length + 2) = some ⟨44, .wr, [[.i .i64 0, .i .i64 0, .i .i64 0, .i .i64 0, .i .i64 0, .sl none 0, .sl none 0, .sl none 0, .sl none 0, .sl none 0]]⟩ := by rw [hH3]; simp
  obtain ⟨K7, hK7⟩ : ∃ K7, K7 = H.length + (G1.length + 3) := ⟨_, rfl⟩
  have b7 : blkAt H3 K7 = some ⟨44, .wr, [l1]⟩ := by rw [hH3, hK7]; simp
  have o3 : IsBox H3 l1 x f1 := by rw [hH3]; exact o1'
  have k03 : Keep [] H H3 := by rw [hH3]; exact Keep.app _ _ _
  have n7 : ∀ i ∈ f1, H.length + 3 ≤ i ∧ i < K7 := fun i hi => by have h1 := hf1 _ hi; have h2 := hlt1 _ hi; simp only [List.length_append, List.length_cons, List.length_nil] at h1 h2; omega
  have hK7g : H.length + 3 ≤ K7 := by omega
  rw [← hH3, ← hK7]
  clear hH3 o1 o1' hf1 hlt1 hK7
  have fin : ∀ (HF : Heap) (tm : Ab.T) (l' : List Lf) (z : Box) (c' : Int) (f' : List Nat), tm 4 = .ptr (H.length + 2) 0 0 → blkAt HF (H.length + 2) = some ⟨44, .wr, [l']⟩ → IsBox HF l' z f' → tm 5 = .int c' → doR x d = (z, c') → Keep [] H HF → (∀ i ∈ f', H.length ≤ i) → Q .ret tm HF := by
    intro HF tm l' z c' f' t4 hb4 ho4 t5 hz hK hf
    have hL' := ho4.len
    have hT' : l'.take l'.length = l' := List.take_length
    rw [hL'] at hT'
    refine hQ _ _ _ (by simp) ?_
    have hres : resT env.τ tm HF (Tryz.f40.results.toList) = some [W.agg l', W.lf (.i .i64 c')] := by simp [Tryz.f40, t4, t5, hb4, hL', hT']
    rw [hres, optK_some, hz]
    obtain ⟨fp, h1, h2⟩ := ho4.leave (H := H) (ws := [W.agg l', W.lf (.i .i64 c')]) ⟨hK.ext, hf⟩ (by simp)
    exact ⟨_, fp, rfl, h1, h2⟩
  refine stpL_runs (hdm H3 K7 l1 b7 f1 o3 (fun hi => by have := n7 _ hi; omega)) ?_
  rw [← hc, ← hy]
  rintro _ H4 ⟨rfl, l4, f4, b74, o4, hid4, k4, hf4⟩
  have hno : ∀ i, i < H.length + 3 → i ∉ K7 :: f1 := fun i hi hj => by
    rcases List.mem_cons.1 hj with rfl | hj
    · omega
    · have := n7 i hj; omega
  have b14 := k4.blk b1 (hno _ (by omega))
  have b24 := k4.blk b2 (hno _ (by omega))
  have k04 : Keep [] H H4 := k03.next k4 (fun i hi => by
    rcases List.mem_cons.1 hi with rfl | hi
    · omega
    · have := n7 i hi; omega)
  have d14 := blkAt_len b14
  have d24 := blkAt_len b24
  have d74 := blkAt_len b74
  have hL4 := o4.len
  have hT4 : l4.take l4.length = l4 := List.take_length
  rw [hL4] at hT4
  have hf40 : ∀ i ∈ f4, H.length + 3 ≤ i := fun i hi => by
    rcases hf4 i hi with h | h
    · have := n7 i h; omega
    · have := blkAt_len b2; have := k03.1; omega
  have e1 := implBoxOk_is o4.rd (by omega)
  by_cases hc0 : c = 0
  · rw [if_pos hc0] at hD
    cases hyo : y.ok
    · rw [if_neg (by simp [hyo])] at hD
      simp [hc0, b74, d74, hL4, hT4, e1, hyo, b14, d14]
      refine stpL_runs (copyBox (hR.base k04) (by omega)) ?_
      rintro _ _ ⟨l5, f5, rfl, o5, ⟨⟨G5, rfl⟩, hf5⟩⟩
      have hL5 := o5.len
      have hT5 : l5.take l5.length = l5 := List.take_length
      rw [hL5] at hT5
      have hb5 := blkAt_app b24 G5
      have d5 := blkAt_len hb5
      have n5 : ∀ i ∈ f5, i ∉ [H.length + 2] := fun i hi hj => by have := hf5 i hi; simp at hj; omega
      simp [hb5, hL5, hT5]
      refine fin _ _ l5 x 4 f5 ?_ (blkAt_set d5) (o5.keep (Keep.set _ _) n5) ?_ hD ((k04.next (Keep.app [] _ G5) (by simp)).next (Keep.set _ _) (by simp)) (fun i hi => by have := hf5 i hi; have := k04.1; omega)
      · simp
      · simp
    · rw [if_pos hyo] at hD
      simp [hc0, b74, d74, hL4, hT4, e1, hyo, b14, d14, b24, d24]
      exact fin _ _ l4 y 0 f4 (by simp) (blkAt_set d24) (o4.keep (Keep.set _ _) (fun i hi hj => by have := hf40 i hi; simp at hj; omega)) (by simp) hD (k04.next (Keep.set _ _) (by simp)) (fun i hi => by have := hf40 i hi; omega)
  · rw [if_neg hc0] at hD
    simp [hc0, b74, d74, hL4, hT4, e1, b14, d14]
    refine stpL_runs (copyBox (hR.base k04) (by omega)) ?_
    rintro _ _ ⟨l5, f5, rfl, o5, ⟨⟨G5, rfl⟩, hf5⟩⟩
    have hL5 := o5.len
    have hT5 : l5.take l5.length = l5 := List.take_length
    rw [hL5] at hT5
    have hb5 := blkAt_app b24 G5
    have d5 := blkAt_len hb5
    have n5 : ∀ i ∈ f5, i ∉ [H.length + 2] := fun i hi hj => by have := hf5 i hi; simp at hj; omega
    simp [hb5, hL5, hT5]
    refine fin _ _ l5 x c f5 ?_ (blkAt_set d5) (o5.keep (Keep.set _ _) n5) ?_ hD ((k04.next (Keep.app [] _ G5) (by simp)).next (Keep.set _ _) (by simp)) (fun i hi => by have := hf5 i hi; have := k04.1; omega)
    · simp
    · simp

theorem implDo_is {H : Heap} {l : List Lf} {x : Box} (h : RdBox H l x) (hn : x.sz ≤ 1048576) (d : Deed) :
    Runs env 9 [.agg l, .agg d.enc] H fun v H' => ∃ l' fp, v = .tup [.agg l', .lf (.i .i64 (doIt x d).2)] ∧ IsBox H' l' (doIt x d).1 fp ∧ Fresh H H' fp := by
  have hR := h
  have hD := doIt.eq_1 x d
  have e1 := fun G => implBoxOk_is (hR.app G) (by omega)
  have hm := fun G (hok : x.ok = true) => doM (hR.app G) hok d
  obtain ⟨q0, q1, q2, q3, q4, rfl, r0, r1, r2, r3, r4⟩ := h
  simp only [Box.enc] at e1
  simp only [Box.enc, Deed.enc] at hm
  refine Runs.walk ok9 Tryz.func9 rfl (by simp [Tryz.f9]) fun Q hQ => ?_
  simp only [Tryz.f9, strip, stripL, stripI, stripG, chkT, tagsB, tagsL, tagD, addT, tagA, lookN, tagOp, elmT, ty24, ty25, ty26, ty27, ty28, ty39, ty40, ty41, ty42, ty57, ty59, ty62, ty98, Nat.reduceEqDiff, if_false, reduceIte, Option.getD_some, Option.getD_none, dstAt, dstOk, Nat.reduceLT, decide_true, if_true]
  have bad : ∀ tm : Ab.T, ¬ ((1 ≤ d.kind ∧ d.kind ≤ 12) ∧ x.ok = true) → tm 4 = .ptr (H.length + 2) 0 0 → tm 5 = .int 1 → ∀ B0 B1 : Option Blk, Q .ret tm (H ++ [B0, B1, some ⟨44, .wr, [[.i .i64 0, .i .i64 0, .i .i64 0, .i .i64 0, .i .i64 0, .sl none 0, .sl none 0, .sl none 0, .sl none 0, .sl none 0]]⟩]) := by
    intro tm hno t4 t5 B0 B1
    rw [if_neg hno] at hD
    refine hQ _ _ _ (by simp) ?_
    simp [Tryz.f9, t4, t5, hD]
    refine ⟨[], ⟨.sl none 0, .sl none 0, .sl none 0, .sl none 0, .sl none 0, [], [], [], [], [], rfl, IsL.emp _ _ _, ⟨none, rfl, Own.nil _ _⟩, ⟨none, rfl, Own.nil _ _⟩, ⟨none, rfl, Own.nil _ _⟩, ⟨none, rfl, Own.nil _ _⟩, rfl, by simp⟩, Fresh.refl _⟩
  simp [Box.enc, Deed.enc, inRange]
  by_cases hk : 1 ≤ d.kind ∧ d.kind ≤ 12
  · have hkb : (!decide (1 ≤ d.kind) || !decide (d.kind ≤ 12)) = false := by simp [hk]
    rw [hkb]
    cases hok : x.ok
    · simp [e1, hok]
      exact bad _ (by simp [hok]) (by simp) (by simp) _ _
    · rw [if_pos ⟨hk, hok⟩] at hD
      simp [e1, hok]
      refine stpL_runs (hm _ hok) ?_
      rintro _ _ ⟨l1, f1, rfl, o1, ⟨⟨G1, rfl⟩, hf1⟩⟩
      have hL1 := o1.len
      have hT1 : l1.take l1.length = l1 := List.take_length
      rw [hL1] at hT1
      simp [hL1, hT1]
      refine hQ _ _ _ (by simp) ?_
      simp [Tryz.f9, hL1, hT1, hD]
      have o2 := o1.keep (Keep.set (id := H.length + 2) _ (some ⟨44, .wr, [l1]⟩)) (fun i hi hj => by have := hf1 i hi; simp at hj; simp at this; omega)
      simp only [List.append_assoc, List.cons_append, List.nil_append, set_appk, List.set_cons_succ, List.set_cons_zero, Box.enc, Deed.enc] at o2
      exact o2.leave (H := H) ⟨⟨_, rfl⟩, fun i hi => by have := hf1 i hi; simp at this; omega⟩ (by simp)
  · have hkb : (!decide (1 ≤ d.kind) || !decide (d.kind ≤ 12)) = true := by
      rcases Int.lt_or_le d.kind 1 with h | h
      · simp [show ¬ 1 ≤ d.kind by omega]
      · simp [show ¬ d.kind ≤ 12 by omega]
    rw [hkb]
    simp
    exact bad _ (fun h => hk h.1) (by simp) (by simp) _ _

/-- A box's value in memory of its own, that was fp's before or is new. -/
def BoxVal (H H' : Heap) (fp : List Nat) (l' : List Lf) (y : Box) : Prop := ∃ fp', IsBox H' l' y fp' ∧ Keep fp H H' ∧ ∀ i ∈ fp', i ∈ fp ∨ H.length ≤ i
theorem BoxVal.len {H H' : Heap} {fp : List Nat} {l' : List Lf} {y : Box} (h : BoxVal H H' fp l' y) : l'.length = 10 := let ⟨_, h1, _⟩ := h; h1.len
theorem BoxVal.leave {H H' : Heap} {fp : List Nat} {l' : List Lf} {y : Box} (h : BoxVal H H' fp l' y) {ws : List W} (hw : ws.all W.free = true → l'.all refFree = true) : BoxVal H (Go.Ab.leave H H' ws) fp l' y := by
  rcases leave_opt H H' ws with e | ⟨e, hf⟩ <;> rw [e]
  · exact h
  · obtain ⟨fp', h1, h2, h3⟩ := h
    exact ⟨[], h1.free (hw hf) H, Keep.refl _ _, by simp⟩
theorem BoxTo.val {H G HX : Heap} {c : Nat} {fp : List Nat} {y : Box} (hfp : ∀ i ∈ fp, i < H.length) (h : BoxTo (H ++ G) HX H.length fp y) (hc : H.length < c) (hc2 : c < (H ++ G).length) :
    ∃ l', blkAt HX H.length = some ⟨44, .wr, [l']⟩ ∧ l'.length = 10 ∧ l'.take 10 = l' ∧ BoxVal H (HX.set c (some ⟨44, .wr, [l']⟩)) fp l' y ∧ Keep (H.length :: fp) (H ++ G) HX := by
  obtain ⟨l', fp', h1, h2, h3, h4, h5⟩ := h
  have hl := h2.len
  have hcf : ∀ i ∈ fp', i ∉ [c] := fun i hi hj => by
    simp at hj
    rcases h5 i hi with h | h
    · have := hfp i h; omega
    · omega
  refine ⟨l', h1, hl, by rw [← hl]; exact List.take_length, ⟨fp', h2.keep (Keep.set _ _) hcf, ?_, fun i hi => ?_⟩, h4⟩
  · refine ((Keep.app [] H G).trans h4 (h := fp) (by simp) (fun i hi hlt => ?_)).trans (Keep.set _ _) (fun _ h _ => h) (fun i hi hlt => ?_)
    · rcases List.mem_cons.1 hi with rfl | hi
      · omega
      · exact hi
    · simp at hi; omega
  · rcases h5 i hi with h | h
    · exact .inl h
    · exact .inr (by simp at h; omega)

theorem l1Max (H : Heap) (a b : Int) : run env 117 [.int a, .int b] H = some (.int (max a b), H) := by
  refine run_walk ok117 Tryz.func117 rfl (by simp [Tryz.f117]) fun Q hQ => ?_
  simp only [Tryz.f117, strip, stripL, stripI, stripG, chkT, tagsB, tagsL, tagD, addT, tagA, lookN, tagOp, elmT, ty24, ty25, ty26, ty27, ty28, ty39, ty40, ty41, ty42, ty57, ty59, ty62, ty98, Nat.reduceEqDiff, if_false, reduceIte, Option.getD_some, Option.getD_none, dstAt, dstOk, Nat.reduceLT, decide_true, if_true]
  simp
  refine selS_intro (fun h => ?_) (fun h => ?_)
  · simp at h
    simp
    refine hQ _ _ _ (by simp) ?_
    simp [Tryz.f117, show max a b = a by omega]
  · simp at h
    simp
    refine hQ _ _ _ (by simp) ?_
    simp [Tryz.f117, show max a b = b by omega]

theorem mindsAt_s {x : Box} (h2 : x.two.length = 2) {s : Nat} (hs : s < 2) : mindsAt x s = minds x.reg s (x.two.getD s zM) := by
  unfold mindsAt
  have h1 : (s : Int) ≤ (x.two.length : Int) - 1 := by omega
  simp [h1]
theorem whoM_of {x : Box} (h2 : x.two.length = 2) {s : Nat} (hs : s < 2) (hm : mindsAt x s = true) (hno : ∀ k : Nat, k < s → mindsAt x k = false) : whoM x = s := by
  unfold whoM
  obtain rfl | rfl : s = 0 ∨ s = 1 := by omega
  · rw [mindsAt_s h2 hs] at hm
    exact if_pos hm
  · have h0 := hno 0 (by omega)
    rw [mindsAt_s h2 (by omega)] at h0 hm
    have h0' : ¬ minds x.reg 0 (x.two.getD 0 zM) = true := by intro h; rw [show ((0 : Nat) : Int) = 0 from rfl] at h0; rw [h0] at h; cases h
    rw [if_neg h0']; exact if_pos hm
theorem whoM_no {x : Box} (h2 : x.two.length = 2) (hno : ∀ k : Nat, k < 2 → mindsAt x k = false) : whoM x = -1 := by
  unfold whoM
  have h0 := hno 0 (by omega)
  have h1 := hno 1 (by omega)
  rw [mindsAt_s h2 (by omega)] at h0 h1
  rw [if_neg (by intro h; rw [show ((0 : Nat) : Int) = 0 from rfl] at h0; rw [h0] at h; cases h), if_neg (by intro h; rw [show ((1 : Nat) : Int) = 1 from rfl] at h1; rw [h1] at h; cases h)]
theorem l15Who {H : Heap} {l : List Lf} {x : Box} (h : RdBox H l x) (h2 : x.two.length = 2) (hn : x.sz ≤ 1048576) : run env 94 [.agg l] H = some (.int (whoM x), H) := by
  have e1 := fun G s => l14Minds (h.app G) hn s
  obtain ⟨Q0, Q1, Q2, Q3, Q4, rfl, -⟩ := h
  simp only [Box.enc] at e1 ⊢
  refine run_walk ok94 Tryz.func94 rfl (by simp [Tryz.f94]) fun Q hQ => ?_
  simp only [Tryz.f94, strip, stripL, stripI, stripG, chkT, tagsB, tagsL, tagD, addT, tagA, lookN, tagOp, elmT, ty24, ty25, ty26, ty27, ty28, ty39, ty40, ty41, ty42, ty57, ty59, ty62, ty98, Nat.reduceEqDiff, if_false, reduceIte, Option.getD_some, Option.getD_none, dstAt, dstOk, Nat.reduceLT, decide_true, if_true]
  simp
  obtain ⟨B, hB⟩ : ∃ B : Option Blk, B = some ⟨44, .wr, [[.i .i64 x.id, .i .i64 x.ports, .i .i64 x.reg.epoch, .i .i64 x.reg.owner, .i .i64 x.reg.pair, Q0, Q1, Q2, Q3, Q4]]⟩ := ⟨_, rfl⟩
  refine wpS_loop (fun j tm H' => ∃ i, i + j = 2 ∧ tm 1 = .ptr H.length 0 0 ∧ tm 3 = .int i ∧ H' = H ++ [B] ∧ ∀ k : Nat, k < i → mindsAt x k = false) 2 (by rw [env_K]; omega) ⟨0, by simp, by simp, by simp, by simp [hB], by simp⟩ ?_
  rintro j tm H1 hj ⟨i, hij, t1, t3, rfl, hno⟩ Q2 hn2 he2 hr2
  simp [t1, t3]
  refine selS_intro (fun hc => ?_) (fun hc => ?_)
  · simp at hc
    have g4 : IntKind.i64.wrap ((i : Int) + 1) = (i : Int) + 1 := wrap64 (by omega) (by omega)
    simp [t1, t3, hB, e1, g4]
    cases hm : mindsAt x i
    · simp [t1, t3, g4]
      exact hn2 (j - 1) _ _ (by omega) ⟨i + 1, by omega, by simp [t1], by simp, by rw [hB], fun k hk => by
        rcases Nat.lt_or_ge k i with h | h
        · exact hno k h
        · obtain rfl : k = i := by omega
          exact hm⟩
    · simp [t1, t3]
      refine hr2 _ _ ?_
      simp
      refine hQ _ _ _ (by simp) ?_
      simp [Tryz.f94]
      exact (whoM_of h2 (by omega) hm hno).symm
  · simp at hc
    obtain rfl : i = 2 := by omega
    simp [t1, t3]
    refine he2 _ _ _ ?_
    simp
    refine hQ _ _ _ (by simp) ?_
    simp [Tryz.f94]
    exact (whoM_no h2 hno).symm

theorem l15Rise {H : Heap} {l : List Lf} {x : Box} (h : RdBox H l x) (hok : x.ok = true) : run env 101 [.agg l] H = some (.agg [.b true, .i .i64 (newLife x).life, .i .i64 0, .sl none 0, .i .i64 0, .i .i64 0, .i .i64 0], H) := by
  have h2 := (Box.right hok).two
  obtain ⟨Q0, Q1, Q2, Q3, Q4, rfl, ⟨a0, rws, rfl, hs, hlen, hat⟩, -⟩ := h
  have hr0 : 0 < rws.length := by omega
  have hr1 : 1 < rws.length := by omega
  obtain ⟨id, r, bl, rfl, hbl, hbe, hrow0⟩ := hs 0 _ (List.getElem?_eq_getElem hr0)
  obtain ⟨id', r', bl', hx, hbl', -, hrow1⟩ := hs 1 _ (List.getElem?_eq_getElem hr1)
  cases hx
  rw [hbl] at hbl'
  injection hbl' with hbl'
  subst hbl'
  obtain ⟨p0, hp0, -⟩ := hat 0 _ _ (List.getElem?_eq_getElem hr0) (List.getElem?_eq_getElem (by omega))
  obtain ⟨p1, hp1, -⟩ := hat 1 _ _ (List.getElem?_eq_getElem hr1) (List.getElem?_eq_getElem (by omega))
  rw [hp0] at hrow0
  rw [hp1] at hrow1
  have hid := blkAt_len hbl
  have m0 := (Box.right hok).ok _ (List.getElem_mem (show 0 < x.two.length by omega))
  have m1 := (Box.right hok).ok _ (List.getElem_mem (show 1 < x.two.length by omega))
  have l0 : 0 ≤ x.two[0].life ∧ x.two[0].life ≤ 100000 := by simp [Minder.ok] at m0; omega
  have l1 : 0 ≤ x.two[1].life ∧ x.two[1].life ≤ 100000 := by simp [Minder.ok] at m1; omega
  have e0 : mAt x 0 = x.two[0] := by simp [mAt, List.getD, List.getElem?_eq_getElem (show 0 < x.two.length by omega)]
  have e1 : mAt x 1 = x.two[1] := by simp [mAt, List.getD, List.getElem?_eq_getElem (show 1 < x.two.length by omega)]
  have hw : IntKind.i64.wrap (max x.two[0].life x.two[1].life + 1) = max x.two[0].life x.two[1].life + 1 := wrap64 (by omega) (by omega)
  have hnl : (newLife x).life = max x.two[0].life x.two[1].life + 1 := by rw [newLife, e0, e1]
  rw [hnl]
  simp only [Box.enc, h2]
  simp only [Nat.add_zero] at hrow0
  have hbA := fun G => blkAt_app hbl G
  have hid2 : id < H.length + 2 := by omega
  refine run_walk ok101 Tryz.func101 rfl (by simp [Tryz.f101]) fun Q hQ => ?_
  simp only [Tryz.f101, strip, stripL, stripI, stripG, chkT, tagsB, tagsL, tagD, addT, tagA, lookN, tagOp, elmT, ty24, ty25, ty26, ty27, ty28, ty39, ty40, ty41, ty42, ty57, ty59, ty62, ty98, Nat.reduceEqDiff, if_false, reduceIte, Option.getD_some, Option.getD_none, dstAt, dstOk, Nat.reduceLT, decide_true, if_true]
  simp [hbA, hid2, indexAddrV, elemIs, hbe, hrow0, hrow1, Minder.enc, l1Max, hw]
  refine hQ _ _ _ (by simp) ?_
  simp [Tryz.f101]

/-- One wire more behind a box's, in memory of its own. -/
theorem boxApp {H : Heap} {id : Nat} {l : List Lf} {y : Box} {g : List Nat} (hb : blkAt H id = some ⟨44, .wr, [l]⟩) (hI : IsBox H l y g) (hid : id ∉ g) :
    ∃ (a1 : Option (Nat × Nat)) (q0 q2 q3 q4 : Lf) (f1 : List Nat), l = y.enc q0 (.sl a1 y.net.length) q2 q3 q4 ∧ Own H 113 a1 (y.net.map Wire.enc) f1 ∧ (∀ i ∈ f1, i ∈ g) ∧
      ∀ (H2 : Heap) (q1' : Lf) (ws : List Wire) (fp'' : List Nat), Keep f1 H H2 → IsWireS H2 q1' ws fp'' → (∀ i ∈ fp'', i ∈ f1 ∨ H.length ≤ i) →
        blkAt H2 id = some ⟨44, .wr, [l]⟩ ∧ BoxTo H (H2.set id (some ⟨44, .wr, [y.enc q0 q1' q2 q3 q4]⟩)) id g (setNet y ws) := by
  obtain ⟨q0, q1, q2, q3, q4, f0, f1, f2, f3, f4, rfl, i0, ⟨a1, rfl, o1⟩, i2, i3, i4, rfl, hnd⟩ := hI
  refine ⟨a1, q0, q2, q3, q4, f1, rfl, o1, fun i hi => by simp [hi], fun H2 q1' ws fp'' k o hf => ⟨k.blk hb (fun h => hid (by simp [h])), ?_⟩⟩
  exact boxNet (blkAt_len hb) hid i0 i2 i3 i4 hnd k o hf

/-- A box's value put back behind the pointer. -/
theorem BoxVal.to {H H' : Heap} {id : Nat} {fp : List Nat} {l' : List Lf} {y : Box} (h : BoxVal H H' fp l' y) (hid : id ∉ fp) (hl : id < H.length) : BoxTo H (H'.set id (some ⟨44, .wr, [l']⟩)) id fp y := by
  obtain ⟨fp', h1, h2, h3⟩ := h
  have hn : id ∉ fp' := fun h => by
    rcases h3 id h with h | h
    · exact hid h
    · omega
  exact ⟨l', fp', blkAt_set (Nat.lt_of_lt_of_le hl h2.1), h1.keep (Keep.set _ _) (fun i hi hj => by simp at hj; subst hj; exact hn hi), hn, h2.trans (Keep.set _ _) (fun i hi _ => by simp [hi]) (fun i hi _ => by simp at hi; simp [hi]), h3⟩

theorem l15In {H : Heap} {l : List Lf} {x : Box} {fp : List Nat} (hI : IsBox H l x fp) (hok : Small x) (d : Deed) :
    Runs env 65 [.agg l, .agg d.enc] H fun v H' => ∃ l', v = .tup [.agg l', .lf (.i .i64 (inD x d.inn).2)] ∧ BoxVal H H' fp l' (inD x d.inn).1 := by
  have hsz := hok.sz
  have h2 := hok.two
  have hlt := hI.lt
  have hid : H.length ∉ fp := fun h => by have := hlt _ h; omega
  obtain ⟨q0, q1, q2, q3, q4, rfl⟩ : ∃ q0 q1 q2 q3 q4, l = x.enc q0 q1 q2 q3 q4 := by
    obtain ⟨q0, q1, q2, q3, q4, _, _, _, _, _, rfl, -⟩ := hI
    exact ⟨q0, q1, q2, q3, q4, rfl⟩
  obtain ⟨R, hR⟩ : ∃ R, R = inD x d.inn := ⟨_, rfl⟩
  rw [← hR]
  refine Runs.walk ok65 Tryz.func65 rfl (by simp [Tryz.f65]) fun Q hQ => ?_
  simp only [Tryz.f65, strip, stripL, stripI, stripG, chkT, tagsB, tagsL, tagD, addT, tagA, lookN, tagOp, elmT, ty24, ty25, ty26, ty27, ty28, ty39, ty40, ty41, ty42, ty57, ty59, ty62, ty98, Nat.reduceEqDiff, if_false, reduceIte, Option.getD_some, Option.getD_none, dstAt, dstOk, Nat.reduceLT, decide_true, if_true]
  have fin : ∀ (HX : Heap) (tm : Ab.T) (c : Int) (y : Box) (l' : List Lf), R = (y, c) → BoxVal H HX fp l' y → tm 5 = .int c → tm 4 = .ptr (H.length + 2) 0 0 → blkAt HX (H.length + 2) = some ⟨44, .wr, [l']⟩ → Q .ret tm HX := by
    intro HX tm c y l' h1 hv t5 t4 hb4
    have hL' := hv.len
    have hT' : l'.take l'.length = l' := List.take_length
    rw [hL'] at hT'
    refine hQ _ _ _ (by simp) ?_
    have hres : resT env.τ tm HX (Tryz.f65.results.toList) = some [W.agg l', W.lf (.i .i64 c)] := by simp [Tryz.f65, t4, t5, hb4, hL', hT']
    rw [hres, optK_some, h1]
    exact ⟨_, rfl, hv.leave (by simp)⟩
  simp [Box.enc, Deed.enc, Wire.enc]
  obtain ⟨X, hX⟩ : ∃ X : Heap, X = H ++ [some ⟨44, .wr, [[.i .i64 x.id, .i .i64 x.ports, .i .i64 x.reg.epoch, .i .i64 x.reg.owner, .i .i64 x.reg.pair, q0, q1, q2, q3, q4]]⟩, some ⟨52, .wr, [[.i .i64 d.kind, .i .i64 d.a, .i .i64 d.inn.kind, .i .i64 d.inn.port, .i .i64 d.inn.vec.root, .i .i64 d.inn.vec.cost, .i .i64 d.inn.vec.bridge, .i .i64 d.inn.vec.port, .i .i64 d.inn.hops, .b d.inn.up]]⟩, some ⟨44, .wr, [[.i .i64 0, .i .i64 0, .i .i64 0, .i .i64 0, .i .i64 0, .sl none 0, .sl none 0, .sl none 0, .sl none 0, .sl none 0]]⟩] := ⟨_, rfl⟩
  have b0 : blkAt X H.length = some ⟨44, .wr, [[.i .i64 x.id, .i .i64 x.ports, .i .i64 x.reg.epoch, .i .i64 x.reg.owner, .i .i64 x.reg.pair, q0, q1, q2, q3, q4]]⟩ := by rw [hX]; simp
  have d0 := blkAt_len b0
  have bz : blkAt X (H.length + 2) = some ⟨44, .wr, [[.i .i64 0, .i .i64 0, .i .i64 0, .i .i64 0, .i .i64 0, .sl none 0, .sl none 0, .sl none 0, .sl none 0, .sl none 0]]⟩ := by rw [hX]; simp
  have dz := blkAt_len bz
  have bD : blkAt X (H.length + 1) = some ⟨52, .wr, [[.i .i64 d.kind, .i .i64 d.a, .i .i64 d.inn.kind, .i .i64 d.inn.port, .i .i64 d.inn.vec.root, .i .i64 d.inn.vec.cost, .i .i64 d.inn.vec.bridge, .i .i64 d.inn.vec.port, .i .i64 d.inn.hops, .b d.inn.up]]⟩ := by rw [hX]; simp
  have dD := blkAt_len bD
  rw [← hX]
  have kX : Keep [] H X := by rw [hX]; exact Keep.app _ _ _
  have hI1 : IsBox X (x.enc q0 q1 q2 q3 q4) x fp := hI.keep kX (by simp)
  have val : ∀ (HX : Heap) (y : Box), BoxTo X HX H.length fp y → ∃ l', blkAt HX H.length = some ⟨44, .wr, [l']⟩ ∧ l'.length = 10 ∧ l'.take 10 = l' ∧ BoxVal H (HX.set (H.length + 2) (some ⟨44, .wr, [l']⟩)) fp l' y ∧ Keep (H.length :: fp) X HX := by
    intro HX y h
    rw [hX] at h ⊢
    exact h.val hlt (by omega) (by simp)
  have off : ∀ k : Nat, 0 < k → H.length + k ∉ H.length :: fp := fun k hk h => by
    rcases List.mem_cons.1 h with h | h
    · omega
    · have := hlt _ h; omega
  have done : ∀ (HX : Heap) (y : Box) (c : Int) (_ : R = (y, c)) (_ : BoxTo X HX H.length fp y), ∃ l', blkAt HX H.length = some ⟨44, .wr, [l']⟩ ∧ l'.length = 10 ∧ l'.take 10 = l' ∧ H.length < HX.length ∧ H.length + 2 < HX.length ∧ blkAt HX (H.length + 2) = some ⟨44, .wr, [[.i .i64 0, .i .i64 0, .i .i64 0, .i .i64 0, .i .i64 0, .sl none 0, .sl none 0, .sl none 0, .sl none 0, .sl none 0]]⟩ ∧ ∀ tm : Ab.T, tm 5 = .int c → tm 4 = .ptr (H.length + 2) 0 0 → Q .ret tm (HX.set (H.length + 2) (some ⟨44, .wr, [l']⟩)) := by
    intro HX y c h1 h
    obtain ⟨l', v1, v2, v3, v4, v5⟩ := val HX y h
    have hz := v5.blk bz (off _ (by omega))
    have hzl := blkAt_len hz
    exact ⟨l', v1, v2, v3, blkAt_len v1, hzl, hz, fun tm t5 t4 => fin _ tm c y l' h1 v4 t5 t4 (blkAt_set hzl)⟩
  have doneL : ∀ (HX : Heap) (y : Box) (c : Int) (L : List Lf) (_ : R = (y, c)) (_ : blkAt HX H.length = some ⟨44, .wr, [L]⟩) (_ : BoxTo X HX H.length fp y), H.length < HX.length ∧ H.length + 2 < HX.length ∧ blkAt HX (H.length + 2) = some ⟨44, .wr, [[.i .i64 0, .i .i64 0, .i .i64 0, .i .i64 0, .i .i64 0, .sl none 0, .sl none 0, .sl none 0, .sl none 0, .sl none 0]]⟩ ∧ ∀ tm : Ab.T, tm 5 = .int c → tm 4 = .ptr (H.length + 2) 0 0 → Q .ret tm (HX.set (H.length + 2) (some ⟨44, .wr, [L]⟩)) := by
    intro HX y c L h1 hb h
    obtain ⟨l', w1, w2, w3, w4, w5, w6, w7⟩ := done HX y c h1 h
    rw [hb] at w1
    injection w1 with w1
    simp only [Blk.mk.injEq, List.cons.injEq, and_true, true_and] at w1
    subst w1
    exact ⟨w4, w5, w6, w7⟩
  have same : ∀ (G : Heap) (c : Int) (_ : R = (x, c)) (tm : Ab.T), tm 5 = .int c → tm 4 = .ptr (H.length + 2) 0 0 → Q .ret tm ((X ++ G).set (H.length + 2) (some ⟨44, .wr, [[.i .i64 x.id, .i .i64 x.ports, .i .i64 x.reg.epoch, .i .i64 x.reg.owner, .i .i64 x.reg.pair, q0, q1, q2, q3, q4]]⟩)) := by
    intro G c h1 tm t5 t4
    obtain ⟨l', w1, -, -, -, -, -, w7⟩ := done (X ++ G) x c h1 (BoxTo.app b0 hI1 hid G)
    rw [blkAt_app b0] at w1
    injection w1 with w1
    simp only [Blk.mk.injEq, List.cons.injEq, and_true, true_and] at w1
    subst w1
    exact w7 tm t5 t4
  have same0 : ∀ (c : Int) (_ : R = (x, c)) (tm : Ab.T), tm 5 = .int c → tm 4 = .ptr (H.length + 2) 0 0 → Q .ret tm (X.set (H.length + 2) (some ⟨44, .wr, [[.i .i64 x.id, .i .i64 x.ports, .i .i64 x.reg.epoch, .i .i64 x.reg.owner, .i .i64 x.reg.pair, q0, q1, q2, q3, q4]]⟩)) := by
    intro c h1 tm t5 t4
    have := same [] c h1 tm t5 t4
    rwa [List.append_nil] at this
  have e1 := l15Who (hI1.rd) h2 (by omega)
  simp only [Box.enc] at e1
  have e2 := fun H => specInOk H d.inn
  simp only [In.enc] at e2
  simp [e1]
  by_cases hneg : whoM x < 0
  · simp [hneg, b0, d0, bz, dz]
    exact same0 3 (by rw [hR, inD, if_pos (.inl hneg)]) _ (by simp) (by simp)
  obtain ⟨s, hs2, hw⟩ : ∃ s : Nat, s < 2 ∧ whoM x = (s : Int) := by
    rcases whoM_cases x with ⟨h, -⟩ | ⟨h, -⟩ | ⟨h, -⟩
    · exact ⟨0, by omega, h⟩
    · exact ⟨1, by omega, h⟩
    · omega
  have hs : s < x.two.length := by omega
  rw [hw] at hneg ⊢
  cases hio : d.inn.ok
  · simp [hneg, b0, d0, bz, dz, bD, dD, e2, hio]
    exact same0 3 (by rw [hR, inD, if_pos (.inr (.inl hio))]) _ (by simp) (by simp)
  by_cases hpo : x.ports ≤ d.inn.port
  · simp [hneg, b0, d0, bz, dz, bD, dD, e2, hio, hpo]
    exact same0 3 (by rw [hR, inD, if_pos (.inr (.inr hpo))]) _ (by simp) (by simp)
  obtain ⟨bid, blo, r1, r2, r3, r4, row, fs, hl, hbne, hbl, hbb, hbe, hbm, hrow, hrd, hbfs, hidfs, hput⟩ := boxTwoOwn b0 hI1 hid hs
  simp only [Box.enc, List.cons.injEq, and_true, true_and] at hl
  obtain ⟨rfl, rfl, rfl, rfl, rfl⟩ := hl
  have hbH : bid < H.length := by
    have h1 := hI.rd
    obtain ⟨_, _, _, _, _, e1, ⟨a0, rws, e2, hss, hll, _⟩, -⟩ := h1
    simp only [Box.enc, List.cons.injEq, and_true, true_and] at e1
    obtain ⟨e1, -⟩ := e1
    rw [e2] at e1
    injection e1 with e1
    rw [← e1] at hss
    exact hss.len (by rintro rfl; simp at hll; omega)
  have b0s := b0
  rw [h2] at b0 same same0
  obtain ⟨m, hm⟩ : ∃ m, m = x.two[s] := ⟨_, rfl⟩
  rw [← hm] at hrd
  have hmx : m ∈ x.two := by rw [hm]; exact List.getElem_mem hs
  have hmlog := hok.log m hmx
  have hmsz : m.sz ≤ 1048576 := by unfold Minder.sz; omega
  have hmA : mAt x (s : Int) = m := by simp [mAt, List.getD, List.getElem?_eq_getElem hs, hm]
  have hrdR := hrd.rd
  obtain ⟨a, rfl, oa⟩ := hrd
  have hrow' := hrow
  simp only [Minder.enc] at hrow
  have hs0 : (0 : Int) ≤ s := by omega
  have hsl2 : (s : Int) < 2 := by omega
  have hrl : s < blo.rows.length := (List.getElem?_eq_some_iff.1 hrow).1
  have hse : ∀ (Y : Heap) (y : Option Blk) (k : Nat), blkAt (List.set Y bid y) (H.length + k) = blkAt Y (H.length + k) := fun Y y k => blkAt_set_ne (by omega)
  have hse0 : ∀ (Y : Heap) (y : Option Blk), blkAt (List.set Y bid y) H.length = blkAt Y H.length := fun Y y => blkAt_set_ne (by omega)
  have hin : inD x d.inn = if (note m d.inn).2 = true then (setTwo x s (note m d.inn).1, 0) else (x, 4) := by
    rw [inD, if_neg (by rw [hw, hio]; intro h; simp at h; omega), hw, Int.toNat_natCast, hmA]
  have hrun := specNote_is hrdR hmsz d.inn
  simp only [In.enc, Minder.enc] at hrun
  simp [hneg, b0, d0, bz, dz, bD, dD, e2, hio, hpo, indexAddrV, elemIs, hbb, hbl, hbe, hs2, hs0, hsl2, hrow, h2]
  refine stpL_runs_f hrun (by rintro _ _ ⟨_, _, _, _, hf⟩; exact hf.1) ?_
  rintro _ _ ⟨l2, f2, rfl, o2, ⟨⟨G2, rfl⟩, hf2⟩⟩
  have hL2 := o2.len
  have hT2 : l2.take l2.length = l2 := List.take_length
  rw [hL2] at hT2
  have b0A := fun G => blkAt_app b0 G
  have bzA := fun G => blkAt_app bz G
  have hbbA := fun G => blkAt_app hbb G
  simp [hL2, hT2]
  cases hnote : (note m d.inn).2
  · rw [if_neg (by simp [hnote])] at hin
    simp [b0A, bzA, show H.length < X.length + (G2.length + 1) by omega, show H.length + 2 < X.length + (G2.length + 1) by omega, show H.length < X.length + (G2.length + 1 + 1) by omega, show H.length + 2 < X.length + (G2.length + 1 + 1) by omega]
    exact same _ 4 (by rw [hR, hin]) _ (by simp) (by simp)
  · rw [if_pos hnote] at hin
    have o2' := o2.app [some ⟨106, .wr, [l2]⟩]
    simp only [List.append_assoc] at o2'
    obtain ⟨fp', z1, z2, z3, z4, z5⟩ := hput (X ++ (G2 ++ [some ⟨106, .wr, [l2]⟩])) l2 _ f2 (Keep.app [] X _) o2' (fun i hi => .inr (hf2 i hi))
    obtain ⟨l', w1, w2, w3, w4, w5, w6, w7⟩ := done _ _ 0 (by rw [hR, hin]) ⟨_, fp', z1, z2, z3, z4, z5⟩
    simp only [List.length_set, List.length_append, List.length_cons, List.length_nil] at w4 w5
    have g1 : H.length < X.length + (G2.length + 1) := by omega
    have g2 : bid < X.length + (G2.length + 1) := by omega
    have g3 : H.length + 2 < X.length + (G2.length + 1) := by omega
    simp [b0A, bzA, hbbA, g1, g2, g3, indexAddrV, elemIs, hbe, hbm, hs2, hs0, hsl2, h2, hrow, Minder.enc, hL2, hT2, w1, w2, w3, w6]
    exact w7 _ (by simp) (by simp)

theorem l15Ship {H : Heap} {l : List Lf} {x : Box} {fp : List Nat} (hI : IsBox H l x fp) (hok : Small x) (hxok : x.ok = true) (s : Nat) (hs2 : s < 2) :
    Runs env 68 [.agg l, .int s] H fun v H' => ∃ l', v = .tup [.agg l', .lf (.i .i64 (shipD x s).2)] ∧ BoxVal H H' fp l' (shipD x s).1 := by
  have hsz := hok.sz
  have h2 := hok.two
  have hlt := hI.lt
  have hid : H.length ∉ fp := fun h => by have := hlt _ h; omega
  obtain ⟨q0, q1, q2, q3, q4, rfl⟩ : ∃ q0 q1 q2 q3 q4, l = x.enc q0 q1 q2 q3 q4 := by
    obtain ⟨q0, q1, q2, q3, q4, _, _, _, _, _, rfl, -⟩ := hI
    exact ⟨q0, q1, q2, q3, q4, rfl⟩
  obtain ⟨R, hR⟩ : ∃ R, R = shipD x s := ⟨_, rfl⟩
  rw [← hR]
  refine Runs.walk ok68 Tryz.func68 rfl (by simp [Tryz.f68]) fun Q hQ => ?_
  simp only [Tryz.f68, strip, stripL, stripI, stripG, chkT, tagsB, tagsL, tagD, addT, tagA, lookN, tagOp, elmT, ty24, ty25, ty26, ty27, ty28, ty39, ty40, ty41, ty42, ty57, ty59, ty62, ty98, Nat.reduceEqDiff, if_false, reduceIte, Option.getD_some, Option.getD_none, dstAt, dstOk, Nat.reduceLT, decide_true, if_true]
  have fin : ∀ (HX : Heap) (tm : Ab.T) (c : Int) (y : Box) (l' : List Lf), R = (y, c) → BoxVal H HX fp l' y → tm 5 = .int c → tm 4 = .ptr (H.length + 1) 0 0 → blkAt HX (H.length + 1) = some ⟨44, .wr, [l']⟩ → Q .ret tm HX := by
    intro HX tm c y l' h1 hv t5 t4 hb4
    have hL' := hv.len
    have hT' : l'.take l'.length = l' := List.take_length
    rw [hL'] at hT'
    refine hQ _ _ _ (by simp) ?_
    have hres : resT env.τ tm HX (Tryz.f68.results.toList) = some [W.agg l', W.lf (.i .i64 c)] := by simp [Tryz.f68, t4, t5, hb4, hL', hT']
    rw [hres, optK_some, h1]
    exact ⟨_, rfl, hv.leave (by simp)⟩
  simp [Box.enc, Deed.enc, Wire.enc]
  obtain ⟨X, hX⟩ : ∃ X : Heap, X = H ++ [some ⟨44, .wr, [[.i .i64 x.id, .i .i64 x.ports, .i .i64 x.reg.epoch, .i .i64 x.reg.owner, .i .i64 x.reg.pair, q0, q1, q2, q3, q4]]⟩, some ⟨44, .wr, [[.i .i64 0, .i .i64 0, .i .i64 0, .i .i64 0, .i .i64 0, .sl none 0, .sl none 0, .sl none 0, .sl none 0, .sl none 0]]⟩] := ⟨_, rfl⟩
  have b0 : blkAt X H.length = some ⟨44, .wr, [[.i .i64 x.id, .i .i64 x.ports, .i .i64 x.reg.epoch, .i .i64 x.reg.owner, .i .i64 x.reg.pair, q0, q1, q2, q3, q4]]⟩ := by rw [hX]; simp
  have d0 := blkAt_len b0
  have bz : blkAt X (H.length + 1) = some ⟨44, .wr, [[.i .i64 0, .i .i64 0, .i .i64 0, .i .i64 0, .i .i64 0, .sl none 0, .sl none 0, .sl none 0, .sl none 0, .sl none 0]]⟩ := by rw [hX]; simp
  have dz := blkAt_len bz
  rw [← hX]
  have kX : Keep [] H X := by rw [hX]; exact Keep.app _ _ _
  have hI1 : IsBox X (x.enc q0 q1 q2 q3 q4) x fp := hI.keep kX (by simp)
  have val : ∀ (HX : Heap) (y : Box), BoxTo X HX H.length fp y → ∃ l', blkAt HX H.length = some ⟨44, .wr, [l']⟩ ∧ l'.length = 10 ∧ l'.take 10 = l' ∧ BoxVal H (HX.set (H.length + 1) (some ⟨44, .wr, [l']⟩)) fp l' y ∧ Keep (H.length :: fp) X HX := by
    intro HX y h
    rw [hX] at h ⊢
    exact h.val hlt (by omega) (by simp)
  have off : ∀ k : Nat, 0 < k → H.length + k ∉ H.length :: fp := fun k hk h => by
    rcases List.mem_cons.1 h with h | h
    · omega
    · have := hlt _ h; omega
  have done : ∀ (HX : Heap) (y : Box) (c : Int) (_ : R = (y, c)) (_ : BoxTo X HX H.length fp y), ∃ l', blkAt HX H.length = some ⟨44, .wr, [l']⟩ ∧ l'.length = 10 ∧ l'.take 10 = l' ∧ H.length < HX.length ∧ H.length + 1 < HX.length ∧ blkAt HX (H.length + 1) = some ⟨44, .wr, [[.i .i64 0, .i .i64 0, .i .i64 0, .i .i64 0, .i .i64 0, .sl none 0, .sl none 0, .sl none 0, .sl none 0, .sl none 0]]⟩ ∧ ∀ tm : Ab.T, tm 5 = .int c → tm 4 = .ptr (H.length + 1) 0 0 → Q .ret tm (HX.set (H.length + 1) (some ⟨44, .wr, [l']⟩)) := by
    intro HX y c h1 h
    obtain ⟨l', v1, v2, v3, v4, v5⟩ := val HX y h
    have hz := v5.blk bz (off _ (by omega))
    have hzl := blkAt_len hz
    exact ⟨l', v1, v2, v3, blkAt_len v1, hzl, hz, fun tm t5 t4 => fin _ tm c y l' h1 v4 t5 t4 (blkAt_set hzl)⟩
  have doneL : ∀ (HX : Heap) (y : Box) (c : Int) (L : List Lf) (_ : R = (y, c)) (_ : blkAt HX H.length = some ⟨44, .wr, [L]⟩) (_ : BoxTo X HX H.length fp y), H.length < HX.length ∧ H.length + 1 < HX.length ∧ blkAt HX (H.length + 1) = some ⟨44, .wr, [[.i .i64 0, .i .i64 0, .i .i64 0, .i .i64 0, .i .i64 0, .sl none 0, .sl none 0, .sl none 0, .sl none 0, .sl none 0]]⟩ ∧ ∀ tm : Ab.T, tm 5 = .int c → tm 4 = .ptr (H.length + 1) 0 0 → Q .ret tm (HX.set (H.length + 1) (some ⟨44, .wr, [L]⟩)) := by
    intro HX y c L h1 hb h
    obtain ⟨l', w1, w2, w3, w4, w5, w6, w7⟩ := done HX y c h1 h
    rw [hb] at w1
    injection w1 with w1
    simp only [Blk.mk.injEq, List.cons.injEq, and_true, true_and] at w1
    subst w1
    exact ⟨w4, w5, w6, w7⟩
  have same : ∀ (G : Heap) (c : Int) (_ : R = (x, c)) (tm : Ab.T), tm 5 = .int c → tm 4 = .ptr (H.length + 1) 0 0 → Q .ret tm ((X ++ G).set (H.length + 1) (some ⟨44, .wr, [[.i .i64 x.id, .i .i64 x.ports, .i .i64 x.reg.epoch, .i .i64 x.reg.owner, .i .i64 x.reg.pair, q0, q1, q2, q3, q4]]⟩)) := by
    intro G c h1 tm t5 t4
    obtain ⟨l', w1, -, -, -, -, -, w7⟩ := done (X ++ G) x c h1 (BoxTo.app b0 hI1 hid G)
    rw [blkAt_app b0] at w1
    injection w1 with w1
    simp only [Blk.mk.injEq, List.cons.injEq, and_true, true_and] at w1
    subst w1
    exact w7 tm t5 t4
  have same0 : ∀ (c : Int) (_ : R = (x, c)) (tm : Ab.T), tm 5 = .int c → tm 4 = .ptr (H.length + 1) 0 0 → Q .ret tm (X.set (H.length + 1) (some ⟨44, .wr, [[.i .i64 x.id, .i .i64 x.ports, .i .i64 x.reg.epoch, .i .i64 x.reg.owner, .i .i64 x.reg.pair, q0, q1, q2, q3, q4]]⟩)) := by
    intro c h1 tm t5 t4
    have := same [] c h1 tm t5 t4
    rwa [List.append_nil] at this
  have hs : s < x.two.length := by omega
  have hI2 := hI1
  obtain ⟨p0, p1, p2, p3, p4, f0, f1, f2, f3, f4, hle, i0, ⟨a1, hp1, o1⟩, i2, ⟨a3, hp3, o3⟩, i4, rfl, hnd⟩ := hI2
  simp only [Box.enc, List.cons.injEq, and_true, true_and] at hle
  obtain ⟨rfl, rfl, rfl, rfl, rfl⟩ := hle
  subst hp1
  subst hp3
  have i3 : IsInS X (.sl a3 x.line.length) x.line f3 := ⟨a3, rfl, o3⟩
  obtain ⟨bid, blo, r1, r2, r3, r4, row, fs, hl, hbne, hbl, hbb, hbe, hbm, hrow, hrd, hbfs, hidfs, hput⟩ := boxTwoOwn b0 hI1 hid hs
  simp only [Box.enc, List.cons.injEq, and_true, true_and] at hl
  obtain ⟨rfl, rfl, rfl, rfl, rfl⟩ := hl
  have hbH : bid < H.length := by
    have h1 := hI.rd
    obtain ⟨_, _, _, _, _, e1, ⟨a0, rws, e2, hss, hll, _⟩, -⟩ := h1
    simp only [Box.enc, List.cons.injEq, and_true, true_and] at e1
    obtain ⟨e1, -⟩ := e1
    rw [e2] at e1
    injection e1 with e1
    rw [← e1] at hss
    exact hss.len (by rintro rfl; simp at hll; omega)
  have b0s := b0
  rw [h2] at b0 same same0
  obtain ⟨m, hm⟩ : ∃ m, m = x.two[s] := ⟨_, rfl⟩
  rw [← hm] at hrd
  have hmx : m ∈ x.two := by rw [hm]; exact List.getElem_mem hs
  have hmlog := hok.log m hmx
  have hmsz : m.sz ≤ 1048576 := by unfold Minder.sz; omega
  have hmA : mAt x (s : Int) = m := by simp [mAt, List.getD, List.getElem?_eq_getElem hs, hm]
  have hrdR := hrd.rd
  obtain ⟨a, rfl, oa⟩ := hrd
  have hrow' := hrow
  simp only [Minder.enc] at hrow
  have hs0 : (0 : Int) ≤ s := by omega
  have hsl2 : (s : Int) < 2 := by omega
  have hrl : s < blo.rows.length := (List.getElem?_eq_some_iff.1 hrow).1
  have hse : ∀ (Y : Heap) (y : Option Blk) (k : Nat), blkAt (List.set Y bid y) (H.length + k) = blkAt Y (H.length + k) := fun Y y k => blkAt_set_ne (by omega)
  have hse0 : ∀ (Y : Heap) (y : Option Blk), blkAt (List.set Y bid y) H.length = blkAt Y H.length := fun Y y => blkAt_set_ne (by omega)
  have hmi : mindsAt x (s : Int) = minds x.reg s m := by
    rw [mindsAt_s h2 hs2]
    have := hmA
    simp only [mAt, Int.toNat_natCast] at this
    rw [this]
  obtain ⟨o, ho⟩ : ∃ o : Nat, o = 1 - s := ⟨_, rfl⟩
  have hol : o < x.two.length := by omega
  obtain ⟨row2, hrow2, hrd2⟩ := boxRow b0s hI1 hid rfl hbb hol
  obtain ⟨n, hnn⟩ : ∃ n, n = x.two[o] := ⟨_, rfl⟩
  rw [← hnn] at hrd2
  obtain ⟨a2, rfl, -⟩ := hrd2
  simp only [Minder.enc] at hrow2
  have hos : (1 : Int) - s = (o : Int) := by omega
  have hnA : mAt x (1 - (s : Int)) = n := by rw [hos]; simp [mAt, List.getD, List.getElem?_eq_getElem hol, hnn]
  have hw : IntKind.i64.wrap (1 - (s : Int)) = (o : Int) := by rw [hos]; exact wrap64 (by omega) (by omega)
  have ho0 : (0 : Int) ≤ o := by omega
  have hol2 : (o : Int) < 2 := by omega
  have hot : o < 2 := by omega
  have mok := (Box.right hxok).ok m hmx
  have hac : 0 ≤ m.acked ∧ m.acked ≤ m.log.length := by simp [Minder.ok] at mok; omega
  obtain ⟨k, hk⟩ : ∃ k : Nat, nextN m n.life = (k : Int) := ⟨(nextN m n.life).toNat, by unfold nextN; split <;> omega⟩
  have hD : R = if minds x.reg s m = false ∨ m.log.length ≤ k then (x, 3) else sendD x ⟨s, false, n.life, k, m.log.getD k default⟩ := by
    rw [hR, shipD, hmA, hnA, hk]
    simp only [Int.toNat_natCast, Int.ofNat_le]
  have e1 := fun G => l14Minds (hI1.app G).rd (by omega) (s : Int)
  rw [hmi] at e1
  simp only [Box.enc, h2] at e1
  have b0A := fun G => blkAt_app b0 G
  have bzA := fun G => blkAt_app bz G
  have hbbA := fun G => blkAt_app hbb G
  have g1 : H.length < X.length + 1 := by omega
  have g2 : bid < X.length + 1 := by omega
  have g3 : H.length + 1 < X.length + 1 := by omega
  simp [b0, d0, indexAddrV, elemIs, hbb, hbl, hbe, hs2, hs0, hsl2, hrow, h2, hw, ho0, hol2, hot, hrow2, b0A, bzA, hbbA, g1, g2, g3]
  by_cases hal : m.ackLife = n.life
  · have hal' : decide (m.ackLife = n.life) = true := by simp [hal]
    have hka : m.acked = (k : Int) := by rw [← hk, nextN, if_pos hal]
    rw [hal']
    simp [b0A, g1, e1, hka]
    have hjn : ((k : Nat) : Int) = (k : Int) := rfl
    cases hmm : minds x.reg s m
    · rw [if_pos (.inl hmm)] at hD
      simp [hmm, b0A, g1, bzA, g3]
      exact same _ 3 hD _ (by simp) (by simp)
    simp [hmm, builtinV, pureB, lenV]
    refine selS_intro (fun hc => ?_) (fun hc => ?_)
    · have hle : m.log.length ≤ k := by simp at hc; first | exact hc | (rw [hc]; simp)
      rw [if_pos (.inr hle)] at hD
      simp [b0A, g1, bzA, g3]
      exact same _ 3 hD _ (by simp) (by simp)
    have hkl : k < m.log.length := by simp at hc; first | exact hc | exact List.length_pos_iff.2 hc
    rw [if_neg (by rw [hmm]; simp; first | omega | (intro h; rw [h] at hkl; simp at hkl))] at hD
    simp [b0A, g1, builtinV, pureB, lenV]
    refine selS_intro (fun hc2 => ?_) (fun hc2 => ?_)
    · simp at hc2
      rw [sendD, if_pos (by omega)] at hD
      simp [b0A, g1, bzA, g3]
      exact same _ 4 hD _ (by simp) (by simp)
    simp at hc2
    rw [sendD, if_neg (by omega)] at hD
    obtain ⟨id3, r3, bl3, rfl, hb3, hbe3, hrw3⟩ := oa.sl k _ (by simp [hkl]; rfl)
    have hid3 := blkAt_len hb3
    have hgd : m.log.getD k default = m.log[k] := by simp [List.getD, List.getElem?_eq_getElem hkl]
    rw [hgd] at hD
    have hbA3 := fun G => blkAt_app hb3 G
    have g4 : id3 < X.length + 1 := by omega
    have hklI : (k : Int) < m.log.length := by omega
    try simp only [Nat.add_zero] at hrw3
    simp [b0A, g1, indexAddrV, elemIs, hbA3, g4, hbe3, hrw3, hkl, hklI, In.enc]
    refine stpL_append (e := 113) (rows := x.net.map Wire.enc) (ys := [(⟨s, false, n.life, (k : Nat), m.log[k]⟩ : Wire).enc]) (o1.app _) (Sl.of (by simp [Wire.enc])) rfl rfl rfl (by simp) (by simp; omega) (by simp) rfl fun a'' H'' fp'' ho'' hk'' hf'' => ?_
    have k1 : Keep f1 X H'' := hk''.base
    have hi1 : H.length ∉ f1 := fun h => hid (by simp [h])
    have hz1 : H.length + 1 ∉ f1 := fun h => by have := hlt (H.length + 1) (by simp [h]); omega
    have b2 := k1.blk b0 hi1
    have d2 := blkAt_len b2
    have hf9 : ∀ i ∈ fp'', i ∈ f1 ∨ X.length ≤ i := fun i hi => (hf'' i hi).imp (fun h => h) (fun h => by rw [List.length_append] at h; omega)
    have hq : IsWireS H'' (.sl a'' (x.net.length + 1)) (x.net ++ [⟨s, false, n.life, (k : Nat), m.log[k]⟩]) fp'' := ⟨a'', by simp, by simpa using ho''⟩
    have hbn := boxNet (x := x) d0 hid i0 i2 i3 i4 hnd k1 hq hf9
    rw [h2] at hbn
    obtain ⟨l', w1, w2, w3, w4, w5, w6, w7⟩ := done _ _ 0 hD hbn
    simp only [Box.enc] at w1 w4 w5 w6 w7
    simp [b2, d2, w1, w2, w3, w4, w5, w6]
    exact w7 _ (by simp) (by simp)
  · have hka : (0 : Int) = (k : Int) := by rw [← hk, nextN, if_neg hal]
    obtain rfl : k = 0 := by omega
    simp [hal, b0A, g1, e1]
    have hjn : ((0 : Nat) : Int) = (0 : Int) := rfl
    cases hmm : minds x.reg s m
    · rw [if_pos (.inl hmm)] at hD
      simp [hmm, b0A, g1, bzA, g3]
      exact same _ 3 hD _ (by simp) (by simp)
    simp [hmm, builtinV, pureB, lenV]
    refine selS_intro (fun hc => ?_) (fun hc => ?_)
    · have hle : m.log.length ≤ 0 := by simp at hc; first | exact hc | (rw [hc]; simp)
      rw [if_pos (.inr hle)] at hD
      simp [b0A, g1, bzA, g3]
      exact same _ 3 hD _ (by simp) (by simp)
    have hkl : 0 < m.log.length := by simp at hc; first | exact hc | exact List.length_pos_iff.2 hc
    rw [if_neg (by rw [hmm]; simp; first | omega | (intro h; rw [h] at hkl; simp at hkl))] at hD
    simp [b0A, g1, builtinV, pureB, lenV]
    refine selS_intro (fun hc2 => ?_) (fun hc2 => ?_)
    · simp at hc2
      rw [sendD, if_pos (by omega)] at hD
      simp [b0A, g1, bzA, g3]
      exact same _ 4 hD _ (by simp) (by simp)
    simp at hc2
    rw [sendD, if_neg (by omega)] at hD
    obtain ⟨id3, r3, bl3, rfl, hb3, hbe3, hrw3⟩ := oa.sl 0 _ (by simp [hkl]; rfl)
    have hid3 := blkAt_len hb3
    have hgd : m.log.getD 0 default = m.log[0] := by simp [List.getD, List.getElem?_eq_getElem hkl]
    rw [hgd] at hD
    have hbA3 := fun G => blkAt_app hb3 G
    have g4 : id3 < X.length + 1 := by omega
    have hklI : (0 : Int) < m.log.length := by omega
    try simp only [Nat.add_zero] at hrw3
    simp [b0A, g1, indexAddrV, elemIs, hbA3, g4, hbe3, hrw3, hkl, hklI, In.enc]
    refine stpL_append (e := 113) (rows := x.net.map Wire.enc) (ys := [(⟨s, false, n.life, (0 : Nat), m.log[0]⟩ : Wire).enc]) (o1.app _) (Sl.of (by simp [Wire.enc])) rfl rfl rfl (by simp) (by simp; omega) (by simp) rfl fun a'' H'' fp'' ho'' hk'' hf'' => ?_
    have k1 : Keep f1 X H'' := hk''.base
    have hi1 : H.length ∉ f1 := fun h => hid (by simp [h])
    have hz1 : H.length + 1 ∉ f1 := fun h => by have := hlt (H.length + 1) (by simp [h]); omega
    have b2 := k1.blk b0 hi1
    have d2 := blkAt_len b2
    have hf9 : ∀ i ∈ fp'', i ∈ f1 ∨ X.length ≤ i := fun i hi => (hf'' i hi).imp (fun h => h) (fun h => by rw [List.length_append] at h; omega)
    have hq : IsWireS H'' (.sl a'' (x.net.length + 1)) (x.net ++ [⟨s, false, n.life, (0 : Nat), m.log[0]⟩]) fp'' := ⟨a'', by simp, by simpa using ho''⟩
    have hbn := boxNet (x := x) d0 hid i0 i2 i3 i4 hnd k1 hq hf9
    rw [h2] at hbn
    obtain ⟨l', w1, w2, w3, w4, w5, w6, w7⟩ := done _ _ 0 hD hbn
    simp only [Box.enc] at w1 w4 w5 w6 w7
    simp [b2, d2, w1, w2, w3, w4, w5, w6]
    exact w7 _ (by simp) (by simp)

theorem l15Heard {H : Heap} {l : List Lf} {x : Box} {fp : List Nat} (hI : IsBox H l x fp) (hok : Small x) (hlog : ∀ m ∈ x.two, m.log.length ≤ 60) (w : Wire) (hfrm : 0 ≤ w.frm ∧ w.frm ≤ 1) :
    Runs env 99 [.agg l, .agg w.enc] H fun v H' => ∃ l', v = .agg l' ∧ BoxVal H H' fp l' (heardD x w) := by
  have hsz := hok.sz
  have h2 := hok.two
  have hlt := hI.lt
  have hid : H.length ∉ fp := fun h => by have := hlt _ h; omega
  obtain ⟨q0, q1, q2, q3, q4, rfl⟩ : ∃ q0 q1 q2 q3 q4, l = x.enc q0 q1 q2 q3 q4 := by
    obtain ⟨q0, q1, q2, q3, q4, _, _, _, _, _, rfl, -⟩ := hI
    exact ⟨q0, q1, q2, q3, q4, rfl⟩
  obtain ⟨R, hR⟩ : ∃ R, R = heardD x w := ⟨_, rfl⟩
  rw [← hR]
  refine Runs.walk ok99 Tryz.func99 rfl (by simp [Tryz.f99]) fun Q hQ => ?_
  simp only [Tryz.f99, strip, stripL, stripI, stripG, chkT, tagsB, tagsL, tagD, addT, tagA, lookN, tagOp, elmT, ty24, ty25, ty26, ty27, ty28, ty39, ty40, ty41, ty42, ty57, ty59, ty62, ty98, Nat.reduceEqDiff, if_false, reduceIte, Option.getD_some, Option.getD_none, dstAt, dstOk, Nat.reduceLT, decide_true, if_true]
  have fin : ∀ (HX : Heap) (tm : Ab.T) (y : Box) (l' : List Lf), R = y → BoxVal H HX fp l' y → tm 4 = .ptr (H.length + 2) 0 0 → blkAt HX (H.length + 2) = some ⟨44, .wr, [l']⟩ → Q .ret tm HX := by
    intro HX tm y l' h1 hv t4 hb4
    have hL' := hv.len
    have hT' : l'.take l'.length = l' := List.take_length
    rw [hL'] at hT'
    refine hQ _ _ _ (by simp) ?_
    have hres : resT env.τ tm HX (Tryz.f99.results.toList) = some [W.agg l'] := by simp [Tryz.f99, t4, hb4, hL', hT']
    rw [hres, optK_some, h1]
    exact ⟨_, rfl, hv.leave (by simp)⟩
  simp [Box.enc, Deed.enc, Wire.enc]
  obtain ⟨X, hX⟩ : ∃ X : Heap, X = H ++ [some ⟨44, .wr, [[.i .i64 x.id, .i .i64 x.ports, .i .i64 x.reg.epoch, .i .i64 x.reg.owner, .i .i64 x.reg.pair, q0, q1, q2, q3, q4]]⟩, some ⟨113, .wr, [[.i .i64 w.frm, .b w.ack, .i .i64 w.life, .i .i64 w.n, .i .i64 w.inn.kind, .i .i64 w.inn.port, .i .i64 w.inn.vec.root, .i .i64 w.inn.vec.cost, .i .i64 w.inn.vec.bridge, .i .i64 w.inn.vec.port, .i .i64 w.inn.hops, .b w.inn.up]]⟩, some ⟨44, .wr, [[.i .i64 0, .i .i64 0, .i .i64 0, .i .i64 0, .i .i64 0, .sl none 0, .sl none 0, .sl none 0, .sl none 0, .sl none 0]]⟩] := ⟨_, rfl⟩
  have b0 : blkAt X H.length = some ⟨44, .wr, [[.i .i64 x.id, .i .i64 x.ports, .i .i64 x.reg.epoch, .i .i64 x.reg.owner, .i .i64 x.reg.pair, q0, q1, q2, q3, q4]]⟩ := by rw [hX]; simp
  have d0 := blkAt_len b0
  have bz : blkAt X (H.length + 2) = some ⟨44, .wr, [[.i .i64 0, .i .i64 0, .i .i64 0, .i .i64 0, .i .i64 0, .sl none 0, .sl none 0, .sl none 0, .sl none 0, .sl none 0]]⟩ := by rw [hX]; simp
  have dz := blkAt_len bz
  have bD : blkAt X (H.length + 1) = some ⟨113, .wr, [[.i .i64 w.frm, .b w.ack, .i .i64 w.life, .i .i64 w.n, .i .i64 w.inn.kind, .i .i64 w.inn.port, .i .i64 w.inn.vec.root, .i .i64 w.inn.vec.cost, .i .i64 w.inn.vec.bridge, .i .i64 w.inn.vec.port, .i .i64 w.inn.hops, .b w.inn.up]]⟩ := by rw [hX]; simp
  have dD := blkAt_len bD
  rw [← hX]
  have kX : Keep [] H X := by rw [hX]; exact Keep.app _ _ _
  have hI1 : IsBox X (x.enc q0 q1 q2 q3 q4) x fp := hI.keep kX (by simp)
  have val : ∀ (HX : Heap) (y : Box), BoxTo X HX H.length fp y → ∃ l', blkAt HX H.length = some ⟨44, .wr, [l']⟩ ∧ l'.length = 10 ∧ l'.take 10 = l' ∧ BoxVal H (HX.set (H.length + 2) (some ⟨44, .wr, [l']⟩)) fp l' y ∧ Keep (H.length :: fp) X HX := by
    intro HX y h
    rw [hX] at h ⊢
    exact h.val hlt (by omega) (by simp)
  have off : ∀ k : Nat, 0 < k → H.length + k ∉ H.length :: fp := fun k hk h => by
    rcases List.mem_cons.1 h with h | h
    · omega
    · have := hlt _ h; omega
  have done : ∀ (HX : Heap) (y : Box) (_ : R = y) (_ : BoxTo X HX H.length fp y), ∃ l', blkAt HX H.length = some ⟨44, .wr, [l']⟩ ∧ l'.length = 10 ∧ l'.take 10 = l' ∧ H.length < HX.length ∧ H.length + 2 < HX.length ∧ blkAt HX (H.length + 2) = some ⟨44, .wr, [[.i .i64 0, .i .i64 0, .i .i64 0, .i .i64 0, .i .i64 0, .sl none 0, .sl none 0, .sl none 0, .sl none 0, .sl none 0]]⟩ ∧ ∀ tm : Ab.T, tm 4 = .ptr (H.length + 2) 0 0 → Q .ret tm (HX.set (H.length + 2) (some ⟨44, .wr, [l']⟩)) := by
    intro HX y h1 h
    obtain ⟨l', v1, v2, v3, v4, v5⟩ := val HX y h
    have hz := v5.blk bz (off _ (by omega))
    have hzl := blkAt_len hz
    exact ⟨l', v1, v2, v3, blkAt_len v1, hzl, hz, fun tm t4 => fin _ tm y l' h1 v4 t4 (blkAt_set hzl)⟩
  have doneL : ∀ (HX : Heap) (y : Box) (L : List Lf) (_ : R = y) (_ : blkAt HX H.length = some ⟨44, .wr, [L]⟩) (_ : BoxTo X HX H.length fp y), H.length < HX.length ∧ H.length + 2 < HX.length ∧ blkAt HX (H.length + 2) = some ⟨44, .wr, [[.i .i64 0, .i .i64 0, .i .i64 0, .i .i64 0, .i .i64 0, .sl none 0, .sl none 0, .sl none 0, .sl none 0, .sl none 0]]⟩ ∧ ∀ tm : Ab.T, tm 4 = .ptr (H.length + 2) 0 0 → Q .ret tm (HX.set (H.length + 2) (some ⟨44, .wr, [L]⟩)) := by
    intro HX y L h1 hb h
    obtain ⟨l', w1, w2, w3, w4, w5, w6, w7⟩ := done HX y h1 h
    rw [hb] at w1
    injection w1 with w1
    simp only [Blk.mk.injEq, List.cons.injEq, and_true, true_and] at w1
    subst w1
    exact ⟨w4, w5, w6, w7⟩
  have same : ∀ (G : Heap) (_ : R = x) (tm : Ab.T), tm 4 = .ptr (H.length + 2) 0 0 → Q .ret tm ((X ++ G).set (H.length + 2) (some ⟨44, .wr, [[.i .i64 x.id, .i .i64 x.ports, .i .i64 x.reg.epoch, .i .i64 x.reg.owner, .i .i64 x.reg.pair, q0, q1, q2, q3, q4]]⟩)) := by
    intro G h1 tm t4
    obtain ⟨l', w1, -, -, -, -, -, w7⟩ := done (X ++ G) x h1 (BoxTo.app b0 hI1 hid G)
    rw [blkAt_app b0] at w1
    injection w1 with w1
    simp only [Blk.mk.injEq, List.cons.injEq, and_true, true_and] at w1
    subst w1
    exact w7 tm t4
  have same0 : ∀ (_ : R = x) (tm : Ab.T), tm 4 = .ptr (H.length + 2) 0 0 → Q .ret tm (X.set (H.length + 2) (some ⟨44, .wr, [[.i .i64 x.id, .i .i64 x.ports, .i .i64 x.reg.epoch, .i .i64 x.reg.owner, .i .i64 x.reg.pair, q0, q1, q2, q3, q4]]⟩)) := by
    intro h1 tm t4
    have := same [] h1 tm t4
    rwa [List.append_nil] at this
  obtain ⟨s, hsw⟩ : ∃ s : Nat, 1 - w.frm = (s : Int) := ⟨(1 - w.frm).toNat, by omega⟩
  have hs2 : s < 2 := by omega
  have hws : IntKind.i64.wrap (1 - w.frm) = (s : Int) := by rw [hsw]; exact wrap64 (by omega) (by omega)
  have hs : s < x.two.length := by omega
  have hI2 := hI1
  obtain ⟨p0, p1, p2, p3, p4, f0, f1, f2, f3, f4, hle, i0, ⟨a1, hp1, o1⟩, i2, ⟨a3, hp3, o3⟩, i4, rfl, hnd⟩ := hI2
  simp only [Box.enc, List.cons.injEq, and_true, true_and] at hle
  obtain ⟨rfl, rfl, rfl, rfl, rfl⟩ := hle
  subst hp1
  subst hp3
  have i3 : IsInS X (.sl a3 x.line.length) x.line f3 := ⟨a3, rfl, o3⟩
  obtain ⟨bid, blo, r1, r2, r3, r4, row, fs, hl, hbne, hbl, hbb, hbe, hbm, hrow, hrd, hbfs, hidfs, hput⟩ := boxTwoOwn b0 hI1 hid hs
  simp only [Box.enc, List.cons.injEq, and_true, true_and] at hl
  obtain ⟨rfl, rfl, rfl, rfl, rfl⟩ := hl
  have hbH : bid < H.length := by
    have h1 := hI.rd
    obtain ⟨_, _, _, _, _, e1, ⟨a0, rws, e2, hss, hll, _⟩, -⟩ := h1
    simp only [Box.enc, List.cons.injEq, and_true, true_and] at e1
    obtain ⟨e1, -⟩ := e1
    rw [e2] at e1
    injection e1 with e1
    rw [← e1] at hss
    exact hss.len (by rintro rfl; simp at hll; omega)
  have b0s := b0
  rw [h2] at b0 same same0
  obtain ⟨m, hm⟩ : ∃ m, m = x.two[s] := ⟨_, rfl⟩
  rw [← hm] at hrd
  have hmx : m ∈ x.two := by rw [hm]; exact List.getElem_mem hs
  have hmlog := hok.log m hmx
  have hmsz : m.sz ≤ 1048576 := by unfold Minder.sz; omega
  have hmA : mAt x (s : Int) = m := by simp [mAt, List.getD, List.getElem?_eq_getElem hs, hm]
  have hrdR := hrd.rd
  obtain ⟨a, rfl, oa⟩ := hrd
  have hrow' := hrow
  simp only [Minder.enc] at hrow
  have hs0 : (0 : Int) ≤ s := by omega
  have hsl2 : (s : Int) < 2 := by omega
  have hrl : s < blo.rows.length := (List.getElem?_eq_some_iff.1 hrow).1
  have hse : ∀ (Y : Heap) (y : Option Blk) (k : Nat), blkAt (List.set Y bid y) (H.length + k) = blkAt Y (H.length + k) := fun Y y k => blkAt_set_ne (by omega)
  have hse0 : ∀ (Y : Heap) (y : Option Blk), blkAt (List.set Y bid y) H.length = blkAt Y H.length := fun Y y => blkAt_set_ne (by omega)
  have hmi : mindsAt x (s : Int) = minds x.reg s m := by
    rw [mindsAt_s h2 hs2]
    have := hmA
    simp only [mAt, Int.toNat_natCast] at this
    rw [this]
  have hH := heardD.eq_1 x w
  simp only [hsw, hmA, Int.toNat_natCast] at hH
  rw [← hR] at hH
  have e1 := fun G => l14Minds (hI1.app G).rd (by omega) (s : Int)
  rw [hmi] at e1
  simp only [Box.enc, h2] at e1
  have b0A := fun G => blkAt_app b0 G
  have bzA := fun G => blkAt_app bz G
  have bDA := fun G => blkAt_app bD G
  have hbbA := fun G => blkAt_app hbb G
  have g1 : H.length < X.length + 1 := by omega
  have g2 : bid < X.length + 1 := by omega
  have g3 : H.length + 2 < X.length + 1 := by omega
  have g4 : H.length + 1 < X.length + 1 := by omega
  simp [b0, d0, bD, dD, hws, indexAddrV, elemIs, hbb, hbl, hbe, hs2, hs0, hsl2, hrow, h2, b0A, bzA, bDA, hbbA, g1, g2, g3, g4]
  cases hup : m.up
  · rw [if_pos hup] at hH
    simp [b0A, g1, bzA, g3]
    exact same _ hH _ (by simp)
  rw [if_neg (by simp [hup])] at hH
  simp [b0A, g1, bzA, g3, bDA, g4]
  cases hack : w.ack
  · rw [if_neg (by simp [hack])] at hH
    simp [b0A, g1, bzA, g3, bDA, g4]
    by_cases hlf : w.life = m.life
    · rw [if_neg (by simp [hlf])] at hH
      have e2 := fun G => specNote_is (hrdR.app G) hmsz w.inn
      simp only [In.enc, Minder.enc, hup] at e2
      simp [hlf, b0A, g1, bzA, g3, bDA, g4, builtinV, pureB, lenV]
      by_cases hnt : m.epoch = 0 ∧ w.n = (m.log.length : Int)
      · rw [if_pos hnt] at hH
        have hn1 := hnt.1
        have hn2 := hnt.2
        rw [hn1] at e2
        simp [hn1, hn2, bDA, g4, builtinV, pureB, lenV]
        refine stpL_runs (e2 _) ?_
        rintro _ _ ⟨ln, fn, rfl, on, ⟨⟨G2, rfl⟩, hfn⟩⟩
        have hLn := on.len
        have hTn : ln.take ln.length = ln := List.take_length
        rw [hLn] at hTn
        have g5 : H.length < X.length + (G2.length + (1 + 1)) := by omega
        have g6 : bid < X.length + (G2.length + (1 + 1)) := by omega
        have g7 : H.length < X.length + (G2.length + 1 + 1) := by omega
        have g8 : bid < X.length + (G2.length + 1 + 1) := by omega
        have g9 : H.length < X.length + (G2.length + 2) := by omega
        have g10 : bid < X.length + (G2.length + 2) := by omega
        simp [hLn, hTn, b0A, g5, g6, g7, g8, g9, g10, indexAddrV, elemIs, hbbA, hbe, hbm, hs2, hs0, hsl2, hrow, h2]
        have on2 := on.app [some ⟨106, .wr, [ln]⟩]
        obtain ⟨Z0, hZ0⟩ : ∃ Z0 : Heap, Z0 = X ++ some ⟨106, .wr, [[.b true, .i .i64 m.life, .i .i64 0, .sl a m.log.length, .i .i64 m.said, .i .i64 m.acked, .i .i64 m.ackLife]]⟩ :: (G2 ++ [some ⟨106, .wr, [ln]⟩]) := ⟨_, rfl⟩
        have kZ0 : Keep [] X Z0 := by rw [hZ0]; exact Keep.app _ _ _
        simp only [List.append_assoc, List.cons_append, List.nil_append] at on2
        rw [← hZ0] at on2 ⊢
        have hM0 : blkAt Z0 X.length = some ⟨106, .wr, [[.b true, .i .i64 m.life, .i .i64 0, .sl a m.log.length, .i .i64 m.said, .i .i64 m.acked, .i .i64 m.ackLife]]⟩ := by rw [hZ0]; simp
        obtain ⟨fp', z1, z2, z3, z4, z5⟩ := hput Z0 ln _ fn kZ0 on2 (fun i hi => .inr (by have := hfn i hi; simp at this; omega))
        have z1' := z1
        simp only [Box.enc, h2] at z1'
        obtain ⟨an, hln, -⟩ := on
        have hd3 : List.take 1 (List.drop 3 ln) = [.sl an (note m w.inn).1.log.length] := by rw [hln]; rfl
        have hbz : bid < Z0.length := Nat.lt_of_lt_of_le hbl kZ0.1
        have hrowY : (blo.rows.set s ln)[s]? = some ln := by simp [hrl]
        obtain ⟨Y, hY⟩ : ∃ Y : Heap, Y = Z0.set bid (some ⟨106, .wr, blo.rows.set s ln⟩) := ⟨_, rfl⟩
        have yb : blkAt Y bid = some ⟨106, .wr, blo.rows.set s ln⟩ := by rw [hY]; exact blkAt_set hbz
        have yM : blkAt Y X.length = some ⟨106, .wr, [[.b true, .i .i64 m.life, .i .i64 0, .sl a m.log.length, .i .i64 m.said, .i .i64 m.acked, .i .i64 m.ackLife]]⟩ := by rw [hY, blkAt_set_ne (by omega)]; exact hM0
        rw [← hY] at z1 z1' z2 z4 ⊢
        clear hY hZ0 hM0 kZ0
        have yz := z4.blk bz (off 2 (by omega))
        have j1 := blkAt_len z1
        have j2 := blkAt_len yb
        have j3 := blkAt_len yM
        have j4 := blkAt_len yz
        obtain ⟨a1', s0, s2, s3, s4, f1', hl1, o1', hf1g, hput1⟩ := boxApp z1 z2 z3
        simp only [Box.enc, setTwo, List.cons.injEq, Lf.sl.injEq, and_true, true_and] at hl1
        obtain ⟨rfl, rfl, rfl, rfl, rfl⟩ := hl1
        have hyn : (setTwo x s (note m w.inn).1).net = x.net := rfl
        rw [hyn] at o1'
        have hmA2 : mAt (setTwo x s (note m w.inn).1) (s : Int) = (note m w.inn).1 := by simp [mAt, List.getD, setTwo, hs]
        rw [hmA2] at hH
        simp [z1', j1, builtinV, pureB, lenV]
        refine selS_intro (fun hc2 => ?_) (fun hc2 => ?_)
        · simp at hc2
          rw [sendD, if_neg (by rw [hyn]; omega)] at hH
          simp [z1', j1, j2, j3, yM, yb, indexAddrV, elemIs, hs2, hs0, hsl2, hrowY, hLn, hd3, builtinV, pureB, lenV]
          refine stpL_append (e := 113) (rows := x.net.map Wire.enc) (ys := [(⟨s, true, m.life, (note m w.inn).1.log.length, ⟨0, 0, ⟨0, 0, 0, 0⟩, 0, false⟩⟩ : Wire).enc]) (o1'.app _) (Sl.of (by simp [Wire.enc, In.enc])) rfl rfl rfl (by simp) (by simp; omega) (by simp) rfl fun a'' H'' fp'' ho'' hk'' hf'' => ?_
          have k1 : Keep f1' Y H'' := hk''.base
          have hf9 : ∀ i ∈ fp'', i ∈ f1' ∨ Y.length ≤ i := fun i hi => (hf'' i hi).imp (fun h => h) (fun h => by rw [List.length_append] at h; omega)
          have hq : IsWireS H'' (.sl a'' (x.net.length + 1)) (x.net ++ [⟨s, true, m.life, (note m w.inn).1.log.length, ⟨0, 0, ⟨0, 0, 0, 0⟩, 0, false⟩⟩]) fp'' := ⟨a'', by simp, by simpa using ho''⟩
          obtain ⟨b2, hbn⟩ := hput1 H'' _ _ fp'' k1 hq hf9
          have b2' := b2
          simp only [Box.enc, h2] at b2'
          have d2 := blkAt_len b2
          obtain ⟨l', w1, w2, w3, w4, w5, w6, w7⟩ := done _ _ hH (BoxTo.trans z4 z5 hbn)
          simp only [Box.enc, setTwo, List.length_set, h2] at w1 w4 w5 w6 w7
          simp [b2', d2, w1, w2, w3, w4, w5, w6]
          exact w7 _ (by simp)
        · simp at hc2
          rw [sendD, if_pos (by rw [hyn]; omega)] at hH
          simp [z1', j1, yz, j4]
          exact (doneL _ _ _ hH z1' ⟨_, fp', z1, z2, z3, z4, z5⟩).2.2.2 _ (by simp)
      · rw [if_neg hnt, hmA] at hH
        by_cases hn1 : m.epoch = 0
        · have hn2 : ¬ w.n = (m.log.length : Int) := fun h => hnt ⟨hn1, h⟩
          simp [hn1, hn2, b0A, g1, bzA, g3, bDA, g4, builtinV, pureB, lenV]
          refine selS_intro (fun hc2 => ?_) (fun hc2 => ?_)
          · simp at hc2
            rw [sendD, if_neg (by omega)] at hH
            simp [b0A, g1, bzA, g3, indexAddrV, elemIs, hbbA, g2, hbe, hs2, hs0, hsl2, hrow, h2, builtinV, pureB, lenV]
            refine stpL_append (e := 113) (rows := x.net.map Wire.enc) (ys := [(⟨s, true, m.life, m.log.length, ⟨0, 0, ⟨0, 0, 0, 0⟩, 0, false⟩⟩ : Wire).enc]) (o1.app _) (Sl.of (by simp [Wire.enc, In.enc])) rfl rfl rfl (by simp) (by simp; omega) (by simp) rfl fun a'' H'' fp'' ho'' hk'' hf'' => ?_
            have k1 : Keep f1 X H'' := hk''.base
            have b2 := k1.blk b0 (fun h => hid (by simp [h]))
            have d2 := blkAt_len b2
            have hf9 : ∀ i ∈ fp'', i ∈ f1 ∨ X.length ≤ i := fun i hi => (hf'' i hi).imp (fun h => h) (fun h => by rw [List.length_append] at h; omega)
            have hq : IsWireS H'' (.sl a'' (x.net.length + 1)) (x.net ++ [⟨s, true, m.life, m.log.length, ⟨0, 0, ⟨0, 0, 0, 0⟩, 0, false⟩⟩]) fp'' := ⟨a'', by simp, by simpa using ho''⟩
            have hbn := boxNet (x := x) d0 hid i0 i2 i3 i4 hnd k1 hq hf9
            rw [h2] at hbn
            obtain ⟨l', w1, w2, w3, w4, w5, w6, w7⟩ := done _ _ hH hbn
            simp only [Box.enc] at w1 w4 w5 w6 w7
            simp [b2, d2, w1, w2, w3, w4, w5, w6]
            exact w7 _ (by simp)
          · simp at hc2
            rw [sendD, if_pos (by omega)] at hH
            simp [b0A, g1, bzA, g3]
            exact same _ hH _ (by simp)
        · simp [hn1, b0A, g1, bzA, g3, builtinV, pureB, lenV]
          refine selS_intro (fun hc2 => ?_) (fun hc2 => ?_)
          · simp at hc2
            rw [sendD, if_neg (by omega)] at hH
            simp [b0A, g1, bzA, g3, indexAddrV, elemIs, hbbA, g2, hbe, hs2, hs0, hsl2, hrow, h2, builtinV, pureB, lenV]
            refine stpL_append (e := 113) (rows := x.net.map Wire.enc) (ys := [(⟨s, true, m.life, m.log.length, ⟨0, 0, ⟨0, 0, 0, 0⟩, 0, false⟩⟩ : Wire).enc]) (o1.app _) (Sl.of (by simp [Wire.enc, In.enc])) rfl rfl rfl (by simp) (by simp; omega) (by simp) rfl fun a'' H'' fp'' ho'' hk'' hf'' => ?_
            have k1 : Keep f1 X H'' := hk''.base
            have b2 := k1.blk b0 (fun h => hid (by simp [h]))
            have d2 := blkAt_len b2
            have hf9 : ∀ i ∈ fp'', i ∈ f1 ∨ X.length ≤ i := fun i hi => (hf'' i hi).imp (fun h => h) (fun h => by rw [List.length_append] at h; omega)
            have hq : IsWireS H'' (.sl a'' (x.net.length + 1)) (x.net ++ [⟨s, true, m.life, m.log.length, ⟨0, 0, ⟨0, 0, 0, 0⟩, 0, false⟩⟩]) fp'' := ⟨a'', by simp, by simpa using ho''⟩
            have hbn := boxNet (x := x) d0 hid i0 i2 i3 i4 hnd k1 hq hf9
            rw [h2] at hbn
            obtain ⟨l', w1, w2, w3, w4, w5, w6, w7⟩ := done _ _ hH hbn
            simp only [Box.enc] at w1 w4 w5 w6 w7
            simp [b2, d2, w1, w2, w3, w4, w5, w6]
            exact w7 _ (by simp)
          · simp at hc2
            rw [sendD, if_pos (by omega)] at hH
            simp [b0A, g1, bzA, g3]
            exact same _ hH _ (by simp)
    · rw [if_pos hlf] at hH
      simp [hlf, b0A, g1, bzA, g3]
      exact same _ hH _ (by simp)
  · rw [if_pos hack] at hH
    simp [b0A, g1, bzA, g3, bDA, g4, e1]
    have skp : ¬ (minds x.reg s m = true ∧ (m.ackLife < w.life ∨ (w.life = m.ackLife ∧ m.acked < w.n))) → ∀ (G : Heap) (tm : Ab.T), tm 4 = .ptr (H.length + 2) 0 0 → Q .ret tm ((X ++ G).set (H.length + 2) (some ⟨44, .wr, [[.i .i64 x.id, .i .i64 x.ports, .i .i64 x.reg.epoch, .i .i64 x.reg.owner, .i .i64 x.reg.pair, (.sl (some (bid, 0)) 2), (.sl a1 x.net.length), q2, (.sl a3 x.line.length), q4]]⟩)) := by
      intro h G
      rw [if_neg h] at hH
      exact same G hH
    have hmn : (if w.n < (m.log.length : Int) then w.n else (m.log.length : Int)) = min w.n m.log.length := by split <;> omega
    cases hmm : minds x.reg s m
    · simp [b0A, g1, bzA, g3]
      exact skp (by simp [hmm]) _ _ (by simp)
    have upd : (m.ackLife < w.life ∨ (w.life = m.ackLife ∧ m.acked < w.n)) → ∀ G : Heap, ∀ tm : Ab.T, tm 4 = .ptr (H.length + 2) 0 0 → Q .ret tm (((X ++ G).set bid (some ⟨106, .wr, blo.rows.set s [.b true, .i .i64 m.life, .i .i64 m.epoch, .sl a m.log.length, .i .i64 m.said, .i .i64 (min w.n m.log.length), .i .i64 w.life]⟩)).set (H.length + 2) (some ⟨44, .wr, [[.i .i64 x.id, .i .i64 x.ports, .i .i64 x.reg.epoch, .i .i64 x.reg.owner, .i .i64 x.reg.pair, (.sl (some (bid, 0)) 2), (.sl a1 x.net.length), q2, (.sl a3 x.line.length), q4]]⟩)) := by
      intro hnew G
      rw [if_pos ⟨hmm, hnew⟩, hup] at hH
      obtain ⟨g2', y1, y2, y3, y4, y5⟩ := hput (X ++ G) [.b true, .i .i64 m.life, .i .i64 m.epoch, .sl a m.log.length, .i .i64 m.said, .i .i64 (min w.n m.log.length), .i .i64 w.life] ⟨true, m.life, m.epoch, m.log, m.said, min w.n m.log.length, w.life⟩ fs (Keep.app [] X G) ⟨a, rfl, oa.app G⟩ (fun i hi => .inl hi)
      have y1' := y1
      simp only [Box.enc, h2] at y1'
      exact (doneL _ _ _ hH y1' ⟨_, g2', y1, y2, y3, y4, y5⟩).2.2.2
    have hrow3 : ∀ r : List Lf, (blo.rows.set s r)[s]? = some r := fun r => by simp [hrl]
    have g5 : H.length < X.length + 1 := by omega
    by_cases c1 : m.ackLife < w.life
    · simp [c1, b0A, g1, bzA, g3, bDA, g4, builtinV, pureB, lenV, l1Min, hmn, indexAddrV, elemIs, hbbA, g2, hbe, hbm, hs2, hs0, hsl2, hrow, h2]
      simp [hse0, hse, b0A, g1, bzA, g3]
      exact upd (.inl c1) _ _ (by simp)
    · by_cases c2 : w.life = m.ackLife
      · rw [c2] at upd
        by_cases c3 : m.acked < w.n
        · simp [c1, c2, c3, b0A, g1, bzA, g3, bDA, g4, builtinV, pureB, lenV, l1Min, hmn, indexAddrV, elemIs, hbbA, g2, hbe, hbm, hs2, hs0, hsl2, hrow, h2]
          simp [hse0, hse, b0A, g1, bzA, g3]
          exact upd (.inr ⟨rfl, c3⟩) _ _ (by simp)
        · simp [c1, c2, c3, b0A, g1, bzA, g3, bDA, g4]
          exact skp (by simp [hmm, c2]; omega) _ _ (by simp)
      · simp [c1, c2, b0A, g1, bzA, g3, bDA, g4]
        exact skp (by simp [hmm]; omega) _ _ (by simp)

theorem l15Net {H : Heap} {l : List Lf} {x : Box} {fp : List Nat} (hI : IsBox H l x fp) (hok : Small x) (hxok : x.ok = true) (d : Deed) (hk : d.kind = 3 ∨ d.kind = 4 ∨ d.kind = 5) :
    Runs env 67 [.agg l, .agg d.enc] H fun v H' => ∃ l', v = .tup [.agg l', .lf (.i .i64 (onWireD x d).2)] ∧ BoxVal H H' fp l' (onWireD x d).1 := by
  have hsz := hok.sz
  have h2 := hok.two
  have hlt := hI.lt
  have hid : H.length ∉ fp := fun h => by have := hlt _ h; omega
  obtain ⟨q0, q1, q2, q3, q4, rfl⟩ : ∃ q0 q1 q2 q3 q4, l = x.enc q0 q1 q2 q3 q4 := by
    obtain ⟨q0, q1, q2, q3, q4, _, _, _, _, _, rfl, -⟩ := hI
    exact ⟨q0, q1, q2, q3, q4, rfl⟩
  obtain ⟨R, hR⟩ : ∃ R, R = onWireD x d := ⟨_, rfl⟩
  rw [← hR]
  refine Runs.walk ok67 Tryz.func67 rfl (by simp [Tryz.f67]) fun Q hQ => ?_
  simp only [Tryz.f67, strip, stripL, stripI, stripG, chkT, tagsB, tagsL, tagD, addT, tagA, lookN, tagOp, elmT, ty24, ty25, ty26, ty27, ty28, ty39, ty40, ty41, ty42, ty57, ty59, ty62, ty98, Nat.reduceEqDiff, if_false, reduceIte, Option.getD_some, Option.getD_none, dstAt, dstOk, Nat.reduceLT, decide_true, if_true]
  have fin : ∀ (HX : Heap) (tm : Ab.T) (c : Int) (y : Box) (l' : List Lf), R = (y, c) → BoxVal H HX fp l' y → tm 5 = .int c → tm 4 = .ptr (H.length + 2) 0 0 → blkAt HX (H.length + 2) = some ⟨44, .wr, [l']⟩ → Q .ret tm HX := by
    intro HX tm c y l' h1 hv t5 t4 hb4
    have hL' := hv.len
    have hT' : l'.take l'.length = l' := List.take_length
    rw [hL'] at hT'
    refine hQ _ _ _ (by simp) ?_
    have hres : resT env.τ tm HX (Tryz.f67.results.toList) = some [W.agg l', W.lf (.i .i64 c)] := by simp [Tryz.f67, t4, t5, hb4, hL', hT']
    rw [hres, optK_some, h1]
    exact ⟨_, rfl, hv.leave (by simp)⟩
  simp [Box.enc, Deed.enc, Wire.enc]
  obtain ⟨X, hX⟩ : ∃ X : Heap, X = H ++ [some ⟨44, .wr, [[.i .i64 x.id, .i .i64 x.ports, .i .i64 x.reg.epoch, .i .i64 x.reg.owner, .i .i64 x.reg.pair, q0, q1, q2, q3, q4]]⟩, some ⟨52, .wr, [[.i .i64 d.kind, .i .i64 d.a, .i .i64 d.inn.kind, .i .i64 d.inn.port, .i .i64 d.inn.vec.root, .i .i64 d.inn.vec.cost, .i .i64 d.inn.vec.bridge, .i .i64 d.inn.vec.port, .i .i64 d.inn.hops, .b d.inn.up]]⟩, some ⟨44, .wr, [[.i .i64 0, .i .i64 0, .i .i64 0, .i .i64 0, .i .i64 0, .sl none 0, .sl none 0, .sl none 0, .sl none 0, .sl none 0]]⟩] := ⟨_, rfl⟩
  have b0 : blkAt X H.length = some ⟨44, .wr, [[.i .i64 x.id, .i .i64 x.ports, .i .i64 x.reg.epoch, .i .i64 x.reg.owner, .i .i64 x.reg.pair, q0, q1, q2, q3, q4]]⟩ := by rw [hX]; simp
  have d0 := blkAt_len b0
  have bz : blkAt X (H.length + 2) = some ⟨44, .wr, [[.i .i64 0, .i .i64 0, .i .i64 0, .i .i64 0, .i .i64 0, .sl none 0, .sl none 0, .sl none 0, .sl none 0, .sl none 0]]⟩ := by rw [hX]; simp
  have dz := blkAt_len bz
  have bD : blkAt X (H.length + 1) = some ⟨52, .wr, [[.i .i64 d.kind, .i .i64 d.a, .i .i64 d.inn.kind, .i .i64 d.inn.port, .i .i64 d.inn.vec.root, .i .i64 d.inn.vec.cost, .i .i64 d.inn.vec.bridge, .i .i64 d.inn.vec.port, .i .i64 d.inn.hops, .b d.inn.up]]⟩ := by rw [hX]; simp
  have dD := blkAt_len bD
  rw [← hX]
  have kX : Keep [] H X := by rw [hX]; exact Keep.app _ _ _
  have hI1 : IsBox X (x.enc q0 q1 q2 q3 q4) x fp := hI.keep kX (by simp)
  have val : ∀ (HX : Heap) (y : Box), BoxTo X HX H.length fp y → ∃ l', blkAt HX H.length = some ⟨44, .wr, [l']⟩ ∧ l'.length = 10 ∧ l'.take 10 = l' ∧ BoxVal H (HX.set (H.length + 2) (some ⟨44, .wr, [l']⟩)) fp l' y ∧ Keep (H.length :: fp) X HX := by
    intro HX y h
    rw [hX] at h ⊢
    exact h.val hlt (by omega) (by simp)
  have off : ∀ k : Nat, 0 < k → H.length + k ∉ H.length :: fp := fun k hk h => by
    rcases List.mem_cons.1 h with h | h
    · omega
    · have := hlt _ h; omega
  have done : ∀ (HX : Heap) (y : Box) (c : Int) (_ : R = (y, c)) (_ : BoxTo X HX H.length fp y), ∃ l', blkAt HX H.length = some ⟨44, .wr, [l']⟩ ∧ l'.length = 10 ∧ l'.take 10 = l' ∧ H.length < HX.length ∧ H.length + 2 < HX.length ∧ blkAt HX (H.length + 2) = some ⟨44, .wr, [[.i .i64 0, .i .i64 0, .i .i64 0, .i .i64 0, .i .i64 0, .sl none 0, .sl none 0, .sl none 0, .sl none 0, .sl none 0]]⟩ ∧ ∀ tm : Ab.T, tm 5 = .int c → tm 4 = .ptr (H.length + 2) 0 0 → Q .ret tm (HX.set (H.length + 2) (some ⟨44, .wr, [l']⟩)) := by
    intro HX y c h1 h
    obtain ⟨l', v1, v2, v3, v4, v5⟩ := val HX y h
    have hz := v5.blk bz (off _ (by omega))
    have hzl := blkAt_len hz
    exact ⟨l', v1, v2, v3, blkAt_len v1, hzl, hz, fun tm t5 t4 => fin _ tm c y l' h1 v4 t5 t4 (blkAt_set hzl)⟩
  have doneL : ∀ (HX : Heap) (y : Box) (c : Int) (L : List Lf) (_ : R = (y, c)) (_ : blkAt HX H.length = some ⟨44, .wr, [L]⟩) (_ : BoxTo X HX H.length fp y), H.length < HX.length ∧ H.length + 2 < HX.length ∧ blkAt HX (H.length + 2) = some ⟨44, .wr, [[.i .i64 0, .i .i64 0, .i .i64 0, .i .i64 0, .i .i64 0, .sl none 0, .sl none 0, .sl none 0, .sl none 0, .sl none 0]]⟩ ∧ ∀ tm : Ab.T, tm 5 = .int c → tm 4 = .ptr (H.length + 2) 0 0 → Q .ret tm (HX.set (H.length + 2) (some ⟨44, .wr, [L]⟩)) := by
    intro HX y c L h1 hb h
    obtain ⟨l', w1, w2, w3, w4, w5, w6, w7⟩ := done HX y c h1 h
    rw [hb] at w1
    injection w1 with w1
    simp only [Blk.mk.injEq, List.cons.injEq, and_true, true_and] at w1
    subst w1
    exact ⟨w4, w5, w6, w7⟩
  have same : ∀ (G : Heap) (c : Int) (_ : R = (x, c)) (tm : Ab.T), tm 5 = .int c → tm 4 = .ptr (H.length + 2) 0 0 → Q .ret tm ((X ++ G).set (H.length + 2) (some ⟨44, .wr, [[.i .i64 x.id, .i .i64 x.ports, .i .i64 x.reg.epoch, .i .i64 x.reg.owner, .i .i64 x.reg.pair, q0, q1, q2, q3, q4]]⟩)) := by
    intro G c h1 tm t5 t4
    obtain ⟨l', w1, -, -, -, -, -, w7⟩ := done (X ++ G) x c h1 (BoxTo.app b0 hI1 hid G)
    rw [blkAt_app b0] at w1
    injection w1 with w1
    simp only [Blk.mk.injEq, List.cons.injEq, and_true, true_and] at w1
    subst w1
    exact w7 tm t5 t4
  have same0 : ∀ (c : Int) (_ : R = (x, c)) (tm : Ab.T), tm 5 = .int c → tm 4 = .ptr (H.length + 2) 0 0 → Q .ret tm (X.set (H.length + 2) (some ⟨44, .wr, [[.i .i64 x.id, .i .i64 x.ports, .i .i64 x.reg.epoch, .i .i64 x.reg.owner, .i .i64 x.reg.pair, q0, q1, q2, q3, q4]]⟩)) := by
    intro c h1 tm t5 t4
    have := same [] c h1 tm t5 t4
    rwa [List.append_nil] at this
  have hI2 := hI1
  obtain ⟨p0, p1, p2, p3, p4, f0, f1, f2, f3, f4, hle, i0, ⟨a1, hp1, o1⟩, i2, ⟨a3, hp3, o3⟩, i4, rfl, hnd⟩ := hI2
  simp only [Box.enc, List.cons.injEq, and_true, true_and] at hle
  obtain ⟨rfl, rfl, rfl, rfl, rfl⟩ := hle
  subst hp1
  subst hp3
  have i3 : IsInS X (.sl a3 x.line.length) x.line f3 := ⟨a3, rfl, o3⟩
  obtain ⟨-, hline, hnet20, hlog60⟩ := Box.smallOf hxok
  have hwall : ∀ w ∈ x.net, w.ok = true := by
    simp only [Box.ok, Bool.and_eq_true, List.all_eq_true, decide_eq_true_eq] at hxok
    exact hxok.1.1.1.2
  have hws : IntKind.i64.wrap ((x.net.length : Int) - 1) = (x.net.length : Int) - 1 := wrap64 (by omega) (by omega)
  have b0A := fun G => blkAt_app b0 G
  have bzA := fun G => blkAt_app bz G
  have bDA := fun G => blkAt_app bD G
  simp [b0, d0, bD, dD, builtinV, pureB, lenV, l1In, hws]
  by_cases hin : 0 ≤ d.a ∧ d.a ≤ (x.net.length : Int) - 1
  · obtain ⟨i, hi⟩ : ∃ i : Nat, d.a = (i : Int) := ⟨d.a.toNat, by omega⟩
    have hil : i < x.net.length := by omega
    have hi20 : (i : Int) < x.net.length := by omega
    have hwr : IntKind.i64.wrap ((i : Int) + 1) = (i : Int) + 1 := wrap64 (by omega) (by omega)
    have hle : (i : Int) ≤ (x.net.length : Int) - 1 := by omega
    have hD : R = if d.kind = 5 then sendD x x.net[i] else if d.kind = 4 then (setNet x (x.net.eraseIdx i), 0) else (heardD (setNet x (x.net.eraseIdx i)) x.net[i], 0) := by
      rw [hR, onWireD, if_neg (by omega), hi, Int.toNat_natCast]
      simp [List.getD, List.getElem?_eq_getElem hil]
    obtain ⟨id3, bl3, rfl, hf1, hb3, hbe3, hbm3, hpre3⟩ := o1.blk (by intro h; have := congrArg List.length h; simp at this; rw [this] at hil; simp at hil)
    have hrow3 : bl3.rows[i]? = some x.net[i].enc := by
      obtain ⟨t, ht⟩ := hpre3
      rw [← ht, List.getElem?_append_left (by simp; omega), List.getElem?_map, List.getElem?_eq_getElem hil]; rfl
    have hid3 := blkAt_len hb3
    obtain ⟨w, hw⟩ : ∃ w, w = x.net[i] := ⟨_, rfl⟩
    rw [← hw] at hrow3 hD
    have hwok := hwall w (by rw [hw]; exact List.getElem_mem hil)
    have hfrm : 0 ≤ w.frm ∧ w.frm ≤ 1 := by simp [Wire.ok] at hwok; omega
    simp only [Wire.enc] at hrow3
    have g1 : H.length < X.length + 1 := by omega
    have g2 : H.length + 1 < X.length + 1 := by omega
    have g3 : H.length + 2 < X.length + 1 := by omega
    have g4 : id3 < X.length + 1 := by omega
    have hb3A := fun G => blkAt_app hb3 G
    simp [hi, hle, b0, d0, bD, dD, indexAddrV, elemIs, hb3, hid3, hbe3, hrow3, hil, hi20, b0A, bDA, bzA, g1, g2, g3, Wire.enc]
    by_cases h5 : d.kind = 5
    · rw [if_pos h5] at hD
      simp [h5, b0A, g1, bzA, g3, builtinV, pureB, lenV]
      refine selS_intro (fun hc2 => ?_) (fun hc2 => ?_)
      · simp at hc2
        rw [sendD, if_pos (by omega)] at hD
        simp [b0A, g1, bzA, g3]
        exact same _ 4 hD _ (by simp) (by simp)
      simp at hc2
      rw [sendD, if_neg (by omega)] at hD
      simp [b0A, g1, bzA, g3]
      refine stpL_append (e := 113) (rows := x.net.map Wire.enc) (ys := [w.enc]) (o1.app _) (Sl.of (by simp [Wire.enc])) rfl rfl rfl (by simp) (by simp; omega) (by simp) rfl fun a'' H'' fp'' ho'' hk'' hf'' => ?_
      have k1 : Keep f1 X H'' := hk''.base
      have b2 := k1.blk b0 (fun h => hid (by simp [h]))
      have d2 := blkAt_len b2
      have hf9 : ∀ i ∈ fp'', i ∈ f1 ∨ X.length ≤ i := fun i hi => (hf'' i hi).imp (fun h => h) (fun h => by rw [List.length_append] at h; omega)
      have hq : IsWireS H'' (.sl a'' (x.net.length + 1)) (x.net ++ [w]) fp'' := ⟨a'', by simp, by simpa using ho''⟩
      have hbn := boxNet (x := x) d0 hid i0 i2 i3 i4 hnd k1 hq hf9
      obtain ⟨l', w1, w2, w3, w4, w5, w6, w7⟩ := done _ _ 0 hD hbn
      simp only [Box.enc] at w1 w4 w5 w6 w7
      simp [b2, d2, w1, w2, w3, w4, w5, w6]
      exact w7 _ (by simp) (by simp)
    · rw [if_neg h5] at hD
      have j1 : id3 < X.length + 2 := by omega
      have j2 : H.length < X.length + 2 := by omega
      have j3 : H.length + 1 < X.length + 2 := by omega
      have hiL : (i : Int) ≤ x.net.length := by omega
      have hiL1 : (i : Int) + 1 ≤ x.net.length := by omega
      have hi1 : (0 : Int) ≤ (i : Int) + 1 := by omega
      have hiN : ((i : Int) + 1).toNat = i + 1 := by omega
      simp [h5, hi, b0A, g1, bDA, g2, sliceV, bnd, elemIs, hb3A, hbe3, j1, j2, j3, hiL]
      have kA : ∀ G, Keep [] X (X ++ G) := fun G => Keep.app [] X G
      refine stpL_append (e := 113) (rows := []) (ys := (x.net.take i).map Wire.enc) (Own.of (by simp)) (by rw [List.map_take]; exact sl_take (o1.app _).sl i) rfl rfl rfl (by simp) (by simp; omega) rfl (by simp; omega) fun aA HA fA oA kkA ffA => ?_
      rw [List.nil_append] at oA
      have kA1 : Keep [X.length + 1] (X ++ [some ⟨113, .wr, [w.enc]⟩, some ⟨113, .wr, []⟩]) HA := kkA
      have hBA : blkAt HA H.length = _ := kkA.blk (b0A _) (by simp; omega)
      have hDA : blkAt HA (H.length + 1) = _ := kkA.blk (bDA _) (by simp; omega)
      have hnA : blkAt HA id3 = _ := kkA.blk (hb3A _) (by simp; omega)
      have dBA := blkAt_len hBA
      have dDA := blkAt_len hDA
      have dnA := blkAt_len hnA
      simp [hBA, hDA, dBA, dDA, hi, hwr, sliceV, bnd, elemIs, hnA, dnA, hbe3, hi1, hiL1, hiN]
      have kXA : Keep [] X HA := (kA _).next kkA (by simp)
      have oXA := o1.keep kXA (by simp)
      have hsd : Sl HA 113 (some (id3, i + 1)) ((x.net.drop (i + 1)).map Wire.enc) := by
        have := sl_drop oXA.sl (i + 1)
        rwa [Nat.zero_add, ← List.map_drop] at this
      refine stpL_append (e := 113) (rows := (x.net.take i).map Wire.enc) (ys := (x.net.drop (i + 1)).map Wire.enc) oA hsd rfl rfl rfl (by simp) (by simp; omega) (by simp; omega) (by simp) fun aB HB fB oB kkB ffB => ?_
      have hfA : ∀ j ∈ fA, X.length + 1 ≤ j := fun j hj => by
        rcases ffA j hj with h | h
        · simp at h; omega
        · simp at h; omega
      have kXB : Keep [] X HB := kXA.next kkB (fun j hj => by have := hfA j hj; omega)
      have hBB := kkB.blk hBA (fun h => by have := hfA _ h; omega)
      have hWB : blkAt HB X.length = some ⟨113, .wr, [w.enc]⟩ := kkB.blk (kkA.blk (by simp [Wire.enc]) (by simp)) (fun h => by have := hfA _ h; omega)
      have hDB := kkB.blk hDA (fun h => by have := hfA _ h; omega)
      have dBB := blkAt_len hBB
      have dDB := blkAt_len hDB
      have dWB := blkAt_len hWB
      have hfB : ∀ j ∈ fB, j ∈ f1 ∨ X.length ≤ j := fun j hj => .inr (by
        rcases ffB j hj with h | h
        · have := hfA j h; omega
        · have := kXA.1; omega)
      have hq : IsWireS HB (.sl aB (i + (x.net.length - (i + 1)))) (x.net.eraseIdx i) fB := ⟨aB, by rw [List.length_eraseIdx_of_lt hil]; congr 1; omega, by rw [List.eraseIdx_eq_take_drop_succ, List.map_append]; exact oB⟩
      have hbn := boxNet (x := x) d0 hid i0 i2 i3 i4 hnd (kXB.more (by simp)) hq hfB
      simp only [Box.enc] at hbn
      simp [hBB, dBB]
      obtain ⟨Y, hY⟩ : ∃ Y : Heap, Y = HB.set H.length (some ⟨44, .wr, [[.i .i64 x.id, .i .i64 x.ports, .i .i64 x.reg.epoch, .i .i64 x.reg.owner, .i .i64 x.reg.pair, q0, (.sl aB (i + (x.net.length - (i + 1)))), q2, (.sl a3 x.line.length), q4]]⟩) := ⟨_, rfl⟩
      have yD := (show blkAt Y (H.length + 1) = blkAt HB (H.length + 1) by rw [hY]; exact blkAt_set_ne (by omega)).trans hDB
      have yW := (show blkAt Y X.length = blkAt HB X.length by rw [hY]; exact blkAt_set_ne (by omega)).trans hWB
      rw [← hY] at hbn ⊢
      have m1 := blkAt_len yD
      have m2 := blkAt_len yW
      clear hY
      obtain ⟨lY, gY, v1, v2, v3, v4, v5⟩ := hbn
      have hLY := v2.len
      have hTY : lY.take lY.length = lY := List.take_length
      rw [hLY] at hTY
      have m3 := blkAt_len v1
      by_cases h4 : d.kind = 4
      · rw [if_pos h4] at hD
        obtain ⟨l', w1, w2, w3, w4, w5, w6, w7⟩ := done _ _ 0 hD ⟨lY, gY, v1, v2, v3, v4, v5⟩
        simp [yD, m1, h4, w1, w2, w3, w4, w5, w6]
        exact w7 _ (by simp) (by simp)
      · rw [if_neg h4] at hD
        have h3 : d.kind = 3 := by omega
        simp only [Wire.enc] at yW
        have hh := l15Heard v2 (hok.setNet (by have := List.length_eraseIdx_le x.net i; omega)) (by exact hlog60) w hfrm
        simp only [Wire.enc] at hh
        simp [yD, m1, h3, v1, m3, hLY, hTY, yW, m2]
        refine stpL_runs hh ?_
        rintro _ HZ ⟨l2, rfl, bv⟩
        have hL2 := bv.len
        have hT2 : l2.take l2.length = l2 := List.take_length
        rw [hL2] at hT2
        have bt := BoxTo.trans v4 v5 (bv.to v3 m3)
        have kz : Keep gY Y HZ := by obtain ⟨_, _, kz, _⟩ := bv; exact kz
        have b0Z := kz.blk v1 v3
        have dZ := blkAt_len b0Z
        obtain ⟨l', w1, w2, w3, w4, w5, w6, w7⟩ := done _ _ 0 hD bt
        have hDY : lY.drop 10 = [] := by rw [← hLY]; exact List.drop_length
        simp [b0Z, dZ, hLY, hTY, hDY, hL2, hT2, w1, w2, w3, w4, w5, w6]
        exact w7 _ (by simp) (by simp)
  · have hf : (!decide (0 ≤ d.a) || !decide (d.a ≤ (x.net.length : Int) - 1)) = true := by
      rcases Int.lt_or_le d.a 0 with h | h
      · simp [show ¬ 0 ≤ d.a by omega]
      · simp [show ¬ d.a ≤ (x.net.length : Int) - 1 by omega]
    rw [hf]
    simp [b0, d0, bz, dz]
    exact same0 2 (by rw [hR, onWireD, if_pos (by omega)]) _ (by simp) (by simp)

theorem l15Fall {H : Heap} {l : List Lf} {x : Box} {fp : List Nat} (hI : IsBox H l x fp) (hok : Small x) (hxok : x.ok = true) (d : Deed) {s : Nat} (hs2 : s < 2) (hda : d.a = (s : Int)) (hk : d.kind = 7 ∨ d.kind = 8 ∨ d.kind = 12) :
    Runs env 69 [.agg l, .agg d.enc] H fun v H' => ∃ l', v = .tup [.agg l', .lf (.i .i64 (onMinderD x d).2)] ∧ BoxVal H H' fp l' (onMinderD x d).1 := by
  have hsz := hok.sz
  have h2 := hok.two
  have hlt := hI.lt
  have hid : H.length ∉ fp := fun h => by have := hlt _ h; omega
  obtain ⟨q0, q1, q2, q3, q4, rfl⟩ : ∃ q0 q1 q2 q3 q4, l = x.enc q0 q1 q2 q3 q4 := by
    obtain ⟨q0, q1, q2, q3, q4, _, _, _, _, _, rfl, -⟩ := hI
    exact ⟨q0, q1, q2, q3, q4, rfl⟩
  obtain ⟨R, hR⟩ : ∃ R, R = onMinderD x d := ⟨_, rfl⟩
  rw [← hR]
  refine Runs.walk ok69 Tryz.func69 rfl (by simp [Tryz.f69]) fun Q hQ => ?_
  simp only [Tryz.f69, strip, stripL, stripI, stripG, chkT, tagsB, tagsL, tagD, addT, tagA, lookN, tagOp, elmT, ty24, ty25, ty26, ty27, ty28, ty39, ty40, ty41, ty42, ty57, ty59, ty62, ty98, Nat.reduceEqDiff, if_false, reduceIte, Option.getD_some, Option.getD_none, dstAt, dstOk, Nat.reduceLT, decide_true, if_true]
  have fin : ∀ (HX : Heap) (tm : Ab.T) (c : Int) (y : Box) (l' : List Lf), R = (y, c) → BoxVal H HX fp l' y → tm 5 = .int c → tm 4 = .ptr (H.length + 2) 0 0 → blkAt HX (H.length + 2) = some ⟨44, .wr, [l']⟩ → Q .ret tm HX := by
    intro HX tm c y l' h1 hv t5 t4 hb4
    have hL' := hv.len
    have hT' : l'.take l'.length = l' := List.take_length
    rw [hL'] at hT'
    refine hQ _ _ _ (by simp) ?_
    have hres : resT env.τ tm HX (Tryz.f69.results.toList) = some [W.agg l', W.lf (.i .i64 c)] := by simp [Tryz.f69, t4, t5, hb4, hL', hT']
    rw [hres, optK_some, h1]
    exact ⟨_, rfl, hv.leave (by simp)⟩
  simp [Box.enc, Deed.enc, Wire.enc]
  obtain ⟨X, hX⟩ : ∃ X : Heap, X = H ++ [some ⟨44, .wr, [[.i .i64 x.id, .i .i64 x.ports, .i .i64 x.reg.epoch, .i .i64 x.reg.owner, .i .i64 x.reg.pair, q0, q1, q2, q3, q4]]⟩, some ⟨52, .wr, [[.i .i64 d.kind, .i .i64 d.a, .i .i64 d.inn.kind, .i .i64 d.inn.port, .i .i64 d.inn.vec.root, .i .i64 d.inn.vec.cost, .i .i64 d.inn.vec.bridge, .i .i64 d.inn.vec.port, .i .i64 d.inn.hops, .b d.inn.up]]⟩, some ⟨44, .wr, [[.i .i64 0, .i .i64 0, .i .i64 0, .i .i64 0, .i .i64 0, .sl none 0, .sl none 0, .sl none 0, .sl none 0, .sl none 0]]⟩] := ⟨_, rfl⟩
  have b0 : blkAt X H.length = some ⟨44, .wr, [[.i .i64 x.id, .i .i64 x.ports, .i .i64 x.reg.epoch, .i .i64 x.reg.owner, .i .i64 x.reg.pair, q0, q1, q2, q3, q4]]⟩ := by rw [hX]; simp
  have d0 := blkAt_len b0
  have bz : blkAt X (H.length + 2) = some ⟨44, .wr, [[.i .i64 0, .i .i64 0, .i .i64 0, .i .i64 0, .i .i64 0, .sl none 0, .sl none 0, .sl none 0, .sl none 0, .sl none 0]]⟩ := by rw [hX]; simp
  have dz := blkAt_len bz
  have bD : blkAt X (H.length + 1) = some ⟨52, .wr, [[.i .i64 d.kind, .i .i64 d.a, .i .i64 d.inn.kind, .i .i64 d.inn.port, .i .i64 d.inn.vec.root, .i .i64 d.inn.vec.cost, .i .i64 d.inn.vec.bridge, .i .i64 d.inn.vec.port, .i .i64 d.inn.hops, .b d.inn.up]]⟩ := by rw [hX]; simp
  have dD := blkAt_len bD
  rw [← hX]
  have kX : Keep [] H X := by rw [hX]; exact Keep.app _ _ _
  have hI1 : IsBox X (x.enc q0 q1 q2 q3 q4) x fp := hI.keep kX (by simp)
  have val : ∀ (HX : Heap) (y : Box), BoxTo X HX H.length fp y → ∃ l', blkAt HX H.length = some ⟨44, .wr, [l']⟩ ∧ l'.length = 10 ∧ l'.take 10 = l' ∧ BoxVal H (HX.set (H.length + 2) (some ⟨44, .wr, [l']⟩)) fp l' y ∧ Keep (H.length :: fp) X HX := by
    intro HX y h
    rw [hX] at h ⊢
    exact h.val hlt (by omega) (by simp)
  have off : ∀ k : Nat, 0 < k → H.length + k ∉ H.length :: fp := fun k hk h => by
    rcases List.mem_cons.1 h with h | h
    · omega
    · have := hlt _ h; omega
  have done : ∀ (HX : Heap) (y : Box) (c : Int) (_ : R = (y, c)) (_ : BoxTo X HX H.length fp y), ∃ l', blkAt HX H.length = some ⟨44, .wr, [l']⟩ ∧ l'.length = 10 ∧ l'.take 10 = l' ∧ H.length < HX.length ∧ H.length + 2 < HX.length ∧ blkAt HX (H.length + 2) = some ⟨44, .wr, [[.i .i64 0, .i .i64 0, .i .i64 0, .i .i64 0, .i .i64 0, .sl none 0, .sl none 0, .sl none 0, .sl none 0, .sl none 0]]⟩ ∧ ∀ tm : Ab.T, tm 5 = .int c → tm 4 = .ptr (H.length + 2) 0 0 → Q .ret tm (HX.set (H.length + 2) (some ⟨44, .wr, [l']⟩)) := by
    intro HX y c h1 h
    obtain ⟨l', v1, v2, v3, v4, v5⟩ := val HX y h
    have hz := v5.blk bz (off _ (by omega))
    have hzl := blkAt_len hz
    exact ⟨l', v1, v2, v3, blkAt_len v1, hzl, hz, fun tm t5 t4 => fin _ tm c y l' h1 v4 t5 t4 (blkAt_set hzl)⟩
  have doneL : ∀ (HX : Heap) (y : Box) (c : Int) (L : List Lf) (_ : R = (y, c)) (_ : blkAt HX H.length = some ⟨44, .wr, [L]⟩) (_ : BoxTo X HX H.length fp y), H.length < HX.length ∧ H.length + 2 < HX.length ∧ blkAt HX (H.length + 2) = some ⟨44, .wr, [[.i .i64 0, .i .i64 0, .i .i64 0, .i .i64 0, .i .i64 0, .sl none 0, .sl none 0, .sl none 0, .sl none 0, .sl none 0]]⟩ ∧ ∀ tm : Ab.T, tm 5 = .int c → tm 4 = .ptr (H.length + 2) 0 0 → Q .ret tm (HX.set (H.length + 2) (some ⟨44, .wr, [L]⟩)) := by
    intro HX y c L h1 hb h
    obtain ⟨l', w1, w2, w3, w4, w5, w6, w7⟩ := done HX y c h1 h
    rw [hb] at w1
    injection w1 with w1
    simp only [Blk.mk.injEq, List.cons.injEq, and_true, true_and] at w1
    subst w1
    exact ⟨w4, w5, w6, w7⟩
  have same : ∀ (G : Heap) (c : Int) (_ : R = (x, c)) (tm : Ab.T), tm 5 = .int c → tm 4 = .ptr (H.length + 2) 0 0 → Q .ret tm ((X ++ G).set (H.length + 2) (some ⟨44, .wr, [[.i .i64 x.id, .i .i64 x.ports, .i .i64 x.reg.epoch, .i .i64 x.reg.owner, .i .i64 x.reg.pair, q0, q1, q2, q3, q4]]⟩)) := by
    intro G c h1 tm t5 t4
    obtain ⟨l', w1, -, -, -, -, -, w7⟩ := done (X ++ G) x c h1 (BoxTo.app b0 hI1 hid G)
    rw [blkAt_app b0] at w1
    injection w1 with w1
    simp only [Blk.mk.injEq, List.cons.injEq, and_true, true_and] at w1
    subst w1
    exact w7 tm t5 t4
  have same0 : ∀ (c : Int) (_ : R = (x, c)) (tm : Ab.T), tm 5 = .int c → tm 4 = .ptr (H.length + 2) 0 0 → Q .ret tm (X.set (H.length + 2) (some ⟨44, .wr, [[.i .i64 x.id, .i .i64 x.ports, .i .i64 x.reg.epoch, .i .i64 x.reg.owner, .i .i64 x.reg.pair, q0, q1, q2, q3, q4]]⟩)) := by
    intro c h1 tm t5 t4
    have := same [] c h1 tm t5 t4
    rwa [List.append_nil] at this
  have hs : s < x.two.length := by omega
  obtain ⟨bid, blo, r1, r2, r3, r4, row, fs, hl, hbne, hbl, hbb, hbe, hbm, hrow, hrd, hbfs, hidfs, hput⟩ := boxTwoOwn b0 hI1 hid hs
  simp only [Box.enc, List.cons.injEq, and_true, true_and] at hl
  obtain ⟨rfl, rfl, rfl, rfl, rfl⟩ := hl
  have hbH : bid < H.length := by
    have h1 := hI.rd
    obtain ⟨_, _, _, _, _, e1, ⟨a0, rws, e2, hss, hll, _⟩, -⟩ := h1
    simp only [Box.enc, List.cons.injEq, and_true, true_and] at e1
    obtain ⟨e1, -⟩ := e1
    rw [e2] at e1
    injection e1 with e1
    rw [← e1] at hss
    exact hss.len (by rintro rfl; simp at hll; omega)
  have b0s := b0
  rw [h2] at b0 same same0
  obtain ⟨m, hm⟩ : ∃ m, m = x.two[s] := ⟨_, rfl⟩
  rw [← hm] at hrd
  have hmx : m ∈ x.two := by rw [hm]; exact List.getElem_mem hs
  have hmlog := hok.log m hmx
  have hmsz : m.sz ≤ 1048576 := by unfold Minder.sz; omega
  have hmA : mAt x (s : Int) = m := by simp [mAt, List.getD, List.getElem?_eq_getElem hs, hm]
  have hrdR := hrd.rd
  obtain ⟨a, rfl, oa⟩ := hrd
  have hrow' := hrow
  simp only [Minder.enc] at hrow
  have hs0 : (0 : Int) ≤ s := by omega
  have hsl2 : (s : Int) < 2 := by omega
  have hrl : s < blo.rows.length := (List.getElem?_eq_some_iff.1 hrow).1
  have hse : ∀ (Y : Heap) (y : Option Blk) (k : Nat), blkAt (List.set Y bid y) (H.length + k) = blkAt Y (H.length + k) := fun Y y k => blkAt_set_ne (by omega)
  have hse0 : ∀ (Y : Heap) (y : Option Blk), blkAt (List.set Y bid y) H.length = blkAt Y H.length := fun Y y => blkAt_set_ne (by omega)
  have hmi : mindsAt x (s : Int) = minds x.reg s m := by
    rw [mindsAt_s h2 hs2]
    have := hmA
    simp only [mAt, Int.toNat_natCast] at this
    rw [this]
  have mok := (Box.right hxok).ok m hmx
  have b0A := fun G => blkAt_app b0 G
  have bzA := fun G => blkAt_app bz G
  have bDA := fun G => blkAt_app bD G
  have hbbA := fun G => blkAt_app hbb G
  have g1 : H.length < X.length + 1 := by omega
  have g2 : bid < X.length + 1 := by omega
  have g3 : H.length + 2 < X.length + 1 := by omega
  have g4 : H.length + 1 < X.length + 1 := by omega
  have put : ∀ (G : Heap) (l2 : List Lf) (m' : Minder), IsMinder (X ++ G) l2 m' [] → R = (setTwo x s m', 0) → ∀ tm : Ab.T, tm 5 = .int 0 → tm 4 = .ptr (H.length + 2) 0 0 → Q .ret tm (((X ++ G).set bid (some ⟨106, .wr, blo.rows.set s l2⟩)).set (H.length + 2) (some ⟨44, .wr, [[.i .i64 x.id, .i .i64 x.ports, .i .i64 x.reg.epoch, .i .i64 x.reg.owner, .i .i64 x.reg.pair, (.sl (some (bid, 0)) 2), q1, q2, q3, q4]]⟩)) := by
    intro G l2 m' hm' hr
    obtain ⟨g2', y1, y2, y3, y4, y5⟩ := hput (X ++ G) l2 m' [] (Keep.app [] X G) hm' (by simp)
    have y1' := y1
    simp only [Box.enc, h2] at y1'
    exact (doneL _ _ 0 _ hr y1' ⟨_, g2', y1, y2, y3, y4, y5⟩).2.2.2
  simp [b0, d0, bD, dD, hda, indexAddrV, elemIs, hbb, hbl, hbe, hs2, hs0, hsl2, hrow, h2, b0A, bzA, bDA, hbbA, g1, g2, g3, g4]
  have hD := onMinderD.eq_1 x d
  simp only [hda, hmA, Int.toNat_natCast] at hD
  rw [if_neg (by omega), if_neg (by omega), if_neg (by omega), if_neg (by omega)] at hD
  rw [← hR] at hD
  have hrise := fun G => l15Rise (hI1.app G).rd hxok
  simp only [Box.enc, h2] at hrise
  have e1 := fun G => l14Minds (hI1.app G).rd (by omega) (s : Int)
  rw [hmi] at e1
  simp only [Box.enc, h2] at e1
  rcases hk with hk | hk | hk
  · rw [if_neg (by omega)] at hD
    cases hup : m.up
    · rw [if_pos hup] at hD
      simp [hk, b0A, g1, bzA, g3, bDA, g4]
      exact same _ 3 hD _ (by simp) (by simp)
    · rw [if_neg (by simp [hup]), if_neg (by omega)] at hD
      simp [hk, hup, hda, b0A, g1, bzA, g3, bDA, g4, indexAddrV, elemIs, hbbA, g2, hbe, hbm, hs2, hs0, hsl2, hrow, h2]
      simp [hse0, hse, b0A, g1, bzA, g3]
      exact put _ _ ⟨false, m.life, 0, [], 0, 0, 0⟩ ⟨none, rfl, Own.nil _ _⟩ hD _ (by simp) (by simp)
  · rw [if_pos hk] at hD
    cases hup : m.up
    · rw [if_neg (by simp [hup])] at hD
      simp [hk, hup, hda, b0A, g1, bzA, g3, bDA, g4, hrise, indexAddrV, elemIs, hbbA, g2, hbe, hbm, hs2, hs0, hsl2, hrow, h2]
      simp [hse0, hse, b0A, g1, bzA, g3]
      exact put _ _ (newLife x) ⟨none, rfl, Own.nil _ _⟩ hD _ (by simp) (by simp)
    · rw [if_pos hup] at hD
      simp [hk, b0A, g1, bzA, g3, bDA, g4]
      exact same _ 3 hD _ (by simp) (by simp)
  · rw [if_neg (by omega)] at hD
    cases hup : m.up
    · rw [if_pos hup] at hD
      simp [hk, b0A, g1, bzA, g3, bDA, g4]
      exact same _ 3 hD _ (by simp) (by simp)
    · rw [if_neg (by simp [hup]), if_pos hk] at hD
      by_cases hno : m.epoch = 0 ∨ minds x.reg s m = true
      · rw [if_pos hno] at hD
        by_cases he : 0 < m.epoch
        · have hmi := hno.resolve_left (by omega)
          simp [hk, hup, he, hda, b0A, g1, bzA, g3, bDA, g4, e1, hmi]
          exact same _ 3 hD _ (by simp) (by simp)
        · simp [hk, hup, he, b0A, g1, bzA, g3, bDA, g4]
          exact same _ 3 hD _ (by simp) (by simp)
      · rw [if_neg hno] at hD
        have he : 0 < m.epoch := by simp [Minder.ok] at mok; omega
        have hmi : minds x.reg s m = false := by cases h : minds x.reg s m; rfl; exact absurd (.inr h) hno
        simp [hk, hup, he, hda, b0A, g1, bzA, g3, bDA, g4, e1, hmi, hrise, indexAddrV, elemIs, hbbA, g2, hbe, hbm, hs2, hs0, hsl2, hrow, h2]
        simp [hse0, hse, b0A, g1, bzA, g3]
        exact put _ _ (newLife x) ⟨none, rfl, Own.nil _ _⟩ hD _ (by simp) (by simp)

theorem l15Reg {H : Heap} {l : List Lf} {x : Box} {fp : List Nat} (hI : IsBox H l x fp) (hok : Small x) (hxok : x.ok = true) (d : Deed) {s : Nat} (hs2 : s < 2) (hda : d.a = (s : Int)) (hk : d.kind = 9 ∨ d.kind = 10 ∨ d.kind = 11) :
    Runs env 70 [.agg l, .agg d.enc] H fun v H' => ∃ l', v = .tup [.agg l', .lf (.i .i64 (onMinderD x d).2)] ∧ BoxVal H H' fp l' (onMinderD x d).1 := by
  have hsz := hok.sz
  have h2 := hok.two
  have hlt := hI.lt
  have hid : H.length ∉ fp := fun h => by have := hlt _ h; omega
  obtain ⟨q0, q1, q2, q3, q4, rfl⟩ : ∃ q0 q1 q2 q3 q4, l = x.enc q0 q1 q2 q3 q4 := by
    obtain ⟨q0, q1, q2, q3, q4, _, _, _, _, _, rfl, -⟩ := hI
    exact ⟨q0, q1, q2, q3, q4, rfl⟩
  obtain ⟨R, hR⟩ : ∃ R, R = onMinderD x d := ⟨_, rfl⟩
  rw [← hR]
  refine Runs.walk ok70 Tryz.func70 rfl (by simp [Tryz.f70]) fun Q hQ => ?_
  simp only [Tryz.f70, strip, stripL, stripI, stripG, chkT, tagsB, tagsL, tagD, addT, tagA, lookN, tagOp, elmT, ty24, ty25, ty26, ty27, ty28, ty39, ty40, ty41, ty42, ty57, ty59, ty62, ty98, Nat.reduceEqDiff, if_false, reduceIte, Option.getD_some, Option.getD_none, dstAt, dstOk, Nat.reduceLT, decide_true, if_true]
  have fin : ∀ (HX : Heap) (tm : Ab.T) (c : Int) (y : Box) (l' : List Lf), R = (y, c) → BoxVal H HX fp l' y → tm 5 = .int c → tm 4 = .ptr (H.length + 2) 0 0 → blkAt HX (H.length + 2) = some ⟨44, .wr, [l']⟩ → Q .ret tm HX := by
    intro HX tm c y l' h1 hv t5 t4 hb4
    have hL' := hv.len
    have hT' : l'.take l'.length = l' := List.take_length
    rw [hL'] at hT'
    refine hQ _ _ _ (by simp) ?_
    have hres : resT env.τ tm HX (Tryz.f70.results.toList) = some [W.agg l', W.lf (.i .i64 c)] := by simp [Tryz.f70, t4, t5, hb4, hL', hT']
    rw [hres, optK_some, h1]
    exact ⟨_, rfl, hv.leave (by simp)⟩
  simp [Box.enc, Deed.enc, Wire.enc]
  obtain ⟨X, hX⟩ : ∃ X : Heap, X = H ++ [some ⟨44, .wr, [[.i .i64 x.id, .i .i64 x.ports, .i .i64 x.reg.epoch, .i .i64 x.reg.owner, .i .i64 x.reg.pair, q0, q1, q2, q3, q4]]⟩, some ⟨52, .wr, [[.i .i64 d.kind, .i .i64 d.a, .i .i64 d.inn.kind, .i .i64 d.inn.port, .i .i64 d.inn.vec.root, .i .i64 d.inn.vec.cost, .i .i64 d.inn.vec.bridge, .i .i64 d.inn.vec.port, .i .i64 d.inn.hops, .b d.inn.up]]⟩, some ⟨44, .wr, [[.i .i64 0, .i .i64 0, .i .i64 0, .i .i64 0, .i .i64 0, .sl none 0, .sl none 0, .sl none 0, .sl none 0, .sl none 0]]⟩] := ⟨_, rfl⟩
  have b0 : blkAt X H.length = some ⟨44, .wr, [[.i .i64 x.id, .i .i64 x.ports, .i .i64 x.reg.epoch, .i .i64 x.reg.owner, .i .i64 x.reg.pair, q0, q1, q2, q3, q4]]⟩ := by rw [hX]; simp
  have d0 := blkAt_len b0
  have bz : blkAt X (H.length + 2) = some ⟨44, .wr, [[.i .i64 0, .i .i64 0, .i .i64 0, .i .i64 0, .i .i64 0, .sl none 0, .sl none 0, .sl none 0, .sl none 0, .sl none 0]]⟩ := by rw [hX]; simp
  have dz := blkAt_len bz
  have bD : blkAt X (H.length + 1) = some ⟨52, .wr, [[.i .i64 d.kind, .i .i64 d.a, .i .i64 d.inn.kind, .i .i64 d.inn.port, .i .i64 d.inn.vec.root, .i .i64 d.inn.vec.cost, .i .i64 d.inn.vec.bridge, .i .i64 d.inn.vec.port, .i .i64 d.inn.hops, .b d.inn.up]]⟩ := by rw [hX]; simp
  have dD := blkAt_len bD
  rw [← hX]
  have kX : Keep [] H X := by rw [hX]; exact Keep.app _ _ _
  have hI1 : IsBox X (x.enc q0 q1 q2 q3 q4) x fp := hI.keep kX (by simp)
  have val : ∀ (HX : Heap) (y : Box), BoxTo X HX H.length fp y → ∃ l', blkAt HX H.length = some ⟨44, .wr, [l']⟩ ∧ l'.length = 10 ∧ l'.take 10 = l' ∧ BoxVal H (HX.set (H.length + 2) (some ⟨44, .wr, [l']⟩)) fp l' y ∧ Keep (H.length :: fp) X HX := by
    intro HX y h
    rw [hX] at h ⊢
    exact h.val hlt (by omega) (by simp)
  have off : ∀ k : Nat, 0 < k → H.length + k ∉ H.length :: fp := fun k hk h => by
    rcases List.mem_cons.1 h with h | h
    · omega
    · have := hlt _ h; omega
  have done : ∀ (HX : Heap) (y : Box) (c : Int) (_ : R = (y, c)) (_ : BoxTo X HX H.length fp y), ∃ l', blkAt HX H.length = some ⟨44, .wr, [l']⟩ ∧ l'.length = 10 ∧ l'.take 10 = l' ∧ H.length < HX.length ∧ H.length + 2 < HX.length ∧ blkAt HX (H.length + 2) = some ⟨44, .wr, [[.i .i64 0, .i .i64 0, .i .i64 0, .i .i64 0, .i .i64 0, .sl none 0, .sl none 0, .sl none 0, .sl none 0, .sl none 0]]⟩ ∧ ∀ tm : Ab.T, tm 5 = .int c → tm 4 = .ptr (H.length + 2) 0 0 → Q .ret tm (HX.set (H.length + 2) (some ⟨44, .wr, [l']⟩)) := by
    intro HX y c h1 h
    obtain ⟨l', v1, v2, v3, v4, v5⟩ := val HX y h
    have hz := v5.blk bz (off _ (by omega))
    have hzl := blkAt_len hz
    exact ⟨l', v1, v2, v3, blkAt_len v1, hzl, hz, fun tm t5 t4 => fin _ tm c y l' h1 v4 t5 t4 (blkAt_set hzl)⟩
  have doneL : ∀ (HX : Heap) (y : Box) (c : Int) (L : List Lf) (_ : R = (y, c)) (_ : blkAt HX H.length = some ⟨44, .wr, [L]⟩) (_ : BoxTo X HX H.length fp y), H.length < HX.length ∧ H.length + 2 < HX.length ∧ blkAt HX (H.length + 2) = some ⟨44, .wr, [[.i .i64 0, .i .i64 0, .i .i64 0, .i .i64 0, .i .i64 0, .sl none 0, .sl none 0, .sl none 0, .sl none 0, .sl none 0]]⟩ ∧ ∀ tm : Ab.T, tm 5 = .int c → tm 4 = .ptr (H.length + 2) 0 0 → Q .ret tm (HX.set (H.length + 2) (some ⟨44, .wr, [L]⟩)) := by
    intro HX y c L h1 hb h
    obtain ⟨l', w1, w2, w3, w4, w5, w6, w7⟩ := done HX y c h1 h
    rw [hb] at w1
    injection w1 with w1
    simp only [Blk.mk.injEq, List.cons.injEq, and_true, true_and] at w1
    subst w1
    exact ⟨w4, w5, w6, w7⟩
  have same : ∀ (G : Heap) (c : Int) (_ : R = (x, c)) (tm : Ab.T), tm 5 = .int c → tm 4 = .ptr (H.length + 2) 0 0 → Q .ret tm ((X ++ G).set (H.length + 2) (some ⟨44, .wr, [[.i .i64 x.id, .i .i64 x.ports, .i .i64 x.reg.epoch, .i .i64 x.reg.owner, .i .i64 x.reg.pair, q0, q1, q2, q3, q4]]⟩)) := by
    intro G c h1 tm t5 t4
    obtain ⟨l', w1, -, -, -, -, -, w7⟩ := done (X ++ G) x c h1 (BoxTo.app b0 hI1 hid G)
    rw [blkAt_app b0] at w1
    injection w1 with w1
    simp only [Blk.mk.injEq, List.cons.injEq, and_true, true_and] at w1
    subst w1
    exact w7 tm t5 t4
  have same0 : ∀ (c : Int) (_ : R = (x, c)) (tm : Ab.T), tm 5 = .int c → tm 4 = .ptr (H.length + 2) 0 0 → Q .ret tm (X.set (H.length + 2) (some ⟨44, .wr, [[.i .i64 x.id, .i .i64 x.ports, .i .i64 x.reg.epoch, .i .i64 x.reg.owner, .i .i64 x.reg.pair, q0, q1, q2, q3, q4]]⟩)) := by
    intro c h1 tm t5 t4
    have := same [] c h1 tm t5 t4
    rwa [List.append_nil] at this
  have hI2 := hI1
  obtain ⟨p0, p1, p2, p3, p4, f0, f1, f2, f3, f4, hle, i0, ⟨a1, hp1, o1⟩, i2, ⟨a3, hp3, o3⟩, i4, rfl, hnd⟩ := hI2
  simp only [Box.enc, List.cons.injEq, and_true, true_and] at hle
  obtain ⟨rfl, rfl, rfl, rfl, rfl⟩ := hle
  subst hp1
  subst hp3
  have i3 : IsInS X (.sl a3 x.line.length) x.line f3 := ⟨a3, rfl, o3⟩
  have hs : s < x.two.length := by omega
  obtain ⟨bid, blo, r1, r2, r3, r4, row, fs, hl, hbne, hbl, hbb, hbe, hbm, hrow, hrd, hbfs, hidfs, hput⟩ := boxTwoOwn b0 hI1 hid hs
  simp only [Box.enc, List.cons.injEq, and_true, true_and] at hl
  obtain ⟨rfl, rfl, rfl, rfl, rfl⟩ := hl
  have hbH : bid < H.length := by
    have h1 := hI.rd
    obtain ⟨_, _, _, _, _, e1, ⟨a0, rws, e2, hss, hll, _⟩, -⟩ := h1
    simp only [Box.enc, List.cons.injEq, and_true, true_and] at e1
    obtain ⟨e1, -⟩ := e1
    rw [e2] at e1
    injection e1 with e1
    rw [← e1] at hss
    exact hss.len (by rintro rfl; simp at hll; omega)
  have b0s := b0
  rw [h2] at b0 same same0
  obtain ⟨m, hm⟩ : ∃ m, m = x.two[s] := ⟨_, rfl⟩
  rw [← hm] at hrd
  have hmx : m ∈ x.two := by rw [hm]; exact List.getElem_mem hs
  have hmlog := hok.log m hmx
  have hmsz : m.sz ≤ 1048576 := by unfold Minder.sz; omega
  have hmA : mAt x (s : Int) = m := by simp [mAt, List.getD, List.getElem?_eq_getElem hs, hm]
  have hrdR := hrd.rd
  obtain ⟨a, rfl, oa⟩ := hrd
  have hrow' := hrow
  simp only [Minder.enc] at hrow
  have hs0 : (0 : Int) ≤ s := by omega
  have hsl2 : (s : Int) < 2 := by omega
  have hrl : s < blo.rows.length := (List.getElem?_eq_some_iff.1 hrow).1
  have hse : ∀ (Y : Heap) (y : Option Blk) (k : Nat), blkAt (List.set Y bid y) (H.length + k) = blkAt Y (H.length + k) := fun Y y k => blkAt_set_ne (by omega)
  have hse0 : ∀ (Y : Heap) (y : Option Blk), blkAt (List.set Y bid y) H.length = blkAt Y H.length := fun Y y => blkAt_set_ne (by omega)
  have hmi : mindsAt x (s : Int) = minds x.reg s m := by
    rw [mindsAt_s h2 hs2]
    have := hmA
    simp only [mAt, Int.toNat_natCast] at this
    rw [this]
  have mok := (Box.right hxok).ok m hmx
  have b0A := fun G => blkAt_app b0 G
  have bzA := fun G => blkAt_app bz G
  have bDA := fun G => blkAt_app bD G
  have hbbA := fun G => blkAt_app hbb G
  have g1 : H.length < X.length + 1 := by omega
  have g2 : bid < X.length + 1 := by omega
  have g3 : H.length + 2 < X.length + 1 := by omega
  have g4 : H.length + 1 < X.length + 1 := by omega
  have put : ∀ (G : Heap) (l2 : List Lf) (m' : Minder), IsMinder (X ++ G) l2 m' [] → R = (setTwo x s m', 0) → ∀ tm : Ab.T, tm 5 = .int 0 → tm 4 = .ptr (H.length + 2) 0 0 → Q .ret tm (((X ++ G).set bid (some ⟨106, .wr, blo.rows.set s l2⟩)).set (H.length + 2) (some ⟨44, .wr, [[.i .i64 x.id, .i .i64 x.ports, .i .i64 x.reg.epoch, .i .i64 x.reg.owner, .i .i64 x.reg.pair, (.sl (some (bid, 0)) 2), (.sl a1 x.net.length), q2, (.sl a3 x.line.length), q4]]⟩)) := by
    intro G l2 m' hm' hr
    obtain ⟨g2', y1, y2, y3, y4, y5⟩ := hput (X ++ G) l2 m' [] (Keep.app [] X G) hm' (by simp)
    have y1' := y1
    simp only [Box.enc, h2] at y1'
    exact (doneL _ _ 0 _ hr y1' ⟨_, g2', y1, y2, y3, y4, y5⟩).2.2.2
  simp [b0, d0, bD, dD, hda, indexAddrV, elemIs, hbb, hbl, hbe, hs2, hs0, hsl2, hrow, h2, b0A, bzA, bDA, hbbA, g1, g2, g3, g4]
  have hD := onMinderD.eq_1 x d
  simp only [hda, hmA, Int.toNat_natCast] at hD
  rw [if_neg (by omega)] at hD
  rw [← hR] at hD
  have hal : I64 m.ackLife := by simp [Minder.ok] at mok; unfold I64; omega
  have regp : ∀ (G : Heap) (r : Reg), R = (setReg x r, 0) → ∀ tm : Ab.T, tm 5 = .int 0 → tm 4 = .ptr (H.length + 2) 0 0 →
      ∀ L, L = [.i .i64 x.id, .i .i64 x.ports, .i .i64 r.epoch, .i .i64 r.owner, .i .i64 r.pair, .sl (some (bid, 0)) 2, .sl a1 x.net.length, q2, .sl a3 x.line.length, q4] → Q .ret tm (((X ++ G).set H.length (some ⟨44, .wr, [L]⟩)).set (H.length + 2) (some ⟨44, .wr, [L]⟩)) := by
    intro G r hr tm t5 t4 L hL
    subst hL
    have hbr := boxReg d0 hI1 hid (Keep.app [] X G) r
    simp only [Box.enc, setReg, h2] at hbr
    exact (doneL _ _ 0 _ hr (blkAt_set (by simp; omega)) hbr).2.2.2 tm t5 t4
  have pr : ∀ p : Int, I64 p → R = pairD x s p → R = if (pairs x.reg s m p).2 = true then (setReg x (pairs x.reg s m p).1, 0) else (x, 3) := by
    intro p _ h
    rw [h, pairD, hmA]
  have e1 := fun G p hp => specPairs_is (hrdR.app G) hmsz x.reg s (by unfold I64; omega) p hp
  simp only [Reg.enc, Minder.enc] at e1
  have h00 : I64 0 := by unfold I64; omega
  have hsid : ∀ (G : Heap) (y : Blk), blkAt ((X ++ G).set H.length (some y)) H.length = some y := fun G y => blkAt_set (by simp; omega)
  have hsz2 : ∀ (G : Heap) (y : Option Blk), blkAt ((X ++ G).set H.length y) (H.length + 2) = blkAt (X ++ G) (H.length + 2) := fun G y => blkAt_set_ne (by omega)
  have j1 : H.length < X.length + (1 + 1) := by omega
  have j2 : H.length + 2 < X.length + (1 + 1) := by omega
  have j3 : H.length < X.length + 2 := by omega
  have j4 : H.length + 2 < X.length + 2 := by omega
  rcases hk with hk | hk | hk
  · rw [if_pos hk] at hD
    have hrun := fun G => specTake_is (hrdR.app G) hmsz x.reg s (by unfold I64; omega)
    simp only [Reg.enc, Minder.enc] at hrun
    obtain ⟨t, htt⟩ : ∃ t, t = takeR x.reg s m := ⟨_, rfl⟩
    have htD : R = if t.2.2 = false then (x, 3) else if t.2.1.log.length < x.line.length then (x, 4) else (setTwo (setReg x t.1) s ⟨t.2.1.up, t.2.1.life, t.2.1.epoch, t.2.1.log, x.line.length, t.2.1.acked, t.2.1.ackLife⟩, 0) := by rw [hD, takeD, hmA, ← htt]; rfl
    rw [← htt] at hrun
    simp [hk, hda, b0A, g1, bzA, g3, bDA, g4]
    refine stpL_runs (hrun _) ?_
    rintro _ _ ⟨l2, f2, rfl, o2, ⟨⟨G2, rfl⟩, hf2⟩⟩
    obtain ⟨a2, rfl, oa2⟩ := o2
    have j5 : H.length < X.length + (G2.length + (1 + (1 + 1))) := by omega
    have j6 : H.length + 2 < X.length + (G2.length + (1 + (1 + 1))) := by omega
    simp [Minder.enc, Reg.enc]
    cases htk : t.2.2
    · rw [if_pos htk] at htD
      simp [b0A, bzA, j5, j6]
      exact same _ 3 htD _ (by simp) (by simp)
    rw [if_neg (by simp [htk])] at htD
    simp [b0A, bzA, builtinV, pureB, lenV]
    refine selS_intro (fun hc => ?_) (fun hc => ?_)
    · simp at hc
      rw [if_pos hc] at htD
      simp [b0A, bzA, j5, j6]
      exact same _ 4 htD _ (by simp) (by simp)
    simp at hc
    rw [if_neg (by omega)] at htD
    have hsD : ∀ (G : Heap) (y : Option Blk), blkAt ((X ++ G).set H.length y) (H.length + 1) = blkAt (X ++ G) (H.length + 1) := fun G y => blkAt_set_ne (by omega)
    have hsb : ∀ (G : Heap) (y : Option Blk), blkAt ((X ++ G).set H.length y) bid = blkAt (X ++ G) bid := fun G y => blkAt_set_ne (by omega)
    have hsx : ∀ (G : Heap) (y : Option Blk) (k : Nat), blkAt ((X ++ G).set H.length y) (X.length + k) = blkAt (X ++ G) (X.length + k) := fun G y k => blkAt_set_ne (by omega)
    have hsx0 : ∀ (G : Heap) (y : Option Blk), blkAt ((X ++ G).set H.length y) X.length = blkAt (X ++ G) X.length := fun G y => blkAt_set_ne (by omega)
    have tkf : ∀ (G : Heap) (l2 : List Lf) (m2 : Minder) (r : Reg) (f2 : List Nat), IsMinder (X ++ G) l2 m2 f2 → (∀ i ∈ f2, X.length ≤ i) → R = (setTwo (setReg x r) s m2, 0) → ∀ tm : Ab.T, tm 5 = .int 0 → tm 4 = .ptr (H.length + 2) 0 0 →
        ∀ L, L = [.i .i64 x.id, .i .i64 x.ports, .i .i64 r.epoch, .i .i64 r.owner, .i .i64 r.pair, .sl (some (bid, 0)) 2, .sl a1 x.net.length, q2, .sl a3 x.line.length, q4] →
          Q .ret tm ((((X ++ G).set H.length (some ⟨44, .wr, [L]⟩)).set bid (some ⟨106, .wr, blo.rows.set s l2⟩)).set (H.length + 2) (some ⟨44, .wr, [L]⟩)) := by
      intro G l2 m2 r f2 hm2 hf2 hr tm t5 t4 L hL
      subst hL
      obtain ⟨fp', z1, z2, z3, z4, z5⟩ := hput (X ++ G) l2 m2 f2 (Keep.app [] X G) hm2 (fun i hi => .inr (hf2 i hi))
      have z2' : IsBox _ ((setTwo x s m2).enc (.sl (some (bid, 0)) x.two.length) (.sl a1 x.net.length) q2 (.sl a3 x.line.length) q4) _ fp' := z2
      have z := BoxTo.trans z4 z5 (boxReg (blkAt_len z1) z2' z3 (Keep.refl [] _) r)
      simp only [Box.enc, setReg, setTwo, h2] at z
      have hcomm : ∀ A C : Option Blk, ((X ++ G).set H.length A).set bid C = ((X ++ G).set bid C).set H.length A := fun A C => List.set_comm A C (Ne.symm hbne)
      rw [hcomm]
      have hlen := blkAt_len z1
      exact (doneL _ _ 0 _ hr (blkAt_set hlen) z).2.2.2 tm t5 t4
    have j7 : H.length < X.length + (G2.length + 3) := by omega
    have j8 : bid < X.length + (G2.length + (1 + (1 + 1))) := by omega
    have j9 : H.length + 1 < X.length + (G2.length + (1 + (1 + 1))) := by omega
    simp [b0A, bzA, bDA, hbbA, j5, j6, j7, j8, j9, hsid, hsz2, hsD, hsb, hsx, hsx0, builtinV, pureB, lenV, h2, indexAddrV, elemIs, hbe, hbm, hs2, hs0, hsl2, hrow, hda]
    simp [hse0, hse, hsid, hsz2, bzA, j5, j6, j7]
    have oa3 := oa2.app [some ⟨38, .wr, [[.i .i64 t.1.epoch, .i .i64 t.1.owner, .i .i64 t.1.pair]]⟩, some ⟨106, .wr, [[.b t.2.1.up, .i .i64 t.2.1.life, .i .i64 t.2.1.epoch, .sl a2 t.2.1.log.length, .i .i64 x.line.length, .i .i64 t.2.1.acked, .i .i64 t.2.1.ackLife]]⟩]
    simp only [List.append_assoc, List.cons_append, List.nil_append] at oa3
    exact tkf _ _ ⟨t.2.1.up, t.2.1.life, t.2.1.epoch, t.2.1.log, x.line.length, t.2.1.acked, t.2.1.ackLife⟩ t.1 f2 ⟨a2, rfl, oa3⟩ (fun i hi => by have := hf2 i hi; simp at this; omega) htD _ (by simp) (by simp) _ rfl
  · rw [if_neg (by omega), if_pos hk] at hD
    have hD2 := pr _ hal hD
    simp [hk, hda, b0A, g1, bzA, g3, bDA, g4, e1 _ _ hal]
    cases hp : (pairs x.reg s m m.ackLife).2
    · rw [if_neg (by simp [hp])] at hD2
      simp [b0A, bzA, j1, j2, j3, j4]
      exact same _ 3 hD2 _ (by simp) (by simp)
    · rw [if_pos hp] at hD2
      simp [b0A, bzA, j1, j2, j3, j4, hsid, hsz2]
      exact regp _ _ hD2 _ (by simp) (by simp) _ rfl
  · rw [if_neg (by omega), if_neg (by omega), if_pos hk] at hD
    have hD2 := pr _ h00 hD
    simp [hk, hda, b0A, g1, bzA, g3, bDA, g4, e1 _ _ h00]
    cases hp : (pairs x.reg s m 0).2
    · rw [if_neg (by simp [hp])] at hD2
      simp [b0A, bzA, j1, j2, j3, j4]
      exact same _ 3 hD2 _ (by simp) (by simp)
    · rw [if_pos hp] at hD2
      simp [b0A, bzA, j1, j2, j3, j4, hsid, hsz2]
      exact regp _ _ hD2 _ (by simp) (by simp) _ rfl

theorem l15Say {H : Heap} {l : List Lf} {x : Box} {fp : List Nat} (hI : IsBox H l x fp) (hok : Small x) (hxok : x.ok = true) :
    Runs env 66 [.agg l] H fun v H' => ∃ l', v = .tup [.agg l', .lf (.i .i64 (sayD x).2)] ∧ BoxVal H H' fp l' (sayD x).1 := by
  have hsz := hok.sz
  have h2 := hok.two
  have hlt := hI.lt
  have hid : H.length ∉ fp := fun h => by have := hlt _ h; omega
  obtain ⟨q0, q1, q2, q3, q4, rfl⟩ : ∃ q0 q1 q2 q3 q4, l = x.enc q0 q1 q2 q3 q4 := by
    obtain ⟨q0, q1, q2, q3, q4, _, _, _, _, _, rfl, -⟩ := hI
    exact ⟨q0, q1, q2, q3, q4, rfl⟩
  obtain ⟨R, hR⟩ : ∃ R, R = sayD x := ⟨_, rfl⟩
  rw [← hR]
  refine Runs.walk ok66 Tryz.func66 rfl (by simp [Tryz.f66]) fun Q hQ => ?_
  simp only [Tryz.f66, strip, stripL, stripI, stripG, chkT, tagsB, tagsL, tagD, addT, tagA, lookN, tagOp, elmT, ty24, ty25, ty26, ty27, ty28, ty39, ty40, ty41, ty42, ty57, ty59, ty62, ty98, Nat.reduceEqDiff, if_false, reduceIte, Option.getD_some, Option.getD_none, dstAt, dstOk, Nat.reduceLT, decide_true, if_true]
  have fin : ∀ (HX : Heap) (tm : Ab.T) (c : Int) (y : Box) (l' : List Lf), R = (y, c) → BoxVal H HX fp l' y → tm 3 = .int c → tm 2 = .ptr (H.length + 1) 0 0 → blkAt HX (H.length + 1) = some ⟨44, .wr, [l']⟩ → Q .ret tm HX := by
    intro HX tm c y l' h1 hv t5 t4 hb4
    have hL' := hv.len
    have hT' : l'.take l'.length = l' := List.take_length
    rw [hL'] at hT'
    refine hQ _ _ _ (by simp) ?_
    have hres : resT env.τ tm HX (Tryz.f66.results.toList) = some [W.agg l', W.lf (.i .i64 c)] := by simp [Tryz.f66, t4, t5, hb4, hL', hT']
    rw [hres, optK_some, h1]
    exact ⟨_, rfl, hv.leave (by simp)⟩
  simp [Box.enc, Deed.enc, Wire.enc]
  obtain ⟨X, hX⟩ : ∃ X : Heap, X = H ++ [some ⟨44, .wr, [[.i .i64 x.id, .i .i64 x.ports, .i .i64 x.reg.epoch, .i .i64 x.reg.owner, .i .i64 x.reg.pair, q0, q1, q2, q3, q4]]⟩, some ⟨44, .wr, [[.i .i64 0, .i .i64 0, .i .i64 0, .i .i64 0, .i .i64 0, .sl none 0, .sl none 0, .sl none 0, .sl none 0, .sl none 0]]⟩] := ⟨_, rfl⟩
  have b0 : blkAt X H.length = some ⟨44, .wr, [[.i .i64 x.id, .i .i64 x.ports, .i .i64 x.reg.epoch, .i .i64 x.reg.owner, .i .i64 x.reg.pair, q0, q1, q2, q3, q4]]⟩ := by rw [hX]; simp
  have d0 := blkAt_len b0
  have bz : blkAt X (H.length + 1) = some ⟨44, .wr, [[.i .i64 0, .i .i64 0, .i .i64 0, .i .i64 0, .i .i64 0, .sl none 0, .sl none 0, .sl none 0, .sl none 0, .sl none 0]]⟩ := by rw [hX]; simp
  have dz := blkAt_len bz
  rw [← hX]
  have kX : Keep [] H X := by rw [hX]; exact Keep.app _ _ _
  have hI1 : IsBox X (x.enc q0 q1 q2 q3 q4) x fp := hI.keep kX (by simp)
  have val : ∀ (HX : Heap) (y : Box), BoxTo X HX H.length fp y → ∃ l', blkAt HX H.length = some ⟨44, .wr, [l']⟩ ∧ l'.length = 10 ∧ l'.take 10 = l' ∧ BoxVal H (HX.set (H.length + 1) (some ⟨44, .wr, [l']⟩)) fp l' y ∧ Keep (H.length :: fp) X HX := by
    intro HX y h
    rw [hX] at h ⊢
    exact h.val hlt (by omega) (by simp)
  have off : ∀ k : Nat, 0 < k → H.length + k ∉ H.length :: fp := fun k hk h => by
    rcases List.mem_cons.1 h with h | h
    · omega
    · have := hlt _ h; omega
  have done : ∀ (HX : Heap) (y : Box) (c : Int) (_ : R = (y, c)) (_ : BoxTo X HX H.length fp y), ∃ l', blkAt HX H.length = some ⟨44, .wr, [l']⟩ ∧ l'.length = 10 ∧ l'.take 10 = l' ∧ H.length < HX.length ∧ H.length + 1 < HX.length ∧ blkAt HX (H.length + 1) = some ⟨44, .wr, [[.i .i64 0, .i .i64 0, .i .i64 0, .i .i64 0, .i .i64 0, .sl none 0, .sl none 0, .sl none 0, .sl none 0, .sl none 0]]⟩ ∧ ∀ tm : Ab.T, tm 3 = .int c → tm 2 = .ptr (H.length + 1) 0 0 → Q .ret tm (HX.set (H.length + 1) (some ⟨44, .wr, [l']⟩)) := by
    intro HX y c h1 h
    obtain ⟨l', v1, v2, v3, v4, v5⟩ := val HX y h
    have hz := v5.blk bz (off _ (by omega))
    have hzl := blkAt_len hz
    exact ⟨l', v1, v2, v3, blkAt_len v1, hzl, hz, fun tm t5 t4 => fin _ tm c y l' h1 v4 t5 t4 (blkAt_set hzl)⟩
  have doneL : ∀ (HX : Heap) (y : Box) (c : Int) (L : List Lf) (_ : R = (y, c)) (_ : blkAt HX H.length = some ⟨44, .wr, [L]⟩) (_ : BoxTo X HX H.length fp y), H.length < HX.length ∧ H.length + 1 < HX.length ∧ blkAt HX (H.length + 1) = some ⟨44, .wr, [[.i .i64 0, .i .i64 0, .i .i64 0, .i .i64 0, .i .i64 0, .sl none 0, .sl none 0, .sl none 0, .sl none 0, .sl none 0]]⟩ ∧ ∀ tm : Ab.T, tm 3 = .int c → tm 2 = .ptr (H.length + 1) 0 0 → Q .ret tm (HX.set (H.length + 1) (some ⟨44, .wr, [L]⟩)) := by
    intro HX y c L h1 hb h
    obtain ⟨l', w1, w2, w3, w4, w5, w6, w7⟩ := done HX y c h1 h
    rw [hb] at w1
    injection w1 with w1
    simp only [Blk.mk.injEq, List.cons.injEq, and_true, true_and] at w1
    subst w1
    exact ⟨w4, w5, w6, w7⟩
  have same : ∀ (G : Heap) (c : Int) (_ : R = (x, c)) (tm : Ab.T), tm 3 = .int c → tm 2 = .ptr (H.length + 1) 0 0 → Q .ret tm ((X ++ G).set (H.length + 1) (some ⟨44, .wr, [[.i .i64 x.id, .i .i64 x.ports, .i .i64 x.reg.epoch, .i .i64 x.reg.owner, .i .i64 x.reg.pair, q0, q1, q2, q3, q4]]⟩)) := by
    intro G c h1 tm t5 t4
    obtain ⟨l', w1, -, -, -, -, -, w7⟩ := done (X ++ G) x c h1 (BoxTo.app b0 hI1 hid G)
    rw [blkAt_app b0] at w1
    injection w1 with w1
    simp only [Blk.mk.injEq, List.cons.injEq, and_true, true_and] at w1
    subst w1
    exact w7 tm t5 t4
  have same0 : ∀ (c : Int) (_ : R = (x, c)) (tm : Ab.T), tm 3 = .int c → tm 2 = .ptr (H.length + 1) 0 0 → Q .ret tm (X.set (H.length + 1) (some ⟨44, .wr, [[.i .i64 x.id, .i .i64 x.ports, .i .i64 x.reg.epoch, .i .i64 x.reg.owner, .i .i64 x.reg.pair, q0, q1, q2, q3, q4]]⟩)) := by
    intro c h1 tm t5 t4
    have := same [] c h1 tm t5 t4
    rwa [List.append_nil] at this
  have hI2 := hI1
  obtain ⟨p0, p1, p2, p3, p4, f0, f1, f2, f3, f4, hle, i0, ⟨a1, hp1, o1⟩, i2, ⟨a3, hp3, o3⟩, i4, rfl, hnd⟩ := hI2
  simp only [Box.enc, List.cons.injEq, and_true, true_and] at hle
  obtain ⟨rfl, rfl, rfl, rfl, rfl⟩ := hle
  subst hp1
  subst hp3
  have i3 : IsInS X (.sl a3 x.line.length) x.line f3 := ⟨a3, rfl, o3⟩
  have e1 := l15Who (hI1.rd) h2 (by omega)
  simp only [Box.enc] at e1
  simp [e1]
  by_cases hneg : whoM x < 0
  · simp [hneg, b0, d0, bz, dz]
    exact same0 3 (by rw [hR, sayD, if_pos (.inl hneg)]) _ (by simp) (by simp)
  obtain ⟨s, hs2, hw⟩ : ∃ s : Nat, s < 2 ∧ whoM x = (s : Int) := by
    rcases whoM_cases x with ⟨h, -⟩ | ⟨h, -⟩ | ⟨h, -⟩
    · exact ⟨0, by omega, h⟩
    · exact ⟨1, by omega, h⟩
    · omega
  have hs : s < x.two.length := by omega
  rw [hw] at hneg ⊢
  obtain ⟨bid, blo, r1, r2, r3, r4, row, fs, hl, hbne, hbl, hbb, hbe, hbm, hrow, hrd, hbfs, hidfs, hput⟩ := boxTwoOwn b0 hI1 hid hs
  simp only [Box.enc, List.cons.injEq, and_true, true_and] at hl
  obtain ⟨rfl, rfl, rfl, rfl, rfl⟩ := hl
  have hbH : bid < H.length := by
    have h1 := hI.rd
    obtain ⟨_, _, _, _, _, e1, ⟨a0, rws, e2, hss, hll, _⟩, -⟩ := h1
    simp only [Box.enc, List.cons.injEq, and_true, true_and] at e1
    obtain ⟨e1, -⟩ := e1
    rw [e2] at e1
    injection e1 with e1
    rw [← e1] at hss
    exact hss.len (by rintro rfl; simp at hll; omega)
  have b0s := b0
  rw [h2] at b0 same same0
  obtain ⟨m, hm⟩ : ∃ m, m = x.two[s] := ⟨_, rfl⟩
  rw [← hm] at hrd
  have hmx : m ∈ x.two := by rw [hm]; exact List.getElem_mem hs
  have hmlog := hok.log m hmx
  have hmsz : m.sz ≤ 1048576 := by unfold Minder.sz; omega
  have hmA : mAt x (s : Int) = m := by simp [mAt, List.getD, List.getElem?_eq_getElem hs, hm]
  have hrdR := hrd.rd
  obtain ⟨a, rfl, oa⟩ := hrd
  have hrow' := hrow
  simp only [Minder.enc] at hrow
  have hs0 : (0 : Int) ≤ s := by omega
  have hsl2 : (s : Int) < 2 := by omega
  have hrl : s < blo.rows.length := (List.getElem?_eq_some_iff.1 hrow).1
  have hse : ∀ (Y : Heap) (y : Option Blk) (k : Nat), blkAt (List.set Y bid y) (H.length + k) = blkAt Y (H.length + k) := fun Y y k => blkAt_set_ne (by omega)
  have hse0 : ∀ (Y : Heap) (y : Option Blk), blkAt (List.set Y bid y) H.length = blkAt Y H.length := fun Y y => blkAt_set_ne (by omega)
  have hmi : mindsAt x (s : Int) = minds x.reg s m := by
    rw [mindsAt_s h2 hs2]
    have := hmA
    simp only [mAt, Int.toNat_natCast] at this
    rw [this]
  have hrok : x.reg.ok = true := by simp only [Box.ok, Bool.and_eq_true] at hxok; exact hxok.1.1.1.1.1.1.1.2
  have hp64 : I64 x.reg.pair := by simp [Reg.ok] at hrok; unfold I64; omega
  have mok := (Box.right hxok).ok m hmx
  have e2 := specReady_is hrdR hmsz x.reg.pair hp64
  simp only [Minder.enc] at e2
  simp [hneg, b0, d0, indexAddrV, elemIs, hbb, hbl, hbe, hs2, hs0, hsl2, hrow, h2, e2]
  cases hrdy : ready m x.reg.pair
  · simp [b0, d0, bz, dz]
    exact same0 3 (by rw [hR, sayD, hw, if_pos (.inr (by rw [hmA]; exact hrdy))]) _ (by simp) (by simp)
  obtain ⟨k, hk⟩ : ∃ k : Nat, m.said = (k : Int) := ⟨m.said.toNat, by simp [Minder.ok] at mok; omega⟩
  have hkl : k < m.log.length := by simp [ready] at hrdy; omega
  have hm64 : I64 m.said := by unfold I64; rw [hk]; unfold Minder.sz at hmsz; omega
  have hbr : (bridgeNew x.id x.ports).2 = true := by simp only [Box.ok, Bool.and_eq_true] at hxok; exact hxok.1.1.1.1.1.1.1.1
  have hbn := bridgeNew_yes hbr
  simp [b0, d0, indexAddrV, elemIs, hbb, hbl, hbe, hs2, hs0, hsl2, hrow, h2]
  refine stpL_runs_f (specSaying_is (log := m.log) ⟨a, rfl, oa.sl⟩ hmsz x.id (by unfold I64; omega) x.ports (by unfold I64; omega) m.said hm64) (by rintro _ _ ⟨_, _, _, _, hf⟩; exact hf.1) ?_
  rintro _ _ ⟨_, fq, rfl, oq, ⟨⟨G2, rfl⟩, hfq⟩⟩
  have hsl8 := saying_len x.id x.ports m.log m.said
  obtain ⟨L, hL⟩ : ∃ L, L = saying x.id x.ports m.log m.said := ⟨_, rfl⟩
  rw [← hL] at oq hsl8
  simp
  have hacc := specAccept_is (hI1.app G2).rd (by omega) oq.rd (by omega) (s : Int) (by unfold I64; omega)
  simp only [Box.enc, h2] at hacc
  refine stpL_runs_f hacc (by rintro _ _ ⟨_, _, _, _, hf⟩; exact hf.1) ?_
  rintro _ _ ⟨l3, f3', rfl, o4, ⟨⟨G3, rfl⟩, hf4⟩⟩
  have hax : accept x (s : Int) L = acceptB x L := by
    have := whoM_cases x
    rw [accept, if_pos]
    rw [hmi]
    have hc : minds x.reg s m = true := by
      rcases whoM_cases x with ⟨h, hh⟩ | ⟨h, hh⟩ | ⟨h, -⟩
      · obtain rfl : s = 0 := by omega
        have := mindsAt_s h2 (s := 0) (by omega)
        rw [hmi] at this
        rw [this]; exact hh
      · obtain rfl : s = 1 := by omega
        have := mindsAt_s h2 (s := 1) (by omega)
        rw [hmi] at this
        rw [this]; exact hh
      · omega
    exact hc
  rw [hax] at o4
  have hL3 := o4.len
  have hT3 : l3.take l3.length = l3 := List.take_length
  rw [hL3] at hT3
  have valF : ∀ (Y3 : Heap) (y : Box) (l6 : List Lf) (g7 : List Nat), IsBox Y3 l6 y g7 → (∀ i ∈ g7, X.length ≤ i) → Keep [] X Y3 → R = (y, 0) → ∀ tm : Ab.T, tm 3 = .int 0 → tm 2 = .ptr (H.length + 1) 0 0 → Q .ret tm (Y3.set (H.length + 1) (some ⟨44, .wr, [l6]⟩)) := by
    intro Y3 y l6 g7 ho hg hk hr tm t5 t4
    have hlX := hk.1
    refine fin _ tm 0 y l6 hr ⟨g7, ho.keep (Keep.set _ _) (fun i hi hj => by have := hg i hi; simp at hj; omega), ?_, fun i hi => .inr (by have := hg i hi; omega)⟩ t5 t4 (blkAt_set (by omega))
    exact ((kX.next hk (by simp)).next (Keep.set _ _) (by simp)).more (by simp)
  have o4' := o4.app [some ⟨44, .wr, [l3]⟩]
  simp only [List.append_assoc] at o4'
  have hlt4 := o4.lt
  simp [hL3, hT3]
  obtain ⟨K6, hK6⟩ : ∃ K6, K6 = X.length + (G2.length + G3.length) := ⟨_, rfl⟩
  obtain ⟨Y, hY⟩ : ∃ Y : Heap, Y = X ++ (G2 ++ (G3 ++ [some ⟨44, .wr, [l3]⟩])) := ⟨_, rfl⟩
  have y6 : blkAt Y K6 = some ⟨44, .wr, [l3]⟩ := by rw [hY, hK6]; simp
  have kXY : Keep [] X Y := by rw [hY]; exact Keep.app _ _ _
  have o6 : IsBox Y l3 (acceptB x L) f3' := by rw [hY]; exact o4'
  have hgX : ∀ i ∈ f3', X.length ≤ i := fun i hi => by have := hf4 i hi; simp at this; omega
  have hK6f : K6 ∉ f3' := fun h => by have := hlt4 _ h; simp at this; omega
  have hK6X : X.length ≤ K6 := by omega
  rw [← hY, ← hK6]
  have hsD0 : sayD x = (if (x.line.length : Int) < m.said + 1 then setLine (setTwo (acceptB x L) s ⟨m.up, m.life, m.epoch, m.log, k + 1, m.acked, m.ackLife⟩) (x.line ++ [m.log.getD m.said.toNat default]) else setTwo (acceptB x L) s ⟨m.up, m.life, m.epoch, m.log, k + 1, m.acked, m.ackLife⟩, 0) := by
    rw [sayD, if_neg (by rw [hw, hmA, hrdy]; simp)]
    have hL' : saying x.id x.ports m.log k = L := by rw [hL, hk]
    simp only [hw, hmA, hk, hL', Int.toNat_natCast]
  rw [← hR] at hsD0
  have b0Y := kXY.blk b0 (by simp)
  have hbbY := kXY.blk hbb (by simp)
  have dbY := blkAt_len hbbY
  have d0Y := blkAt_len b0Y
  clear hY hK6 o4 o4' hlt4
  have hl3 : ∃ (a8 : Option (Nat × Nat)), List.take 1 (List.drop 8 l3) = [.sl a8 x.line.length] := by
    obtain ⟨_, _, _, _, _, _, _, _, _, _, rfl, _, _, _, ⟨a8, rfl, _⟩, _⟩ := o6
    exact ⟨a8, rfl⟩
  obtain ⟨a8, hl8⟩ := hl3
  simp [hl8, builtinV, pureB, lenV, hk]
  refine selS_intro (fun hc => ?_) (fun hc => ?_)
  · simp at hc
    have hgd : m.log.getD m.said.toNat default = m.log[k] := by rw [hk, Int.toNat_natCast]; simp [List.getD, List.getElem?_eq_getElem hkl]
    rw [if_pos (by rw [hk]; omega), hgd] at hsD0
    obtain ⟨n0, n1, n2, n3, n4, e0, e1', e2', e3, e4, rfl, v0, v1, v2, ⟨a9, rfl, v3⟩, v4, rfl, hndv⟩ := o6
    simp only [Box.enc] at y6 hl8
    have hln9 : (acceptB x L).line = x.line := rfl
    rw [hln9] at v3
    have hbe9 : (acceptB x L).two.length = 2 := h2
    have dK9 := blkAt_len y6
    obtain ⟨id3, r3, bl3, rfl, hb3, hbe4, hrw3⟩ := (oa.keep kXY (by simp)).sl k _ (by simp [hkl]; rfl)
    have hid3 := blkAt_len hb3
    have hgl : (k : Int) < m.log.length := by omega
    simp [y6, dK9, hln9, b0Y, d0Y, hbbY, dbY, hbe, hs2, hs0, hsl2, hrow, h2, builtinV, pureB, lenV, indexAddrV, elemIs, hb3, hbe4, hid3, hrw3, hkl, hgl, In.enc]
    have hline60 : x.line.length ≤ 61 := hok.line
    refine stpL_append (e := 50) (rows := x.line.map In.enc) (ys := [m.log[k].enc]) (v3.app _) (Sl.of (by simp [In.enc])) rfl rfl rfl (by simp) (by simp; omega) (by simp) rfl fun a'' H'' fp'' ho'' hk'' hf'' => ?_
    have k2 : Keep e3 Y H'' := hk''.base
    have hi3 : K6 ∉ e3 := fun h => hK6f (by simp [h])
    have b2 := k2.blk y6 hi3
    have d2 := blkAt_len b2
    have hf9 : ∀ i ∈ fp'', i ∈ e3 ∨ Y.length ≤ i := fun i hi => (hf'' i hi).imp (fun h => h) (fun h => by rw [List.length_append] at h; omega)
    have hq : IsInS H'' (.sl a'' (x.line.length + 1)) (x.line ++ [m.log[k]]) fp'' := ⟨a'', by simp, by simpa using ho''⟩
    have hbx := boxLine (x := acceptB x L) dK9 hK6f v0 v1 v2 v4 hndv k2 hq hf9
    simp [b2, d2]
    simp only [Box.enc] at hbx
    obtain ⟨Y1, hY1⟩ : ∃ Y1 : Heap, Y1 = H''.set K6 (some ⟨44, .wr, [[.i .i64 (acceptB x L).id, .i .i64 (acceptB x L).ports, .i .i64 (acceptB x L).reg.epoch, .i .i64 (acceptB x L).reg.owner, .i .i64 (acceptB x L).reg.pair, n0, n1, n2, .sl a'' (x.line.length + 1), n4]]⟩) := ⟨_, rfl⟩
    rw [← hY1] at hbx ⊢
    clear hY1
    obtain ⟨l3, g3, y7, o7, hK7f, kYY, hg3⟩ := hbx
    have kXY1 := kXY.next kYY (fun i hi => by
      rcases List.mem_cons.1 hi with rfl | hi
      · exact hK6X
      · exact hgX i hi)
    have hgX1 : ∀ i ∈ g3, X.length ≤ i := fun i hi => by
      rcases hg3 i hi with h | h
      · exact hgX i h
      · have := kXY.1; omega
    clear y6 dK9 hi3 b2 v0 v1 v2 v3 v4 k2 hq hgX hK6f kXY hb3 hid3 b0Y hbbY dbY d0Y kYY hg3 hf9 hf'' hk'' ho'' hrw3 hndv d2
    have hsD : R = (setTwo (setLine (acceptB x L) (x.line ++ [m.log[k]])) s ⟨m.up, m.life, m.epoch, m.log, k + 1, m.acked, m.ackLife⟩, 0) := hsD0
    have dK := blkAt_len y7
    obtain ⟨bid6, blo7, u1, u2, u3, u4, row6, fs6, hl6, hbne6, hbl6, hbb6, hbe6, hbm6, hrow6, hrd6, hbfs6, hidfs6, hput6⟩ := boxTwoOwn y7 o7 hK7f (s := s) hs
    subst hl6
    have hm6 : (setLine (acceptB x L) (x.line ++ [m.log[k]])).two[s]'(by exact hs) = m := hm.symm
    rw [hm6] at hrd6
    obtain ⟨a6, rfl, oa6⟩ := hrd6
    have hbe3 : (setLine (acceptB x L) (x.line ++ [m.log[k]])).two.length = 2 := h2
    have y7' := y7
    simp only [Box.enc, hbe3] at y7'
    simp only [Minder.enc] at hrow6
    have hrl6 : s < blo7.rows.length := (List.getElem?_eq_some_iff.1 hrow6).1
    have hw1 : IntKind.i64.wrap ((k : Int) + 1) = (k : Int) + 1 := wrap64 (by omega) (by unfold Minder.sz at hmsz; omega)
    obtain ⟨g7, z1, z2, z3, z4, z5⟩ := hput6 Y1 [.b m.up, .i .i64 m.life, .i .i64 m.epoch, .sl a6 m.log.length, .i .i64 (k + 1), .i .i64 m.acked, .i .i64 m.ackLife] ⟨m.up, m.life, m.epoch, m.log, k + 1, m.acked, m.ackLife⟩ fs6 (Keep.refl _ _) ⟨a6, rfl, oa6⟩ (fun i hi => .inl hi)
    have z1' := z1
    simp only [Box.enc, hbe3] at z1' z2
    have dz1 := blkAt_len z1
    have kz := kXY1.next z4 (fun i hi => by
      rcases List.mem_cons.1 hi with rfl | hi
      · exact hK6X
      · exact hgX1 i hi)
    have bz7 := kz.blk bz (by simp)
    have dz7 := blkAt_len bz7
    simp [y7', dK, indexAddrV, elemIs, hbb6, hbl6, hbe6, hbm6, hs2, hs0, hsl2, hrow6, hw1]
    simp [z1', dz1, bz7, dz7]
    refine valF _ _ _ g7 z2 (fun i hi => by
      rcases z5 i hi with h | h
      · exact hgX1 i h
      · have := kXY1.1; omega) kz hsD _ ?_ ?_
    · simp
    · simp

  · simp at hc
    rw [if_neg (by rw [hk]; omega)] at hsD0
    have hsD := hsD0
    simp
    have dK := blkAt_len y6
    obtain ⟨bid6, blo6, u1, u2, u3, u4, row6, fs6, hl6, hbne6, hbl6, hbb6, hbe6, hbm6, hrow6, hrd6, hbfs6, hidfs6, hput6⟩ := boxTwoOwn y6 o6 hK6f (s := s) hs
    subst hl6
    have hm6 : (acceptB x L).two[s]'(by exact hs) = m := hm.symm
    rw [hm6] at hrd6
    obtain ⟨a6, rfl, oa6⟩ := hrd6
    have hbe3 : (acceptB x L).two.length = 2 := h2
    have y6' := y6
    simp only [Box.enc, hbe3] at y6'
    simp only [Minder.enc] at hrow6
    have hrl6 : s < blo6.rows.length := (List.getElem?_eq_some_iff.1 hrow6).1
    have hw1 : IntKind.i64.wrap ((k : Int) + 1) = (k : Int) + 1 := wrap64 (by omega) (by unfold Minder.sz at hmsz; omega)
    obtain ⟨g7, z1, z2, z3, z4, z5⟩ := hput6 Y [.b m.up, .i .i64 m.life, .i .i64 m.epoch, .sl a6 m.log.length, .i .i64 (k + 1), .i .i64 m.acked, .i .i64 m.ackLife] ⟨m.up, m.life, m.epoch, m.log, k + 1, m.acked, m.ackLife⟩ fs6 (Keep.refl _ _) ⟨a6, rfl, oa6⟩ (fun i hi => .inl hi)
    have z1' := z1
    simp only [Box.enc, hbe3] at z1' z2
    have dz1 := blkAt_len z1
    have kz := kXY.next z4 (fun i hi => by
      rcases List.mem_cons.1 hi with rfl | hi
      · exact hK6X
      · exact hgX i hi)
    have bz7 := kz.blk bz (by simp)
    have dz7 := blkAt_len bz7
    simp [y6', dK, indexAddrV, elemIs, hbb6, hbl6, hbe6, hbm6, hs2, hs0, hsl2, hrow6, hw1]
    simp [z1', dz1, bz7, dz7]
    refine valF _ _ _ g7 z2 (fun i hi => by
      rcases z5 i hi with h | h
      · exact hgX i h
      · have := kXY.1; omega) kz hsD _ ?_ ?_
    · simp
    · simp

theorem l15One {H : Heap} {l : List Lf} {x : Box} {fp : List Nat} (hI : IsBox H l x fp) (hok : Small x) (hxok : x.ok = true) (d : Deed) (hkd : 1 ≤ d.kind ∧ d.kind ≤ 12) :
    Runs env 29 [.agg l, .agg d.enc] H fun v H' => ∃ l', v = .tup [.agg l', .lf (.i .i64 (deedD x d).2)] ∧ BoxVal H H' fp l' (deedD x d).1 := by
  have hsz := hok.sz
  have h2 := hok.two
  have hlt := hI.lt
  have hid : H.length ∉ fp := fun h => by have := hlt _ h; omega
  obtain ⟨q0, q1, q2, q3, q4, rfl⟩ : ∃ q0 q1 q2 q3 q4, l = x.enc q0 q1 q2 q3 q4 := by
    obtain ⟨q0, q1, q2, q3, q4, _, _, _, _, _, rfl, -⟩ := hI
    exact ⟨q0, q1, q2, q3, q4, rfl⟩
  obtain ⟨R, hR⟩ : ∃ R, R = deedD x d := ⟨_, rfl⟩
  rw [← hR]
  refine Runs.walk ok29 Tryz.func29 rfl (by simp [Tryz.f29]) fun Q hQ => ?_
  simp only [Tryz.f29, strip, stripL, stripI, stripG, chkT, tagsB, tagsL, tagD, addT, tagA, lookN, tagOp, elmT, ty24, ty25, ty26, ty27, ty28, ty39, ty40, ty41, ty42, ty57, ty59, ty62, ty98, Nat.reduceEqDiff, if_false, reduceIte, Option.getD_some, Option.getD_none, dstAt, dstOk, Nat.reduceLT, decide_true, if_true]
  have fin : ∀ (HX : Heap) (tm : Ab.T) (c : Int) (y : Box) (l' : List Lf), R = (y, c) → BoxVal H HX fp l' y → tm 5 = .int c → tm 4 = .ptr (H.length + 2) 0 0 → blkAt HX (H.length + 2) = some ⟨44, .wr, [l']⟩ → Q .ret tm HX := by
    intro HX tm c y l' h1 hv t5 t4 hb4
    have hL' := hv.len
    have hT' : l'.take l'.length = l' := List.take_length
    rw [hL'] at hT'
    refine hQ _ _ _ (by simp) ?_
    have hres : resT env.τ tm HX (Tryz.f29.results.toList) = some [W.agg l', W.lf (.i .i64 c)] := by simp [Tryz.f29, t4, t5, hb4, hL', hT']
    rw [hres, optK_some, h1]
    exact ⟨_, rfl, hv.leave (by simp)⟩
  simp [Box.enc, Deed.enc, Wire.enc]
  obtain ⟨X, hX⟩ : ∃ X : Heap, X = H ++ [some ⟨44, .wr, [[.i .i64 x.id, .i .i64 x.ports, .i .i64 x.reg.epoch, .i .i64 x.reg.owner, .i .i64 x.reg.pair, q0, q1, q2, q3, q4]]⟩, some ⟨52, .wr, [[.i .i64 d.kind, .i .i64 d.a, .i .i64 d.inn.kind, .i .i64 d.inn.port, .i .i64 d.inn.vec.root, .i .i64 d.inn.vec.cost, .i .i64 d.inn.vec.bridge, .i .i64 d.inn.vec.port, .i .i64 d.inn.hops, .b d.inn.up]]⟩, some ⟨44, .wr, [[.i .i64 0, .i .i64 0, .i .i64 0, .i .i64 0, .i .i64 0, .sl none 0, .sl none 0, .sl none 0, .sl none 0, .sl none 0]]⟩] := ⟨_, rfl⟩
  have b0 : blkAt X H.length = some ⟨44, .wr, [[.i .i64 x.id, .i .i64 x.ports, .i .i64 x.reg.epoch, .i .i64 x.reg.owner, .i .i64 x.reg.pair, q0, q1, q2, q3, q4]]⟩ := by rw [hX]; simp
  have d0 := blkAt_len b0
  have bz : blkAt X (H.length + 2) = some ⟨44, .wr, [[.i .i64 0, .i .i64 0, .i .i64 0, .i .i64 0, .i .i64 0, .sl none 0, .sl none 0, .sl none 0, .sl none 0, .sl none 0]]⟩ := by rw [hX]; simp
  have dz := blkAt_len bz
  have bD : blkAt X (H.length + 1) = some ⟨52, .wr, [[.i .i64 d.kind, .i .i64 d.a, .i .i64 d.inn.kind, .i .i64 d.inn.port, .i .i64 d.inn.vec.root, .i .i64 d.inn.vec.cost, .i .i64 d.inn.vec.bridge, .i .i64 d.inn.vec.port, .i .i64 d.inn.hops, .b d.inn.up]]⟩ := by rw [hX]; simp
  have dD := blkAt_len bD
  rw [← hX]
  have kX : Keep [] H X := by rw [hX]; exact Keep.app _ _ _
  have hI1 : IsBox X (x.enc q0 q1 q2 q3 q4) x fp := hI.keep kX (by simp)
  have val : ∀ (HX : Heap) (y : Box), BoxTo X HX H.length fp y → ∃ l', blkAt HX H.length = some ⟨44, .wr, [l']⟩ ∧ l'.length = 10 ∧ l'.take 10 = l' ∧ BoxVal H (HX.set (H.length + 2) (some ⟨44, .wr, [l']⟩)) fp l' y ∧ Keep (H.length :: fp) X HX := by
    intro HX y h
    rw [hX] at h ⊢
    exact h.val hlt (by omega) (by simp)
  have off : ∀ k : Nat, 0 < k → H.length + k ∉ H.length :: fp := fun k hk h => by
    rcases List.mem_cons.1 h with h | h
    · omega
    · have := hlt _ h; omega
  have done : ∀ (HX : Heap) (y : Box) (c : Int) (_ : R = (y, c)) (_ : BoxTo X HX H.length fp y), ∃ l', blkAt HX H.length = some ⟨44, .wr, [l']⟩ ∧ l'.length = 10 ∧ l'.take 10 = l' ∧ H.length < HX.length ∧ H.length + 2 < HX.length ∧ blkAt HX (H.length + 2) = some ⟨44, .wr, [[.i .i64 0, .i .i64 0, .i .i64 0, .i .i64 0, .i .i64 0, .sl none 0, .sl none 0, .sl none 0, .sl none 0, .sl none 0]]⟩ ∧ ∀ tm : Ab.T, tm 5 = .int c → tm 4 = .ptr (H.length + 2) 0 0 → Q .ret tm (HX.set (H.length + 2) (some ⟨44, .wr, [l']⟩)) := by
    intro HX y c h1 h
    obtain ⟨l', v1, v2, v3, v4, v5⟩ := val HX y h
    have hz := v5.blk bz (off _ (by omega))
    have hzl := blkAt_len hz
    exact ⟨l', v1, v2, v3, blkAt_len v1, hzl, hz, fun tm t5 t4 => fin _ tm c y l' h1 v4 t5 t4 (blkAt_set hzl)⟩
  have doneL : ∀ (HX : Heap) (y : Box) (c : Int) (L : List Lf) (_ : R = (y, c)) (_ : blkAt HX H.length = some ⟨44, .wr, [L]⟩) (_ : BoxTo X HX H.length fp y), H.length < HX.length ∧ H.length + 2 < HX.length ∧ blkAt HX (H.length + 2) = some ⟨44, .wr, [[.i .i64 0, .i .i64 0, .i .i64 0, .i .i64 0, .i .i64 0, .sl none 0, .sl none 0, .sl none 0, .sl none 0, .sl none 0]]⟩ ∧ ∀ tm : Ab.T, tm 5 = .int c → tm 4 = .ptr (H.length + 2) 0 0 → Q .ret tm (HX.set (H.length + 2) (some ⟨44, .wr, [L]⟩)) := by
    intro HX y c L h1 hb h
    obtain ⟨l', w1, w2, w3, w4, w5, w6, w7⟩ := done HX y c h1 h
    rw [hb] at w1
    injection w1 with w1
    simp only [Blk.mk.injEq, List.cons.injEq, and_true, true_and] at w1
    subst w1
    exact ⟨w4, w5, w6, w7⟩
  have same : ∀ (G : Heap) (c : Int) (_ : R = (x, c)) (tm : Ab.T), tm 5 = .int c → tm 4 = .ptr (H.length + 2) 0 0 → Q .ret tm ((X ++ G).set (H.length + 2) (some ⟨44, .wr, [[.i .i64 x.id, .i .i64 x.ports, .i .i64 x.reg.epoch, .i .i64 x.reg.owner, .i .i64 x.reg.pair, q0, q1, q2, q3, q4]]⟩)) := by
    intro G c h1 tm t5 t4
    obtain ⟨l', w1, -, -, -, -, -, w7⟩ := done (X ++ G) x c h1 (BoxTo.app b0 hI1 hid G)
    rw [blkAt_app b0] at w1
    injection w1 with w1
    simp only [Blk.mk.injEq, List.cons.injEq, and_true, true_and] at w1
    subst w1
    exact w7 tm t5 t4
  have same0 : ∀ (c : Int) (_ : R = (x, c)) (tm : Ab.T), tm 5 = .int c → tm 4 = .ptr (H.length + 2) 0 0 → Q .ret tm (X.set (H.length + 2) (some ⟨44, .wr, [[.i .i64 x.id, .i .i64 x.ports, .i .i64 x.reg.epoch, .i .i64 x.reg.owner, .i .i64 x.reg.pair, q0, q1, q2, q3, q4]]⟩)) := by
    intro c h1 tm t5 t4
    have := same [] c h1 tm t5 t4
    rwa [List.append_nil] at this
  have sub : ∀ (HZ : Heap) (lz : List Lf) (y : Box), BoxVal X HZ fp lz y → lz.length = 10 ∧ lz.take 10 = lz ∧ blkAt HZ (H.length + 2) = some ⟨44, .wr, [[.i .i64 0, .i .i64 0, .i .i64 0, .i .i64 0, .i .i64 0, .sl none 0, .sl none 0, .sl none 0, .sl none 0, .sl none 0]]⟩ ∧ H.length + 2 < HZ.length ∧ True ∧ ∀ (G : Heap) (c : Int), R = (y, c) → ∀ tm : Ab.T, tm 5 = .int c → tm 4 = .ptr (H.length + 2) 0 0 → Q .ret tm (HZ.set (H.length + 2) (some ⟨44, .wr, [lz]⟩) ++ G) := by
    intro HZ lz y bv
    have hl := bv.len
    obtain ⟨fp', z1, z2, z3⟩ := bv
    have hzz := z2.blk bz (fun h => off 2 (by omega) (by simp [h]))
    have dzz := blkAt_len hzz
    refine ⟨hl, by rw [← hl]; exact List.take_length, hzz, dzz, trivial, fun G c hr tm t5 t4 => ?_⟩
    have hnf : ∀ i ∈ fp', i ∉ [H.length + 2] := fun i hi hj => by
      simp at hj
      rcases z3 i hi with h | h
      · have := hlt i h; omega
      · omega
    refine fin _ tm c y lz hr ⟨fp', (z1.keep (Keep.set _ _) hnf).app G, ?_, fun i hi => ?_⟩ t5 t4 (blkAt_app (blkAt_set dzz) G)
    · exact (((kX.trans z2 (by simp) (fun _ h _ => h)).trans (Keep.set _ _) (fun _ h _ => h) (fun i hi hlt => by simp at hi; omega))).trans (Keep.app [] _ G) (fun _ h _ => h) (by simp)
    · rcases z3 i hi with h | h
      · exact .inl h
      · exact .inr (by have := kX.1; omega)
  have hD := deedD.eq_1 x d
  rw [← hR] at hD
  have hIn := l15In hI1 hok d
  have hSay := l15Say hI1 hok hxok
  have hNet := l15Net hI1 hok hxok d
  simp only [Box.enc, Deed.enc] at hIn hSay hNet
  by_cases c1 : d.kind = 1
  · rw [if_pos c1] at hD
    simp [c1, b0, d0, bD, dD] at hIn ⊢
    refine stpL_runs (hIn) ?_
    rintro _ HZ ⟨lz, rfl, bv⟩
    obtain ⟨x1, x2, x3, x4, x5, x6⟩ := sub HZ lz _ bv
    simp [x1, x2, x3, x4]
    exact x6 _ (inD x d.inn).2 hD _ (by simp) (by simp)
  rw [if_neg c1] at hD
  by_cases c6 : d.kind = 6
  · rw [if_pos c6] at hD
    simp [c6, b0, d0, bD, dD]
    refine stpL_runs (hSay) ?_
    rintro _ HZ ⟨lz, rfl, bv⟩
    obtain ⟨x1, x2, x3, x4, x5, x6⟩ := sub HZ lz _ bv
    simp [x1, x2, x3, x4]
    exact x6 _ (sayD x).2 hD _ (by simp) (by simp)
  rw [if_neg c6] at hD
  by_cases c345 : d.kind = 3 ∨ d.kind = 4 ∨ d.kind = 5
  · rw [if_pos c345] at hD
    have hNet := hNet c345
    rcases c345 with c | c | c
    all_goals
      rw [c] at hNet
      simp [c, b0, d0, bD, dD]
      refine stpL_runs (hNet) ?_
      rintro _ HZ ⟨lz, rfl, bv⟩
      obtain ⟨x1, x2, x3, x4, x5, x6⟩ := sub HZ lz _ bv
      simp [x1, x2, x3, x4]
      exact x6 _ (onWireD x d).2 hD _ (by simp) (by simp)
  rw [if_neg c345] at hD
  have c3 : ¬ d.kind = 3 := fun h => c345 (.inl h)
  have c4 : ¬ d.kind = 4 := fun h => c345 (.inr (.inl h))
  have c5 : ¬ d.kind = 5 := fun h => c345 (.inr (.inr h))
  simp [c1, c6, c3, c4, c5, l1In, bD, dD]
  by_cases hs01 : 0 ≤ d.a ∧ d.a ≤ 1
  · rw [if_neg (by simpa using hs01)] at hD
    obtain ⟨s, hs2, hda⟩ : ∃ s : Nat, s < 2 ∧ d.a = (s : Int) := ⟨d.a.toNat, by omega, by omega⟩
    have h01 : (!decide (0 ≤ d.a) || !decide (d.a ≤ 1)) = false := by simp [hs01]
    rw [h01]
    have hShip := l15Ship hI1 hok hxok s hs2
    have hFall := l15Fall hI1 hok hxok d hs2 hda
    have hReg := l15Reg hI1 hok hxok d hs2 hda
    simp only [Box.enc, Deed.enc] at hShip hFall hReg
    have hD2 := onMinderD.eq_1 x d
    by_cases c2 : d.kind = 2
    · rw [hD2, if_pos c2, hda] at hD
      simp [c2, b0, d0, bD, dD, hda]
      refine stpL_runs (hShip) ?_
      rintro _ HZ ⟨lz, rfl, bv⟩
      obtain ⟨x1, x2, x3, x4, x5, x6⟩ := sub HZ lz _ bv
      simp [x1, x2, x3, x4]
      exact x6 _ (shipD x s).2 hD _ (by simp) (by simp)
    by_cases c7 : d.kind = 7 ∨ d.kind = 8 ∨ d.kind = 12
    · have hFall := hFall c7
      rcases c7 with c | c | c
      all_goals
        rw [c] at hFall
        simp [c, b0, d0, bD, dD]
        refine stpL_runs (hFall) ?_
        rintro _ HZ ⟨lz, rfl, bv⟩
        obtain ⟨x1, x2, x3, x4, x5, x6⟩ := sub HZ lz _ bv
        simp [x1, x2, x3, x4]
        exact x6 _ (onMinderD x d).2 hD _ (by simp) (by simp)
    have c9 : d.kind = 9 ∨ d.kind = 10 ∨ d.kind = 11 := by omega
    have hReg := hReg c9
    rcases c9 with c | c | c
    all_goals
      rw [c] at hReg
      simp [c, b0, d0, bD, dD]
      refine stpL_runs (hReg) ?_
      rintro _ HZ ⟨lz, rfl, bv⟩
      obtain ⟨x1, x2, x3, x4, x5, x6⟩ := sub HZ lz _ bv
      simp [x1, x2, x3, x4]
      exact x6 _ (onMinderD x d).2 hD _ (by simp) (by simp)
  · rw [if_pos hs01] at hD
    have h01 : (!decide (0 ≤ d.a) || !decide (d.a ≤ 1)) = true := by
      rcases Int.lt_or_le d.a 0 with h | h
      · simp [show ¬ 0 ≤ d.a by omega]
      · simp [show ¬ d.a ≤ 1 by omega]
    rw [h01]
    simp [b0, d0, bz, dz]
    exact same0 2 hD _ (by simp) (by simp)

theorem specDo_is {H : Heap} {l : List Lf} {x : Box} (h : RdBox H l x) (hn : x.sz ≤ 1048576) (d : Deed) :
    Runs env 6 [.agg l, .agg d.enc] H fun v H' => ∃ l' fp, v = .tup [.agg l', .lf (.i .i64 (doIt x d).2)] ∧ IsBox H' l' (doIt x d).1 fp ∧ Fresh H H' fp := by
  have hR := h
  have hD := doIt.eq_1 x d
  have e1 := fun G => specBoxOk_is (hR.app G) (by omega)
  obtain ⟨q0, q1, q2, q3, q4, rfl⟩ : ∃ q0 q1 q2 q3 q4, l = x.enc q0 q1 q2 q3 q4 := by
    obtain ⟨q0, q1, q2, q3, q4, rfl, -⟩ := h
    exact ⟨q0, q1, q2, q3, q4, rfl⟩
  simp only [Box.enc] at e1
  refine Runs.walk ok6 Tryz.func6 rfl (by simp [Tryz.f6]) fun Q hQ => ?_
  simp only [Tryz.f6, strip, stripL, stripI, stripG, chkT, tagsB, tagsL, tagD, addT, tagA, lookN, tagOp, elmT, ty24, ty25, ty26, ty27, ty28, ty39, ty40, ty41, ty42, ty57, ty59, ty62, ty98, Nat.reduceEqDiff, if_false, reduceIte, Option.getD_some, Option.getD_none, dstAt, dstOk, Nat.reduceLT, decide_true, if_true]
  have fin : ∀ (HF : Heap) (tm : Ab.T) (l' : List Lf) (z : Box) (c' : Int) (f' : List Nat), tm 4 = .ptr (H.length + 2) 0 0 → blkAt HF (H.length + 2) = some ⟨44, .wr, [l']⟩ → IsBox HF l' z f' → tm 5 = .int c' → doIt x d = (z, c') → Keep [] H HF → (∀ i ∈ f', H.length ≤ i) → Q .ret tm HF := by
    intro HF tm l' z c' f' t4 hb4 ho4 t5 hz hK hf
    have hL' := ho4.len
    have hT' : l'.take l'.length = l' := List.take_length
    rw [hL'] at hT'
    refine hQ _ _ _ (by simp) ?_
    have hres : resT env.τ tm HF (Tryz.f6.results.toList) = some [W.agg l', W.lf (.i .i64 c')] := by simp [Tryz.f6, t4, t5, hb4, hL', hT']
    rw [hres, optK_some, hz]
    obtain ⟨fp, h1, h2⟩ := ho4.leave (H := H) (ws := [W.agg l', W.lf (.i .i64 c')]) ⟨hK.ext, hf⟩ (by simp)
    exact ⟨_, fp, rfl, h1, h2⟩
  have boxZ : ∀ G : Heap, IsBox G [.i .i64 0, .i .i64 0, .i .i64 0, .i .i64 0, .i .i64 0, .sl none 0, .sl none 0, .sl none 0, .sl none 0, .sl none 0] ⟨0, 0, ⟨0, 0, 0⟩, [], [], [], [], []⟩ [] := fun G =>
    ⟨.sl none 0, .sl none 0, .sl none 0, .sl none 0, .sl none 0, [], [], [], [], [], rfl, IsL.emp _ _ _, ⟨none, rfl, Own.nil _ _⟩, ⟨none, rfl, Own.nil _ _⟩, ⟨none, rfl, Own.nil _ _⟩, ⟨none, rfl, Own.nil _ _⟩, rfl, by simp⟩
  simp [Box.enc, Deed.enc]
  obtain ⟨X, hX⟩ : ∃ X : Heap, X = H ++ [some ⟨44, .wr, [[.i .i64 x.id, .i .i64 x.ports, .i .i64 x.reg.epoch, .i .i64 x.reg.owner, .i .i64 x.reg.pair, q0, q1, q2, q3, q4]]⟩, some ⟨52, .wr, [[.i .i64 d.kind, .i .i64 d.a, .i .i64 d.inn.kind, .i .i64 d.inn.port, .i .i64 d.inn.vec.root, .i .i64 d.inn.vec.cost, .i .i64 d.inn.vec.bridge, .i .i64 d.inn.vec.port, .i .i64 d.inn.hops, .b d.inn.up]]⟩, some ⟨44, .wr, [[.i .i64 0, .i .i64 0, .i .i64 0, .i .i64 0, .i .i64 0, .sl none 0, .sl none 0, .sl none 0, .sl none 0, .sl none 0]]⟩] := ⟨_, rfl⟩
  have b0 : blkAt X H.length = some ⟨44, .wr, [[.i .i64 x.id, .i .i64 x.ports, .i .i64 x.reg.epoch, .i .i64 x.reg.owner, .i .i64 x.reg.pair, q0, q1, q2, q3, q4]]⟩ := by rw [hX]; simp
  have d0 := blkAt_len b0
  have bz : blkAt X (H.length + 2) = some ⟨44, .wr, [[.i .i64 0, .i .i64 0, .i .i64 0, .i .i64 0, .i .i64 0, .sl none 0, .sl none 0, .sl none 0, .sl none 0, .sl none 0]]⟩ := by rw [hX]; simp
  have dz := blkAt_len bz
  have bD : blkAt X (H.length + 1) = some ⟨52, .wr, [[.i .i64 d.kind, .i .i64 d.a, .i .i64 d.inn.kind, .i .i64 d.inn.port, .i .i64 d.inn.vec.root, .i .i64 d.inn.vec.cost, .i .i64 d.inn.vec.bridge, .i .i64 d.inn.vec.port, .i .i64 d.inn.hops, .b d.inn.up]]⟩ := by rw [hX]; simp
  have dD := blkAt_len bD
  have hlX : X.length = H.length + 3 := by rw [hX]; simp
  have e1X := e1 [some ⟨44, .wr, [[.i .i64 x.id, .i .i64 x.ports, .i .i64 x.reg.epoch, .i .i64 x.reg.owner, .i .i64 x.reg.pair, q0, q1, q2, q3, q4]]⟩, some ⟨52, .wr, [[.i .i64 d.kind, .i .i64 d.a, .i .i64 d.inn.kind, .i .i64 d.inn.port, .i .i64 d.inn.vec.root, .i .i64 d.inn.vec.cost, .i .i64 d.inn.vec.bridge, .i .i64 d.inn.vec.port, .i .i64 d.inn.hops, .b d.inn.up]]⟩, some ⟨44, .wr, [[.i .i64 0, .i .i64 0, .i .i64 0, .i .i64 0, .i .i64 0, .sl none 0, .sl none 0, .sl none 0, .sl none 0, .sl none 0]]⟩]
  rw [← hX] at e1X ⊢
  have kX : Keep [] H X := by rw [hX]; exact Keep.app _ _ _
  have hRX : RdBox X (x.enc q0 q1 q2 q3 q4) x := hR.base kX
  clear hX
  have bad : ∀ tm : Ab.T, ¬ ((1 ≤ d.kind ∧ d.kind ≤ 12) ∧ x.ok = true) → tm 4 = .ptr (H.length + 2) 0 0 → tm 5 = .int 1 → Q .ret tm (X.set (H.length + 2) (some ⟨44, .wr, [[.i .i64 0, .i .i64 0, .i .i64 0, .i .i64 0, .i .i64 0, .sl none 0, .sl none 0, .sl none 0, .sl none 0, .sl none 0]]⟩)) := by
    intro tm hno t4 t5
    rw [if_neg hno] at hD
    exact fin _ tm _ _ 1 [] t4 (blkAt_set dz) (boxZ _) t5 hD (kX.next (Keep.set _ _) (by simp)) (by simp)
  simp [e1X]
  cases hok : x.ok
  · simp [bz, dz]
    exact bad _ (by simp [hok]) (by simp) (by simp)
  simp [bD, dD, l1In]
  by_cases hk : 1 ≤ d.kind ∧ d.kind ≤ 12
  · have hkb : (!decide (1 ≤ d.kind) || !decide (d.kind ≤ 12)) = false := by simp [hk]
    rw [hkb]
    rw [if_pos ⟨hk, hok⟩] at hD
    have hcp := specCopyBox hRX hn
    simp only [Box.enc] at hcp
    simp [b0, d0]
    refine stpL_runs_f hcp (by rintro _ _ ⟨_, _, _, _, hf⟩; exact hf.1) ?_
    rintro _ _ ⟨l1, f1, rfl, o1, ⟨⟨G1, rfl⟩, hf1⟩⟩
    have hsm := (Box.smallOf hok).1
    have h15 := l15One o1 hsm hok d hk
    simp only [Deed.enc] at h15
    have bDA := blkAt_app bD G1
    have dD2 := blkAt_len bDA
    rw [List.length_append] at dD2
    simp [bDA, dD2]
    refine stpL_runs_w h15 rfl (by rintro _ _ ⟨_, _, _, _, hk, _⟩; have := hk.1; exact this) ?_
    rintro _ H4 ⟨l4, rfl, bv⟩
    obtain ⟨f4, o4, k4, hf4⟩ := bv
    obtain ⟨y, hy⟩ : ∃ y, y = (deedD x d).1 := ⟨_, rfl⟩
    obtain ⟨c, hc⟩ : ∃ c, c = (deedD x d).2 := ⟨_, rfl⟩
    have hsy := (deedD_small hok d).sz
    rw [← hy] at hsy o4
    rw [← hc]
    rw [doR, ← hy, ← hc] at hD
    have hno : ∀ i, i < X.length → i ∉ f1 := fun i hi hj => by have := hf1 i hj; omega
    have k3 : Keep [] X H4 := (Keep.app [] X G1).next k4 (fun i hi => hf1 i hi)
    have b04 := k3.blk b0 (by simp)
    have bz4 := k3.blk bz (by simp)
    have d04 := blkAt_len b04
    have dz4 := blkAt_len bz4
    have hL4 := o4.len
    have hT4 : l4.take l4.length = l4 := List.take_length
    rw [hL4] at hT4
    have hf40 : ∀ i ∈ f4, H.length + 3 ≤ i := fun i hi => by
      rcases hf4 i hi with h | h
      · have := hf1 i h; omega
      · rw [List.length_append] at h; omega
    have e2 := fun G => specBoxOk_is (o4.app G).rd (by omega)
    have k04 : Keep [] H H4 := kX.next k3 (by simp)
    have b04A := fun G => blkAt_app b04 G
    have bz4A := fun G => blkAt_app bz4 G
    have g1 : H.length < H4.length + 1 := by omega
    have g2 : H.length + 2 < H4.length + 1 := by omega
    simp [hL4, hT4]
    by_cases hc0 : c = 0
    · rw [if_pos hc0] at hD
      cases hyo : y.ok
      · rw [if_neg (by simp [hyo])] at hD
        simp [hc0, hL4, hT4, e2, hyo, b04A, g1]
        have hcp2 := fun G => specCopyBox (hR.base (k04.next (Keep.app [] H4 G) (by simp))) hn
        simp only [Box.enc] at hcp2
        refine stpL_runs (hcp2 _) ?_
        rintro _ _ ⟨l5, f5, rfl, o5, ⟨⟨G5, rfl⟩, hf5⟩⟩
        have hL5 := o5.len
        have hT5 : l5.take l5.length = l5 := List.take_length
        rw [hL5] at hT5
        have o5' := o5
        simp only [List.append_assoc, List.cons_append, List.nil_append] at o5'
        have hb5 := fun G => blkAt_app bz4 G
        have d5 : H.length + 2 < H4.length + (G5.length + 1) := by omega
        simp [hb5, d5, hL5, hT5]
        refine fin _ _ l5 x 4 f5 ?_ (blkAt_set (by simp; omega)) (o5'.keep (Keep.set _ _) (fun i hi hj => by have := hf5 i hi; simp at hj this; omega)) ?_ hD ((k04.next (Keep.app [] _ _) (by simp)).next (Keep.set _ _) (by simp)) (fun i hi => by have := hf5 i hi; have := k04.1; simp only [List.length_append] at *; omega)
        · simp
        · simp
      · rw [if_pos hyo] at hD
        simp [hc0, hL4, hT4, e2, hyo, bz4A, g2]
        refine fin _ _ l4 y 0 f4 ?_ (blkAt_set (by simp; omega)) ((o4.app _).keep (Keep.set _ _) (fun i hi hj => by have := hf40 i hi; simp at hj; omega)) ?_ hD ((k04.next (Keep.app [] _ _) (by simp)).next (Keep.set _ _) (by simp)) (fun i hi => by have := hf40 i hi; omega)
        · simp
        · simp
    · rw [if_neg hc0] at hD
      simp [hc0, b04A, g1]
      have hcp2 := fun G => specCopyBox (hR.base (k04.next (Keep.app [] H4 G) (by simp))) hn
      simp only [Box.enc] at hcp2
      refine stpL_runs (hcp2 _) ?_
      rintro _ _ ⟨l5, f5, rfl, o5, ⟨⟨G5, rfl⟩, hf5⟩⟩
      have hL5 := o5.len
      have hT5 : l5.take l5.length = l5 := List.take_length
      rw [hL5] at hT5
      have o5' := o5
      simp only [List.append_assoc, List.cons_append, List.nil_append] at o5'
      have hb5 := fun G => blkAt_app bz4 G
      have d5 : H.length + 2 < H4.length + (G5.length + 1) := by omega
      simp [hb5, d5, hL5, hT5]
      refine fin _ _ l5 x c f5 ?_ (blkAt_set (by simp; omega)) (o5'.keep (Keep.set _ _) (fun i hi hj => by have := hf5 i hi; simp at hj this; omega)) ?_ hD ((k04.next (Keep.app [] _ _) (by simp)).next (Keep.set _ _) (by simp)) (fun i hi => by have := hf5 i hi; have := k04.1; simp only [List.length_append] at *; omega)
      · simp
      · simp
  · have hkb : (!decide (1 ≤ d.kind) || !decide (d.kind ≤ 12)) = true := by
      rcases Int.lt_or_le d.kind 1 with h | h
      · simp [show ¬ 1 ≤ d.kind by omega]
      · simp [show ¬ d.kind ≤ 12 by omega]
    rw [hkb]
    simp [bz, dz]
    exact bad _ (fun h => hk h.1) (by simp) (by simp)

def foldP (x : Box) (list : List Deed) (i : Nat) : Box × List Int := (list.take i).foldl stepAll (x, [])
theorem foldP_zero (x : Box) (list : List Deed) : foldP x list 0 = (x, []) := rfl
theorem foldP_step (x : Box) (list : List Deed) {i : Nat} (h : i < list.length) : foldP x list (i + 1) = stepAll (foldP x list i) list[i] := by
  unfold foldP
  rw [List.take_add_one, List.getElem?_eq_getElem h, List.foldl_append]; rfl
theorem doIt_ok {x : Box} {d : Deed} (h : (doIt x d).2 = 0) : (doIt x d).1.ok = true := by
  unfold doIt at h ⊢
  split at h
  · rename_i hk
    rw [if_pos hk]
    unfold doR at h ⊢
    split at h
    · rename_i h2
      rw [if_pos h2]
      split at h
      · rename_i h3; rw [if_pos h3]; exact h3
      · exact absurd h (by simp)
    · rename_i h2; exact absurd h h2
  · exact absurd h (by simp)
theorem foldP_ok {x : Box} (list : List Deed) (hok : x.ok = true) : ∀ i, i ≤ list.length → (foldP x list i).1.ok = true
  | 0, _ => hok
  | i + 1, h => by
    rw [foldP_step x list (by omega)]
    unfold stepAll
    dsimp only
    split
    · rename_i h0; exact doIt_ok h0
    · exact foldP_ok list hok i (by omega)
theorem foldP_len (x : Box) (list : List Deed) : ∀ i, i ≤ list.length → (foldP x list i).2.length = i
  | 0, _ => rfl
  | i + 1, h => by
    rw [foldP_step x list (by omega)]
    simp [stepAll, foldP_len x list i (by omega)]
theorem doAll_yes {x : Box} {list : List Deed} (hl : list.length ≤ 300) (hok : x.ok = true) : doAll x list = foldP x list list.length := by
  rw [doAll, if_neg (by rw [hok]; simp; omega), foldP, List.take_length]
theorem doAll_sz0 {x : Box} {list : List Deed} (hn : x.sz ≤ 1048576) (_ : list.length ≤ 1048576) : ((doAll x list).1).sz ≤ 1048576 := by
  by_cases h : list.length ≤ 300 ∧ x.ok = true
  · rw [doAll_yes h.1 h.2]
    have := (Box.smallOf (foldP_ok list h.2 list.length (Nat.le_refl _))).1.sz
    omega
  · rw [doAll, if_pos (by
      cases hx : x.ok
      · exact .inr rfl
      · exact .inl (by have : ¬ list.length ≤ 300 := fun hl => h ⟨hl, hx⟩; omega))]
    exact hn
theorem doAll_sz1 {x : Box} {list : List Deed} (_ : x.sz ≤ 1048576) (_ : list.length ≤ 1048576) : ((doAll x list).2).length ≤ 1048576 := by
  by_cases h : list.length ≤ 300 ∧ x.ok = true
  · rw [doAll_yes h.1 h.2, foldP_len _ _ _ (Nat.le_refl _)]
    omega
  · rw [doAll, if_pos (by
      cases hx : x.ok
      · exact .inr rfl
      · exact .inl (by have : ¬ list.length ≤ 300 := fun hl => h ⟨hl, hx⟩; omega))]
    simp
end W
end Go.Proofs.YtafakoecgaijoaaGreat
