/- The functions that this law reaches: what each computes. Conditions: those that each theorem names. -/
import Derived.Test.YtdojljjiekgapaaGreatDoorWalkShown
set_option maxRecDepth 100000
set_option maxHeartbeats 4000000
set_option linter.unusedSimpArgs false
set_option linter.unusedVariables false
set_option linter.unnecessarySimpa false
namespace Go.Proofs.YtdojljjiekgapaaGreatDoor
open Go Go.Ab Go.ChangeShapes Go.WideShapes Go.ChangeAt Go.RowKit
namespace W
def gateStep (gs : List Bool) (o : Out) : List Bool := if o.kind = 2 ∧ 0 ≤ o.port ∧ o.port ≤ (gs.length : Int) - 1 then gs.set o.port.toNat o.on else gs
def acceptB (x : Box) (list : List Out) : Box := ⟨x.id, x.ports, x.reg, x.two, x.net, list.foldl gateStep x.gates, x.line, lastL (x.said ++ list)⟩
def accept (x : Box) (s : Int) (list : List Out) : Box := if mindsAt x s = true then acceptB x list else x
theorem gateStep_len (gs : List Bool) (o : Out) : (gateStep gs o).length = gs.length := by unfold gateStep; split <;> simp
theorem accGates_len (list : List Out) : ∀ gs : List Bool, (list.foldl gateStep gs).length = gs.length := by
  induction list with
  | nil => intro gs; rfl
  | cons o os ih => intro gs; rw [List.foldl_cons, ih, gateStep_len]
theorem gates_step (list : List Out) (gs : List Bool) {i : Nat} (h : i < list.length) : (list.take (i + 1)).foldl gateStep gs = gateStep ((list.take i).foldl gateStep gs) list[i] := by
  rw [List.take_add_one, List.getElem?_eq_getElem h, List.foldl_append]
  rfl
theorem lastL_len (l : List Out) : (lastL l).length ≤ 40 ∧ (lastL l).length ≤ l.length := by unfold lastL; simp; omega
theorem acceptB_sz {x : Box} {list : List Out} (hn : x.sz ≤ 1048576) (hl : x.sz + list.length ≤ 1048576) : (acceptB x list).sz ≤ 1048576 := by
  have := accGates_len list x.gates
  have h2 := lastL_len (x.said ++ list)
  rw [List.length_append] at h2
  unfold Box.sz at hn hl ⊢
  simp only [acceptB]
  omega
theorem accept_sz0 {x : Box} {s : Int} {list : List Out} (hl : x.sz + list.length ≤ 1048576) : (accept x s list).sz ≤ 1048576 := by
  unfold accept
  split
  · exact acceptB_sz (by omega) hl
  · omega

theorem specAccept_is {H : Heap} {l : List Lf} {x : Box} (h : RdBox H l x) (hn : x.sz ≤ 1048576) {q : Lf} {list : List Out} (hl : RdOutS H q list) (hln : list.length ≤ 1048576) (s : Int) (_ : I64 s) :
    Runs env 99 [.agg l, .int s, .w (.lf q)] H fun v H' => ∃ l' fp, v = .agg l' ∧ IsBox H' l' (accept x s list) fp ∧ Fresh H H' fp := by
  have hR := h
  have hL0 := h.len
  have hT0 : l.take l.length = l := List.take_length
  rw [hL0] at hT0
  obtain ⟨a, rfl, hsl⟩ := hl
  have e1 := fun G => l14Minds (hR.app G) hn s
  refine Runs.walk ok99 Tryz.func99 rfl (by simp [Tryz.f99]) fun Q hQ => ?_
  simp only [Tryz.f99, strip, stripL, stripI, stripG, chkT, tagsB, tagsL, tagD, addT, tagA, lookN, tagOp, elmT, ty22, ty29, ty33, ty39, ty40, ty41, ty42, ty69, ty71, ty95, Nat.reduceEqDiff, if_false, reduceIte, Option.getD_some, Option.getD_none, dstAt, dstOk, Nat.reduceLT, decide_true, if_true]
  simp [hL0, hT0]
  refine stpL_runs (specCopyBox (hR.app _) hn) ?_
  rintro _ _ ⟨l1, f1, rfl, o1, ⟨⟨G1, rfl⟩, hf1⟩⟩
  have hL1 := o1.len
  have hT1 : l1.take l1.length = l1 := List.take_length
  rw [hL1] at hT1
  have hlt1 := o1.lt
  have o1' := o1.app [some ⟨44, .wr, [l1]⟩]
  simp only [List.append_assoc, List.cons_append, List.nil_append] at o1'
  simp [hL0, hT0, hL1, hT1, e1]
  obtain ⟨H3, hH3⟩ : ∃ H3 : Heap, H3 = H ++ some ⟨44, .wr, [l]⟩ :: some ⟨44, .wr, [[.i .i64 0, .i .i64 0, .i .i64 0, .i .i64 0, .i .i64 0, .sl none 0, .sl none 0, .sl none 0, .sl none 0, .sl none 0]]⟩ :: (G1 ++ [some ⟨44, .wr, [l1]⟩]) := ⟨_, rfl⟩
  have b2 : blkAt H3 (H.length + 1) = some ⟨44, .wr, [[.i .i64 0, .i .i64 0, .i .i64 0, .i .i64 0, .i .i64 0, .sl none 0, .sl none 0, .sl none 0, .sl none 0, .sl none 0]]⟩ := by rw [hH3]; simp
  obtain ⟨K7, hK7⟩ : ∃ K7, K7 = H.length + (G1.length + 2) := ⟨_, rfl⟩
  have b7 : blkAt H3 K7 = some ⟨44, .wr, [l1]⟩ := by rw [hH3, hK7]; simp
  have o3 : IsBox H3 l1 x f1 := by rw [hH3]; exact o1'
  have k03 : Keep [] H H3 := by rw [hH3]; exact Keep.app _ _ _
  have n7 : ∀ i ∈ f1, H.length + 2 ≤ i ∧ i < K7 := fun i hi => by have h1 := hf1 _ hi; have h2 := hlt1 _ hi; simp only [List.length_append, List.length_cons, List.length_nil] at h1 h2; omega
  have d2 := blkAt_len b2
  have d7 := blkAt_len b7
  have hK7g : H.length + 2 ≤ K7 := by omega
  have hl3 : H3.length = K7 + 1 := by rw [hH3, hK7]; simp
  rw [← hH3, ← hK7]
  clear hH3 o1 o1' hf1 hlt1 hK7
  have fin : ∀ (HF : Heap) (tm : Ab.T) (l' : List Lf) (y : Box) (f' : List Nat), tm 6 = .ptr (H.length + 1) 0 0 → blkAt HF (H.length + 1) = some ⟨44, .wr, [l']⟩ → IsBox HF l' y f' → y = accept x s list → Keep [] H HF → (∀ i ∈ f', H.length ≤ i) → Q .ret tm HF := by
    intro HF tm l' y f' t6 hb4 ho4 hy hK hf
    have hL' := ho4.len
    have hT' : l'.take l'.length = l' := List.take_length
    rw [hL'] at hT'
    refine hQ _ _ _ (by simp) ?_
    have hres : resT env.τ tm HF (Tryz.f99.results.toList) = some [W.agg l'] := by simp [Tryz.f99, t6, hb4, hL', hT']
    rw [hres, optK_some, ← hy]
    obtain ⟨fp, h1, h2⟩ := ho4.leave (H := H) (ws := [W.agg l']) ⟨hK.ext, hf⟩ (by simp)
    exact ⟨_, fp, rfl, h1, h2⟩
  cases hmm : mindsAt x s
  · simp [b2, b7, d2, d7, hL1, hT1]
    exact fin _ _ l1 x f1 (by simp) (blkAt_set d2) (o3.keep (Keep.set _ _) (fun i hi hj => by have := n7 i hi; simp at hj; omega)) (by simp [accept, hmm]) (k03.next (Keep.set _ _) (by simp)) (fun i hi => by have := n7 i hi; omega)
  have hacc : accept x s list = acceptB x list := by simp [accept, hmm]
  rw [hacc] at fin
  obtain ⟨q0, q1, q2, q3, q4, f0, f1', f2, f3, f4, rfl, i0, i1, ⟨a2, rfl, o2⟩, i3, ⟨a4, rfl, o4⟩, rfl, hnd⟩ := o3
  clear hL1 hT1
  unfold Box.sz at hn
  have hsl3 := hsl.keep k03 (by simp)
  have nd0 := List.nodup_append.1 hnd
  have nd1 := List.nodup_append.1 nd0.2.1
  have nd2 := List.nodup_append.1 nd1.2.1
  have nd3 := List.nodup_append.1 nd2.2.1
  have x02 : ∀ i ∈ f0, i ∉ f2 := fun i hi hj => nd0.2.2 i hi i (by simp [hj]) rfl
  have x12 : ∀ i ∈ f1', i ∉ f2 := fun i hi hj => nd1.2.2 i hi i (by simp [hj]) rfl
  have x23 : ∀ i ∈ f3, i ∉ f2 := fun i hi hj => nd2.2.2 i hj i (by simp [hi]) rfl
  have x24 : ∀ i ∈ f4, i ∉ f2 := fun i hi hj => nd2.2.2 i hj i (by simp [hi]) rfl
  have x04 : ∀ i ∈ f0, i ∉ f4 := fun i hi hj => nd0.2.2 i hi i (by simp [hj]) rfl
  have x14 : ∀ i ∈ f1', i ∉ f4 := fun i hi hj => nd1.2.2 i hi i (by simp [hj]) rfl
  have x34 : ∀ i ∈ f3, i ∉ f4 := fun i hi hj => nd3.2.2 i hi i hj rfl
  have m2 : ∀ i ∈ f2, H.length + 2 ≤ i ∧ i < K7 := fun i hi => n7 i (by simp [hi])
  have m4 : ∀ i ∈ f4, H.length + 2 ≤ i ∧ i < K7 := fun i hi => n7 i (by simp [hi])
  have hslk : ∀ H', Keep (K7 :: (f2 ++ f4)) H3 H' → Sl H' 110 a (list.map Out.enc) := fun H' hk => by
    by_cases hx : list = []
    · subst hx; exact fun i row h => by simp at h
    · refine hsl3.keep hk (fun i r h hi => ?_)
      have := Sl.len (by rw [h] at hsl; exact hsl) (by simpa using hx)
      simp at hi
      rcases hi with rfl | hi | hi
      · omega
      · have := m2 i hi; omega
      · have := m4 i hi; omega
  simp [Box.enc] at b7
  simp
  refine wpS_loop (fun j tm H' => ∃ i a5 f5, i + j = list.length ∧ tm 2 = .w (.lf (.sl a list.length)) ∧ tm 6 = .ptr (H.length + 1) 0 0 ∧ tm 7 = .ptr K7 0 0 ∧ tm 8 = .int i ∧ blkAt H' K7 = some ⟨44, .wr, [[.i .i64 x.id, .i .i64 x.ports, .i .i64 x.reg.epoch, .i .i64 x.reg.owner, .i .i64 x.reg.pair, q0, q1, .sl a2 x.gates.length, q3, .sl a5 (x.said.length + i)]]⟩ ∧ Own H' 4 a2 (((list.take i).foldl gateStep x.gates).map encB) f2 ∧ Own H' 110 a5 ((x.said ++ list.take i).map Out.enc) f5 ∧ (∀ j ∈ f5, j ∈ f4 ∨ H3.length ≤ j) ∧ Keep (K7 :: (f2 ++ f4)) H3 H') list.length (by rw [env_K]; omega)
    ⟨0, a4, f4, by simp, by simp, by simp, by simp, by simp, by simpa using b7, by simpa using o2, by simpa using o4, fun j hj => .inl hj, Keep.refl _ _⟩ ?_
  rintro j tm H1 hj ⟨i, a5, f5, hij, t2, t6, t7, t8, c7, ho, ho5, hf5, hK⟩ Q2 hn2 he2 hr2
  have d7' := blkAt_len c7
  have h31 := hK.1
  have hgl := accGates_len (list.take i) x.gates
  simp [t2, t8, builtinV, pureB, lenV]
  refine selS_intro (fun hc => ?_) (fun hc => ?_)
  · simp at hc
    obtain ⟨id2, r, bl, rfl, hbl, hbe, hrow⟩ := hslk H1 hK i _ (by simp [hc]; rfl)
    have hid2 := blkAt_len hbl
    have g4 : IntKind.i64.wrap ((i : Int) + 1) = (i : Int) + 1 := wrap64 (by omega) (by omega)
    have g5 : IntKind.i64.wrap ((x.gates.length : Int) - 1) = (x.gates.length : Int) - 1 := wrap64 (by omega) (by omega)
    have hst := gates_step list x.gates hc
    have htk : list.take (i + 1) = list.take i ++ [list[i]] := by rw [List.take_add_one, List.getElem?_eq_getElem hc]; rfl
    obtain ⟨gs, hgs⟩ : ∃ gs, gs = (list.take i).foldl gateStep x.gates := ⟨_, rfl⟩
    rw [← hgs] at ho hst hgl
    obtain ⟨o, hoo⟩ : ∃ o, o = list[i] := ⟨_, rfl⟩
    rw [← hoo] at hst hrow htk
    have hfx : ∀ j ∈ f5, j ∉ f2 ∧ j ≠ K7 := fun j hj => by
      rcases hf5 j hj with h | h
      · exact ⟨x24 j h, by have := m4 j h; omega⟩
      · exact ⟨fun h2 => by have := m2 j h2; omega, by omega⟩
    simp [t2, t7, t8, indexAddrV, elemIs, hid2, hbl, hbe, hc, hrow, Out.enc]
    have hne7 : id2 ≠ K7 := by
      have h1 := Sl.len hsl (by simp; intro h; rw [h] at hc; simp at hc)
      omega
    by_cases hk : o.kind = 2
    · simp [hk, t2, t7, t8, c7, d7', indexAddrV, elemIs, hid2, hbl, hbe, hc, hrow, Out.enc, builtinV, pureB, lenV, g5, l1In]
      by_cases hp : 0 ≤ o.port ∧ o.port ≤ (x.gates.length : Int) - 1
      · obtain ⟨k, hkp⟩ : ∃ k : Nat, o.port = k := ⟨o.port.toNat, by omega⟩
        have hkl : k < gs.length := by omega
        have hkl2 : k < x.gates.length := by omega
        obtain ⟨pid, pb, rfl, rfl, hpb, hpe, hpm, hpre⟩ := ho.blk (by intro h; have := congrArg List.length h; simp only [List.length_map, List.length_nil] at this; omega)
        have hpl := blkAt_len hpb
        obtain ⟨t, ht⟩ := hpre
        have hrw0 : pb.rows[k]? = some (encB gs[k]) := by
          rw [← ht, List.getElem?_append_left (by simp; omega), List.getElem?_map, List.getElem?_eq_getElem hkl]; rfl
        obtain ⟨hrl, hrw⟩ := List.getElem?_eq_some_iff.1 hrw0
        have hkI : (k : Int) < (x.gates.length : Int) := by omega
        have hpp : o.port ≤ (x.gates.length : Int) - 1 := hp.2
        have hpp0 := hpp
        rw [hkp] at hpp
        have hgst : gateStep gs o = gs.set k o.on := by
          unfold gateStep
          rw [if_pos ⟨hk, by omega, by omega⟩, hkp]; simp
        have hpid := m2 pid (by simp)
        have hidp : id2 ≠ pid := by
          have h1 := Sl.len hsl (by simp; intro h; rw [h] at hc; simp at hc)
          omega
        simp [hkp, hpp, t2, t7, t8, c7, d7', indexAddrV, elemIs, hid2, hbl, hbe, hc, hrow, Out.enc, hpl, hpb, hpe, hpm, hkI, hkl2, hrl, hrw, encB]
        obtain ⟨HP, hHP0⟩ : ∃ HP : Heap, HP = H1.set pid (some ⟨4, .wr, pb.rows.set k [.b o.on]⟩) := ⟨_, rfl⟩
        have kP : Keep [pid] H1 HP := by rw [hHP0]; exact Keep.set _ _
        have oP : Own HP 4 (some (pid, 0)) ((gateStep gs o).map encB) [pid] := by
          have := ho.set (row := encB o.on) hpb (i := k) (by simp; omega)
          rw [hpm, hpe] at this
          rw [hHP0, hgst, List.map_set]
          simpa [encB] using this
        have c7P := kP.blk c7 (by simp; omega)
        have d7P := blkAt_len c7P
        have hblP := kP.blk hbl (by simp; exact hidp)
        have hid2P := blkAt_len hblP
        have o5P := ho5.keep kP (fun i hi => (hfx i hi).1)
        rw [← hHP0]
        clear hHP0
        simp [t2, t7, t8, c7P, d7P, indexAddrV, elemIs, hid2P, hblP, hbe, hc, hrow, Out.enc]
        refine stpL_append (rows := (x.said ++ list.take i).map Out.enc) (ys := [[.i .i64 o.kind, .i .i64 o.port, .i .i64 o.vec.root, .i .i64 o.vec.cost, .i .i64 o.vec.bridge, .i .i64 o.vec.port, .i .i64 o.hops, .b o.on]]) (o5P.app _) (Sl.of (by simp)) rfl rfl rfl (by simp) (by simp; omega) (by simp; omega) rfl fun a'' H'' fp'' ho'' hk'' hf'' => ?_
        have c7'' := hk''.blk (blkAt_app c7P _) (fun h => (hfx _ h).2 rfl)
        have d7'' := blkAt_len c7''
        have hHP : H1.length ≤ HP.length := kP.1
        have ks := fun y => Keep.set (id := K7) H'' y
        have kA : Keep (K7 :: ([pid] ++ f4)) H3 H'' := by
          have z1 := hK.trans (h := K7 :: ([pid] ++ f4)) kP (fun _ h _ => h) (fun i h _ => by simp at h; simp [h])
          have z2 := z1.trans (h := K7 :: ([pid] ++ f4)) (Keep.app [] HP [some ⟨110, .wr, [[.i .i64 o.kind, .i .i64 o.port, .i .i64 o.vec.root, .i .i64 o.vec.cost, .i .i64 o.vec.bridge, .i .i64 o.vec.port, .i .i64 o.hops, .b o.on]]⟩]) (fun _ h _ => h) (by simp)
          exact z2.trans (h := K7 :: ([pid] ++ f4)) hk'' (fun _ h _ => h) (fun i h hl => by
            rcases hf5 i h with h | h
            · simp [h]
            · omega)
        simp [t2, t6, t7, t8, c7'', d7'', g4]
        refine hn2 (j - 1) _ _ (by omega) ⟨i + 1, a'', fp'', by omega, by simp [t2], by simp [t6], by simp [t7], by simp, by rw [blkAt_set d7'', Nat.add_assoc], ?_, ?_, fun j hj => ?_, kA.trans (h := K7 :: ([pid] ++ f4)) (ks _) (fun _ h _ => h) (fun i h _ => by simp at h; simp [h])⟩
        · rw [hst]
          exact ((oP.app _).keep hk'' (fun i hi hj => (hfx i hj).1 hi)).keep (ks _) (fun i hi hj => by have := m2 i hi; simp at hj; omega)
        · rw [htk, ← List.append_assoc, List.map_append]
          refine Own.keep (f := [K7]) (by simpa [Out.enc] using ho'') (ks _) (fun i hi hj => ?_)
          simp at hj
          rcases hf'' i hi with h | h
          · exact (hfx i h).2 hj
          · rw [List.length_append] at h; omega
        · rcases hf'' j hj with h | h
          · exact hf5 j h
          · rw [List.length_append] at h; exact .inr (by omega)
      · have hpf : (decide (0 ≤ o.port) && decide (o.port ≤ (x.gates.length : Int) - 1)) = false := by rw [Bool.and_eq_false_iff]; simp; omega
        have hsame : Own H1 4 a2 ((gateStep gs o).map encB) f2 := by
          unfold gateStep
          rw [if_neg (by rintro ⟨-, h1, h2⟩; omega)]
          exact ho
        simp [hpf]
        simp [t2, t7, t8, c7, d7', indexAddrV, elemIs, hid2, hbl, hbe, hc, hrow, Out.enc]
        refine stpL_append (rows := (x.said ++ list.take i).map Out.enc) (ys := [[.i .i64 o.kind, .i .i64 o.port, .i .i64 o.vec.root, .i .i64 o.vec.cost, .i .i64 o.vec.bridge, .i .i64 o.vec.port, .i .i64 o.hops, .b o.on]]) (ho5.app _) (Sl.of (by simp)) rfl rfl rfl (by simp) (by simp; omega) (by simp; omega) rfl fun a'' H'' fp'' ho'' hk'' hf'' => ?_
        have c7'' := hk''.blk (blkAt_app c7 _) (fun h => (hfx _ h).2 rfl)
        have d7'' := blkAt_len c7''
        have hHP : H1.length ≤ H1.length := (Keep.refl f2 H1).1
        have ks := fun y => Keep.set (id := K7) H'' y
        have kA : Keep (K7 :: (f2 ++ f4)) H3 H'' := by
          have z1 := hK.trans (h := K7 :: (f2 ++ f4)) (Keep.refl f2 H1) (fun _ h _ => h) (fun i h _ => by simp [h])
          have z2 := z1.trans (h := K7 :: (f2 ++ f4)) (Keep.app [] H1 [some ⟨110, .wr, [[.i .i64 o.kind, .i .i64 o.port, .i .i64 o.vec.root, .i .i64 o.vec.cost, .i .i64 o.vec.bridge, .i .i64 o.vec.port, .i .i64 o.hops, .b o.on]]⟩]) (fun _ h _ => h) (by simp)
          exact z2.trans (h := K7 :: (f2 ++ f4)) hk'' (fun _ h _ => h) (fun i h hl => by
            rcases hf5 i h with h | h
            · simp [h]
            · omega)
        simp [t2, t6, t7, t8, c7'', d7'', g4]
        refine hn2 (j - 1) _ _ (by omega) ⟨i + 1, a'', fp'', by omega, by simp [t2], by simp [t6], by simp [t7], by simp, by rw [blkAt_set d7'', Nat.add_assoc], ?_, ?_, fun j hj => ?_, kA.trans (h := K7 :: (f2 ++ f4)) (ks _) (fun _ h _ => h) (fun i h _ => by simp at h; simp [h])⟩
        · rw [hst]
          exact ((hsame.app _).keep hk'' (fun i hi hj => (hfx i hj).1 hi)).keep (ks _) (fun i hi hj => by have := m2 i hi; simp at hj; omega)
        · rw [htk, ← List.append_assoc, List.map_append]
          refine Own.keep (f := [K7]) (by simpa [Out.enc] using ho'') (ks _) (fun i hi hj => ?_)
          simp at hj
          rcases hf'' i hi with h | h
          · exact (hfx i h).2 hj
          · rw [List.length_append] at h; omega
        · rcases hf'' j hj with h | h
          · exact hf5 j h
          · rw [List.length_append] at h; exact .inr (by omega)
    · have hsame : Own H1 4 a2 ((gateStep gs o).map encB) f2 := by
        unfold gateStep
        rw [if_neg (by rintro ⟨h1, -⟩; exact hk h1)]
        exact ho
      simp [hk]
      simp [t2, t7, t8, c7, d7', indexAddrV, elemIs, hid2, hbl, hbe, hc, hrow, Out.enc]
      refine stpL_append (rows := (x.said ++ list.take i).map Out.enc) (ys := [[.i .i64 o.kind, .i .i64 o.port, .i .i64 o.vec.root, .i .i64 o.vec.cost, .i .i64 o.vec.bridge, .i .i64 o.vec.port, .i .i64 o.hops, .b o.on]]) (ho5.app _) (Sl.of (by simp)) rfl rfl rfl (by simp) (by simp; omega) (by simp; omega) rfl fun a'' H'' fp'' ho'' hk'' hf'' => ?_
      have c7'' := hk''.blk (blkAt_app c7 _) (fun h => (hfx _ h).2 rfl)
      have d7'' := blkAt_len c7''
      have hHP : H1.length ≤ H1.length := (Keep.refl f2 H1).1
      have ks := fun y => Keep.set (id := K7) H'' y
      have kA : Keep (K7 :: (f2 ++ f4)) H3 H'' := by
        have z1 := hK.trans (h := K7 :: (f2 ++ f4)) (Keep.refl f2 H1) (fun _ h _ => h) (fun i h _ => by simp [h])
        have z2 := z1.trans (h := K7 :: (f2 ++ f4)) (Keep.app [] H1 [some ⟨110, .wr, [[.i .i64 o.kind, .i .i64 o.port, .i .i64 o.vec.root, .i .i64 o.vec.cost, .i .i64 o.vec.bridge, .i .i64 o.vec.port, .i .i64 o.hops, .b o.on]]⟩]) (fun _ h _ => h) (by simp)
        exact z2.trans (h := K7 :: (f2 ++ f4)) hk'' (fun _ h _ => h) (fun i h hl => by
          rcases hf5 i h with h | h
          · simp [h]
          · omega)
      simp [t2, t6, t7, t8, c7'', d7'', g4]
      refine hn2 (j - 1) _ _ (by omega) ⟨i + 1, a'', fp'', by omega, by simp [t2], by simp [t6], by simp [t7], by simp, by rw [blkAt_set d7'', Nat.add_assoc], ?_, ?_, fun j hj => ?_, kA.trans (h := K7 :: (f2 ++ f4)) (ks _) (fun _ h _ => h) (fun i h _ => by simp at h; simp [h])⟩
      · rw [hst]
        exact ((hsame.app _).keep hk'' (fun i hi hj => (hfx i hj).1 hi)).keep (ks _) (fun i hi hj => by have := m2 i hi; simp at hj; omega)
      · rw [htk, ← List.append_assoc, List.map_append]
        refine Own.keep (f := [K7]) (by simpa [Out.enc] using ho'') (ks _) (fun i hi hj => ?_)
        simp at hj
        rcases hf'' i hi with h | h
        · exact (hfx i h).2 hj
        · rw [List.length_append] at h; omega
      · rcases hf'' j hj with h | h
        · exact hf5 j h
        · rw [List.length_append] at h; exact .inr (by omega)
  · simp at hc
    obtain rfl : i = list.length := by omega
    rw [List.take_length] at ho ho5 hgl
    simp [t2, t8]
    refine he2 _ _ _ ?_
    obtain ⟨al, hal⟩ : ∃ al, al = x.said ++ list := ⟨_, rfl⟩
    have hall : al.length = x.said.length + list.length := by rw [hal]; simp
    rw [← hal] at ho5
    have g5 : IntKind.i64.wrap ((al.length : Int) - 40) = (al.length : Int) - 40 := wrap64 (by omega) (by omega)
    rw [← hall] at c7
    have hKH : Keep [] H H1 := k03.next hK (fun i hi => by
      simp at hi
      rcases hi with rfl | hi | hi
      · omega
      · have := m2 i hi; omega
      · have := m4 i hi; omega)
    have last : ∀ (HP : Heap) (tm : Ab.T) (a6 : Option (Nat × Nat)) (f6 : List Nat), tm 6 = .ptr (H.length + 1) 0 0 → blkAt HP K7 = some ⟨44, .wr, [[.i .i64 x.id, .i .i64 x.ports, .i .i64 x.reg.epoch, .i .i64 x.reg.owner, .i .i64 x.reg.pair, q0, q1, .sl a2 x.gates.length, q3, .sl a6 (lastL al).length]]⟩ → Own HP 110 a6 ((lastL al).map Out.enc) f6 → (∀ i ∈ f6, i ∈ f4 ∨ H3.length ≤ i) → Keep (K7 :: f6) H1 HP → Own HP 4 a2 ((list.foldl gateStep x.gates).map encB) f2 → (∀ i ∈ f0 ++ (f1' ++ f3), i ∉ f6) →
        Q .ret tm (HP.set (H.length + 1) (some ⟨44, .wr, [[.i .i64 x.id, .i .i64 x.ports, .i .i64 x.reg.epoch, .i .i64 x.reg.owner, .i .i64 x.reg.pair, q0, q1, .sl a2 x.gates.length, q3, .sl a6 (lastL al).length]]⟩)) := by
      intro HP tm a6 f6 t6 cK o6 hf6 kP oP hdj6
      have hh : ∀ i ∈ f0 ++ (f1' ++ f3), i ∉ K7 :: (f2 ++ f4) := fun i hi hj => by
        simp at hj
        have hi7 : i ∈ f0 ++ (f1' ++ (f2 ++ (f3 ++ f4))) := by simp at hi ⊢; rcases hi with h | h | h <;> simp [h]
        have := n7 i hi7
        simp at hi
        rcases hj with rfl | hj | hj
        · omega
        · rcases hi with h | h | h
          · exact x02 i h hj
          · exact x12 i h hj
          · exact x23 i h hj
        · rcases hi with h | h | h
          · exact x04 i h hj
          · exact x14 i h hj
          · exact x34 i h hj
      have hh6 : ∀ i ∈ f0 ++ (f1' ++ f3), i ∉ K7 :: f6 := fun i hi hj => by
        rcases List.mem_cons.1 hj with rfl | hj
        · exact hh _ hi (by simp)
        · exact hdj6 i hi hj
      have b2' := (kP.blk (hK.blk b2 (by simp; exact ⟨by omega, fun h => by have := m2 _ h; omega, fun h => by have := m4 _ h; omega⟩)) (by
        simp; exact ⟨by omega, fun h => by
          rcases hf6 _ h with h | h
          · have := m4 _ h; omega
          · omega⟩))
      have d2' := blkAt_len b2'
      have kS := Keep.set (id := H.length + 1) HP (some ⟨44, .wr, [[.i .i64 x.id, .i .i64 x.ports, .i .i64 x.reg.epoch, .i .i64 x.reg.owner, .i .i64 x.reg.pair, q0, q1, .sl a2 x.gates.length, q3, .sl a6 (lastL al).length]]⟩)
      have h6g : ∀ i ∈ f6, H.length + 2 ≤ i := fun i hi => by
        rcases hf6 i hi with h | h
        · exact (m4 i h).1
        · omega
      have ns : ∀ i ∈ f0 ++ (f1' ++ f3), i ∉ [H.length + 1] := fun i hi hj => by
        have hi7 : i ∈ f0 ++ (f1' ++ (f2 ++ (f3 ++ f4))) := by simp at hi ⊢; rcases hi with h | h | h <;> simp [h]
        have := n7 i hi7
        simp at hj; omega
      have x26 : ∀ i ∈ f2, i ∉ f6 := fun i hi hj => by
        rcases hf6 i hj with h | h
        · exact x24 i h hi
        · have := m2 i hi; omega
      have p0 := ((i0.keep okMinder hK (fun i hi => hh i (by simp [hi]))).keep okMinder kP (fun i hi => hh6 i (by simp [hi]))).keep okMinder kS (fun i hi => ns i (by simp [hi]))
      have p1 := ((i1.keep hK (fun i hi => hh i (by simp [hi]))).keep kP (fun i hi => hh6 i (by simp [hi]))).keep kS (fun i hi => ns i (by simp [hi]))
      have p2 := oP.keep kS (fun i hi hj => by have := m2 i hi; simp at hj; omega)
      have p3 := ((i3.keep hK (fun i hi => hh i (by simp [hi]))).keep kP (fun i hi => hh6 i (by simp [hi]))).keep kS (fun i hi => ns i (by simp [hi]))
      have p4 := o6.keep kS (fun i hi hj => by have := h6g i hi; simp at hj; omega)
      refine fin _ _ _ (acceptB x list) (f0 ++ (f1' ++ (f2 ++ (f3 ++ f6)))) t6 (blkAt_set d2') ⟨q0, q1, _, q3, _, f0, f1', f2, f3, f6, rfl, p0, p1, ⟨a2, by simp [acceptB, accGates_len], p2⟩, p3, ⟨a6, by simp [acceptB, hal], by simpa [acceptB, hal] using p4⟩, rfl, ?_⟩ rfl (((hKH.next kP (fun i hi => by
        rcases List.mem_cons.1 hi with rfl | hi
        · omega
        · have := h6g i hi; omega)).next kS (by simp))) (fun i hi => by
        simp at hi
        rcases hi with h | h | h | h | h
        · have := n7 i (by simp [h]); omega
        · have := n7 i (by simp [h]); omega
        · have := m2 i h; omega
        · have := n7 i (by simp [h]); omega
        · have := h6g i h; omega)
      refine nodup_app nd0.1 (nodup_app nd1.1 (nodup_app nd2.1 (nodup_app nd3.1 o6.nodup fun i hi hj => hdj6 i (by simp [hi]) hj) fun i hi hj => ?_) fun i hi hj => ?_) fun i hi hj => ?_
      · rcases List.mem_append.1 hj with hj | hj
        · exact x23 i hj hi
        · exact x26 i hi hj
      · rcases List.mem_append.1 hj with hj | hj
        · exact x12 i hi hj
        · rcases List.mem_append.1 hj with hj | hj
          · exact nd1.2.2 i hi i (by simp [hj]) rfl
          · exact hdj6 i (by simp [hi]) hj
      · rcases List.mem_append.1 hj with hj | hj
        · exact nd0.2.2 i hi i (by simp [hj]) rfl
        · rcases List.mem_append.1 hj with hj | hj
          · exact x02 i hi hj
          · rcases List.mem_append.1 hj with hj | hj
            · exact nd0.2.2 i hi i (by simp [hj]) rfl
            · exact hdj6 i (by simp [hi]) hj
    simp [t7, c7, d7', builtinV, pureB, lenV]
    have h07 : ∀ i ∈ f0 ++ (f1' ++ f3), i < K7 := fun i hi => by
      have hi7 : i ∈ f0 ++ (f1' ++ (f2 ++ (f3 ++ f4))) := by simp at hi ⊢; rcases hi with h | h | h <;> simp [h]
      exact (n7 i hi7).2
    have b2a := hK.blk b2 (by simp; exact ⟨by omega, fun h => by have := m2 _ h; omega, fun h => by have := m4 _ h; omega⟩)
    have d2a := blkAt_len b2a
    by_cases hgt : 40 < al.length
    · have hgt2 : (40 : Int) < (al.length : Int) := by omega
      obtain ⟨id5, bl5, rfl, -, hb5, hbe5, -, -⟩ := ho5.blk (by intro h; have := congrArg List.length h; simp only [List.length_map, List.length_nil] at this; omega)
      have hid5 := blkAt_len hb5
      have h40 : (40 : Int) ≤ al.length := by omega
      have h41 : (al.length : Int) - 40 ≤ al.length := by omega
      have h42 : ((al.length : Int) - 40).toNat = al.length - 40 := by omega
      simp [hgt, hgt2, t7, c7, d7', builtinV, pureB, lenV, g5, sliceV, elemIs, hid5, hb5, hbe5, bnd, h40, h41, h42]
      have hdr := sl_drop ho5.sl (al.length - 40)
      rw [← List.map_drop] at hdr
      have hll : al.drop (al.length - 40) = lastL al := rfl
      rw [hll] at hdr
      have hlen : (lastL al).length = al.length - (al.length - 40) := by unfold lastL; simp
      refine stpL_append (e := 110) (rows := []) (ys := (lastL al).map Out.enc) (Own.of (by simp)) (by simpa using hdr.app _) rfl rfl rfl (by simp) (by simp; omega) rfl (by simp [hlen]) fun a'' H'' fp'' ho'' hk'' hf'' => ?_
      rw [List.nil_append] at ho''
      have kA : Keep [] H1 H'' := (Keep.app [] H1 [some ⟨110, .wr, []⟩]).next hk'' (by simp)
      have c7'' := kA.blk c7 (by simp)
      have d7'' := blkAt_len c7''
      have b2'' := kA.blk b2a (by simp)
      have d2'' := blkAt_len b2''
      have hf6 : ∀ j ∈ fp'', H1.length ≤ j := fun j hj => by
        rcases hf'' j hj with h | h
        · simp at h; omega
        · rw [List.length_append] at h; omega
      have ks := Keep.set (id := K7) H'' (some ⟨44, .wr, [[.i .i64 x.id, .i .i64 x.ports, .i .i64 x.reg.epoch, .i .i64 x.reg.owner, .i .i64 x.reg.pair, q0, q1, .sl a2 x.gates.length, q3, .sl a'' (lastL al).length]]⟩)
      have b2s := ks.blk b2'' (by simp; omega)
      have d2s := blkAt_len b2s
      have cs := blkAt_set (b := ⟨44, .wr, [[.i .i64 x.id, .i .i64 x.ports, .i .i64 x.reg.epoch, .i .i64 x.reg.owner, .i .i64 x.reg.pair, q0, q1, .sl a2 x.gates.length, q3, .sl a'' (lastL al).length]]⟩) d7''
      rw [← hlen]
      simp [t6, t7, c7'', d7'']
      simp [t6, t7, cs, d7'', b2s, d2s, d2'']
      refine last _ _ a'' fp'' (by simp [t6]) cs (ho''.keep ks (fun j hj hj2 => by have := hf6 j hj; simp at hj2; omega)) (fun j hj => .inr (by have := hf6 j hj; omega)) ?_ ((ho.keep kA (by simp)).keep ks (fun i hi hj => by have := m2 i hi; simp at hj; omega)) (fun i hi hj => by have := h07 i hi; have := hf6 i hj; omega)
      exact kA.trans ks (by simp) (fun i hi _ => by simp at hi; simp [hi])
    · have hle : al.length ≤ 40 := by omega
      have h0 : al.length - 40 = 0 := by omega
      have hla : lastL al = al := by unfold lastL; rw [h0]; rfl
      have hgt2 : ¬ (40 : Int) < (al.length : Int) := by omega
      simp [hgt, hgt2, t6, t7, c7, d7', b2a, d2a]
      have hx : al.length = (lastL al).length := by rw [hla]
      rw [hx]
      refine last H1 _ a5 f5 (by simp [t6]) (by rw [← hx]; exact c7) (by rw [hla]; exact ho5) hf5 (Keep.refl _ _) ho (fun i hi hj => ?_)
      · have h1 := h07 i hi
        rcases hf5 i hj with h | h
        · simp at hi
          rcases hi with h2 | h2 | h2
          · exact x04 i h2 h
          · exact x14 i h2 h
          · exact x34 i h2 h
        · omega

theorem bridgeNew_yes {id ports : Int} (h : (bridgeNew id ports).2 = true) : (1 ≤ id ∧ id ≤ 9) ∧ (1 ≤ ports ∧ ports ≤ 4) ∧ (bridgeNew id ports).1 = ⟨id, List.replicate ports.toNat Port.zv⟩ := by
  unfold bridgeNew at h ⊢
  split at h
  · rename_i h1
    rw [if_pos h1]
    simp at h1
    exact ⟨h1.1, h1.2, rfl⟩
  · simp at h

def newM0 : Minder := ⟨true, 1, 1, [], 0, 0, 0⟩
def newM1 : Minder := ⟨true, 2, 0, [], 0, 0, 0⟩
def boxNew (id ports : Int) : Box × Bool := if (bridgeNew id ports).2 = true then (⟨id, ports, ⟨1, 0, 0⟩, [newM0, newM1], [], List.replicate ports.toNat false, [], []⟩, true) else (⟨0, 0, ⟨0, 0, 0⟩, [], [], [], [], []⟩, false)
theorem boxNew_sz0 {id ports : Int} : (boxNew id ports).1.sz ≤ 1048576 := by
  unfold boxNew
  split
  · rename_i h
    have := (bridgeNew_yes h).2.1
    simp [Box.sz, MinderS.sz, Minder.sz, newM0, newM1]
    omega
  · simp [Box.sz, MinderS.sz]
theorem boxNew_ok {id ports : Int} (h : (bridgeNew id ports).2 = true) : (⟨id, ports, ⟨1, 0, 0⟩, [newM0, newM1], [], List.replicate ports.toNat false, [], []⟩ : Box).ok = true := by
  have hp := (bridgeNew_yes h).2.1
  have e0 : newM0.ok = true := by decide
  have e1 : newM1.ok = true := by decide
  have e2 : Reg.ok ⟨1, 0, 0⟩ = true := by decide
  simp [Box.ok, h, e0, e1, e2, logOk]
  omega
theorem newTwo {H : Heap} {id : Nat} (hb : blkAt H id = some ⟨35, .wr, [newM0.enc none, newM1.enc none]⟩) : IsMinderS H (.sl (some (id, 0)) 2) [newM0, newM1] [id] := by
  refine ⟨some (id, 0), [newM0.enc none, newM1.enc none], [id], [[], []], rfl, Own.of hb, ⟨rfl, rfl, fun i row x f h1 h2 h3 => ?_, by simp⟩, by simp, by simp⟩
  match i with
  | 0 => simp at h1 h2 h3; subst h1; subst h2; subst h3; exact ⟨none, rfl, Own.nil _ _⟩
  | 1 => simp at h1 h2 h3; subst h1; subst h2; subst h3; exact ⟨none, rfl, Own.nil _ _⟩
  | i + 2 => simp at h1

theorem specBoxNew_is {H : Heap} (id : Int) (_ : I64 id) (ports : Int) (_ : I64 ports) : Runs env 70 [.int id, .int ports] H fun v H' => ∃ l fp, v = .tup [.agg l, .lf (.b (boxNew id ports).2)] ∧ IsBox H' l (boxNew id ports).1 fp ∧ Fresh H H' fp := by
  refine Runs.walk ok70 Tryz.func70 rfl (by simp [Tryz.f70]) fun Q hQ => ?_
  simp only [Tryz.f70, strip, stripL, stripI, stripG, chkT, tagsB, tagsL, tagD, addT, tagA, lookN, tagOp, elmT, ty22, ty29, ty33, ty39, ty40, ty41, ty42, ty69, ty71, ty95, Nat.reduceEqDiff, if_false, reduceIte, Option.getD_some, Option.getD_none, dstAt, dstOk, Nat.reduceLT, decide_true, if_true]
  simp
  refine stpL_runs (specBridgeNew _ _ _) ?_
  rintro _ _ ⟨_, f1, rfl, ⟨a1, rfl, o1⟩, ⟨⟨G1, rfl⟩, hf1⟩⟩
  have hb4 := bridgeOf_len id ports []
  have hb4' : (bridgeNew id ports).1.ports.length ≤ 4 := hb4
  obtain ⟨b, hb⟩ : ∃ b, b = (bridgeNew id ports).1 := ⟨_, rfl⟩
  rw [← hb] at o1 hb4' ⊢
  have s1 := (o1.app [some ⟨31, .wr, [[.i .i64 b.id, .sl a1 b.ports.length]]⟩]).sl
  simp only [List.append_assoc, List.cons_append, List.nil_append] at s1
  have hRb : RdBridge _ [.i .i64 b.id, .sl a1 b.ports.length] b := ⟨a1, rfl, s1⟩
  have hbs : b.sz = b.ports.length := rfl
  simp [Bridge.enc]
  refine stpL_runs (specGates_is (b := b) hRb (by omega)) ?_
  rintro _ _ ⟨_, f9, rfl, ⟨a9, rfl, o9⟩, ⟨⟨G2, rfl⟩, hf9⟩⟩
  obtain ⟨gs, hgs⟩ : ∃ gs, gs = gates b := ⟨_, rfl⟩
  have hgl : gs.length ≤ 4 := by rw [hgs]; simpa [gates] using hb4'
  rw [← hgs] at o9 ⊢
  obtain ⟨x, hx⟩ : ∃ x : Box, x = ⟨id, ports, ⟨1, 0, 0⟩, [newM0, newM1], [], gs, [], []⟩ := ⟨_, rfl⟩
  have hI : ∀ B, IsBox (H ++ some ⟨44, .wr, [[.i .i64 0, .i .i64 0, .i .i64 0, .i .i64 0, .i .i64 0, .sl none 0, .sl none 0, .sl none 0, .sl none 0, .sl none 0]]⟩ :: (G1 ++ some ⟨31, .wr, [[.i .i64 b.id, .sl a1 b.ports.length]]⟩ :: (G2 ++ [B, some ⟨35, .wr, [newM0.enc none, newM1.enc none]⟩]))) [.i .i64 id, .i .i64 ports, .i .i64 1, .i .i64 0, .i .i64 0, .sl (some (H.length + (G1.length + (G2.length + 3)), 0)) 2, .sl none 0, .sl a9 gs.length, .sl none 0, .sl none 0] x ([H.length + (G1.length + (G2.length + 3))] ++ ([] ++ (f9 ++ ([] ++ [])))) := fun B => by
    rw [hx]
    have o9' := o9.app [B, some ⟨35, .wr, [newM0.enc none, newM1.enc none]⟩]
    have hlt9 := o9.lt
    simp only [List.append_assoc, List.cons_append, List.nil_append] at o9'
    refine ⟨_, _, _, _, _, _, _, _, _, _, rfl, newTwo (by simp), ⟨none, rfl, Own.nil _ _⟩, ⟨a9, rfl, o9'⟩, ⟨none, rfl, Own.nil _ _⟩, ⟨none, rfl, Own.nil _ _⟩, rfl, ?_⟩
    simp
    refine ⟨fun h => ?_, o9.nodup⟩
    have := hlt9 _ h
    simp at this
  have hsz : x.sz ≤ 1048576 := by rw [hx]; simp [Box.sz, MinderS.sz, Minder.sz, newM0, newM1]; omega
  have e1 := fun B => specBoxOk_is (hI B).rd (by omega)
  have f9g : ∀ i ∈ f9, H.length ≤ i := fun i hi => by have := hf9 i hi; simp at this; omega
  simp [fillRows]
  simp [newM0, newM1, Minder.enc] at e1
  simp [e1]
  cases hok : (bridgeNew id ports).2
  · have hbn : boxNew id ports = (⟨0, 0, ⟨0, 0, 0⟩, [], [], [], [], []⟩, false) := by simp [boxNew, hok]
    have hxo : x.ok = false := by rw [hx]; simp [Box.ok, hok]
    simp [hxo]
    refine hQ _ _ _ (by simp) ?_
    simp [Tryz.f70, hbn]
    refine ⟨[], ⟨.sl none 0, .sl none 0, .sl none 0, .sl none 0, .sl none 0, [], [], [], [], [], rfl, IsL.emp _ _ _, ⟨none, rfl, Own.nil _ _⟩, ⟨none, rfl, Own.nil _ _⟩, ⟨none, rfl, Own.nil _ _⟩, ⟨none, rfl, Own.nil _ _⟩, rfl, by simp⟩, Fresh.refl _⟩
  · obtain ⟨h1, h2, h3⟩ := bridgeNew_yes hok
    have hbn : boxNew id ports = (⟨id, ports, ⟨1, 0, 0⟩, [newM0, newM1], [], List.replicate ports.toNat false, [], []⟩, true) := by simp [boxNew, hok]
    have hgr : gs = List.replicate ports.toNat false := by rw [hgs, hb, h3]; simp [gates]
    have hxn : x = (boxNew id ports).1 := by rw [hx, hbn, hgr]
    have hxo : x.ok = true := by rw [hx, hgr]; exact boxNew_ok hok
    simp [hxo]
    refine hQ _ _ _ (by simp) ?_
    have h4 : (boxNew id ports).2 = true := by rw [hbn]
    rw [hxn] at hI
    simp [Tryz.f70, h4]
    have hfr : ∀ y : Option Blk, Fresh H (H ++ y :: (G1 ++ some ⟨31, .wr, [[.i .i64 b.id, .sl a1 b.ports.length]]⟩ :: (G2 ++ [some ⟨44, .wr, [[.i .i64 id, .i .i64 ports, .i .i64 1, .i .i64 0, .i .i64 0, .sl (some (H.length + (G1.length + (G2.length + 3)), 0)) 2, .sl none 0, .sl a9 gs.length, .sl none 0, .sl none 0]]⟩, some ⟨35, .wr, [newM0.enc none, newM1.enc none]⟩]))) ([H.length + (G1.length + (G2.length + 3))] ++ ([] ++ (f9 ++ ([] ++ [])))) := fun y => Fresh.app H _ (fun i hi => by
      simp at hi
      rcases hi with rfl | hi
      · omega
      · exact f9g i hi)
    have hK : ∀ y : Blk, Keep [H.length] (H ++ some ⟨44, .wr, [[.i .i64 0, .i .i64 0, .i .i64 0, .i .i64 0, .i .i64 0, .sl none 0, .sl none 0, .sl none 0, .sl none 0, .sl none 0]]⟩ :: (G1 ++ some ⟨31, .wr, [[.i .i64 b.id, .sl a1 b.ports.length]]⟩ :: (G2 ++ [some ⟨44, .wr, [[.i .i64 id, .i .i64 ports, .i .i64 1, .i .i64 0, .i .i64 0, .sl (some (H.length + (G1.length + (G2.length + 3)), 0)) 2, .sl none 0, .sl a9 gs.length, .sl none 0, .sl none 0]]⟩, some ⟨35, .wr, [newM0.enc none, newM1.enc none]⟩]))) (H ++ some y :: (G1 ++ some ⟨31, .wr, [[.i .i64 b.id, .sl a1 b.ports.length]]⟩ :: (G2 ++ [some ⟨44, .wr, [[.i .i64 id, .i .i64 ports, .i .i64 1, .i .i64 0, .i .i64 0, .sl (some (H.length + (G1.length + (G2.length + 3)), 0)) 2, .sl none 0, .sl a9 gs.length, .sl none 0, .sl none 0]]⟩, some ⟨35, .wr, [newM0.enc none, newM1.enc none]⟩]))) := fun y => by
      have := Keep.set (id := H.length) (H ++ some ⟨44, .wr, [[.i .i64 0, .i .i64 0, .i .i64 0, .i .i64 0, .i .i64 0, .sl none 0, .sl none 0, .sl none 0, .sl none 0, .sl none 0]]⟩ :: (G1 ++ some ⟨31, .wr, [[.i .i64 b.id, .sl a1 b.ports.length]]⟩ :: (G2 ++ [some ⟨44, .wr, [[.i .i64 id, .i .i64 ports, .i .i64 1, .i .i64 0, .i .i64 0, .sl (some (H.length + (G1.length + (G2.length + 3)), 0)) 2, .sl none 0, .sl a9 gs.length, .sl none 0, .sl none 0]]⟩, some ⟨35, .wr, [newM0.enc none, newM1.enc none]⟩]))) (some y)
      simpa using this
    have hI2 := fun y => (hI _).keep (hK y) (fun i hi hj => by
      simp at hi hj
      rcases hi with rfl | hi
      · omega
      · have := hf9 i hi; simp at this; omega)
    have hend := fun y => (hI2 y).leave (ws := [W.agg [.i .i64 id, .i .i64 ports, .i .i64 1, .i .i64 0, .i .i64 0, .sl (some (H.length + (G1.length + (G2.length + 3)), 0)) 2, .sl none 0, .sl a9 gs.length, .sl none 0, .sl none 0], W.lf (.b true)]) (hfr _) (by simp)
    simp only [newM0, newM1, Minder.enc] at hend
    exact hend _

def setTwo (x : Box) (s : Nat) (m : Minder) : Box := ⟨x.id, x.ports, x.reg, x.two.set s m, x.net, x.gates, x.line, x.said⟩
def setNet (x : Box) (ws : List Wire) : Box := ⟨x.id, x.ports, x.reg, x.two, ws, x.gates, x.line, x.said⟩
def setReg (x : Box) (r : Reg) : Box := ⟨x.id, x.ports, r, x.two, x.net, x.gates, x.line, x.said⟩
def setLine (x : Box) (l : List In) : Box := ⟨x.id, x.ports, x.reg, x.two, x.net, x.gates, l, x.said⟩
def mAt (x : Box) (s : Int) : Minder := x.two.getD s.toNat zM
def inD (x : Box) (i : In) : Box × Int :=
  if whoM x < 0 ∨ i.ok = false ∨ x.ports ≤ i.port then (x, 3)
  else if (note (mAt x (whoM x)) i).2 = true then (setTwo x (whoM x).toNat (note (mAt x (whoM x)) i).1, 0) else (x, 4)
def sendD (x : Box) (w : Wire) : Box × Int := if 20 ≤ x.net.length then (x, 4) else (setNet x (x.net ++ [w]), 0)
def nextN (m : Minder) (life : Int) : Int := if m.ackLife = life then m.acked else 0
def shipD (x : Box) (s : Int) : Box × Int :=
  if minds x.reg s (mAt x s) = false ∨ ((mAt x s).log.length : Int) ≤ nextN (mAt x s) (mAt x (1 - s)).life then (x, 3)
  else sendD x ⟨s, false, (mAt x (1 - s)).life, nextN (mAt x s) (mAt x (1 - s)).life, (mAt x s).log.getD (nextN (mAt x s) (mAt x (1 - s)).life).toNat default⟩
def heardD (x : Box) (w : Wire) : Box :=
  let s := 1 - w.frm
  let m := mAt x s
  if m.up = false then x
  else if w.ack = true then
    (if minds x.reg s m = true ∧ (m.ackLife < w.life ∨ (w.life = m.ackLife ∧ m.acked < w.n)) then setTwo x s.toNat ⟨m.up, m.life, m.epoch, m.log, m.said, min w.n m.log.length, w.life⟩ else x)
  else if w.life ≠ m.life then x
  else
    let y := if m.epoch = 0 ∧ w.n = (m.log.length : Int) then setTwo x s.toNat (note m w.inn).1 else x
    (sendD y ⟨s, true, m.life, ((mAt y s).log.length : Int), ⟨0, 0, ⟨0, 0, 0, 0⟩, 0, false⟩⟩).1
def onWireD (x : Box) (d : Deed) : Box × Int :=
  if ¬ (0 ≤ d.a ∧ d.a < x.net.length) then (x, 2)
  else if d.kind = 5 then sendD x (x.net.getD d.a.toNat default)
  else if d.kind = 4 then (setNet x (x.net.eraseIdx d.a.toNat), 0)
  else (heardD (setNet x (x.net.eraseIdx d.a.toNat)) (x.net.getD d.a.toNat default), 0)
def sayD (x : Box) : Box × Int :=
  if whoM x < 0 ∨ ready (mAt x (whoM x)) x.reg.pair = false then (x, 3)
  else
    let m := mAt x (whoM x)
    let y := setTwo (acceptB x (saying x.id x.ports m.log m.said)) (whoM x).toNat ⟨m.up, m.life, m.epoch, m.log, m.said + 1, m.acked, m.ackLife⟩
    (if (x.line.length : Int) < m.said + 1 then setLine y (x.line ++ [m.log.getD m.said.toNat default]) else y, 0)
def newLife (x : Box) : Minder := ⟨true, max (mAt x 0).life (mAt x 1).life + 1, 0, [], 0, 0, 0⟩
def takeD (x : Box) (s : Int) : Box × Int :=
  let t := takeR x.reg s (mAt x s)
  if t.2.2 = false then (x, 3)
  else if t.2.1.log.length < x.line.length then (x, 4)
  else (setTwo (setReg x t.1) s.toNat ⟨t.2.1.up, t.2.1.life, t.2.1.epoch, t.2.1.log, x.line.length, t.2.1.acked, t.2.1.ackLife⟩, 0)
def pairD (x : Box) (s pair : Int) : Box × Int :=
  if (pairs x.reg s (mAt x s) pair).2 = true then (setReg x (pairs x.reg s (mAt x s) pair).1, 0) else (x, 3)
def onMinderD (x : Box) (d : Deed) : Box × Int :=
  let m := mAt x d.a
  if d.kind = 2 then shipD x d.a
  else if d.kind = 9 then takeD x d.a
  else if d.kind = 10 then pairD x d.a m.ackLife
  else if d.kind = 11 then pairD x d.a 0
  else if d.kind = 8 then (if m.up = true then (x, 3) else (setTwo x d.a.toNat (newLife x), 0))
  else if m.up = false then (x, 3)
  else if d.kind = 12 then (if m.epoch = 0 ∨ minds x.reg d.a m = true then (x, 3) else (setTwo x d.a.toNat (newLife x), 0))
  else (setTwo x d.a.toNat ⟨false, m.life, 0, [], 0, 0, 0⟩, 0)
def deedD (x : Box) (d : Deed) : Box × Int :=
  if d.kind = 1 then inD x d.inn
  else if d.kind = 6 then sayD x
  else if d.kind = 3 ∨ d.kind = 4 ∨ d.kind = 5 then onWireD x d
  else if ¬ (0 ≤ d.a ∧ d.a ≤ 1) then (x, 2)
  else onMinderD x d
def doR (x : Box) (d : Deed) : Box × Int :=
  if (deedD x d).2 = 0 then (if (deedD x d).1.ok = true then ((deedD x d).1, 0) else (x, 4)) else (x, (deedD x d).2)
def doIt (x : Box) (d : Deed) : Box × Int :=
  if (1 ≤ d.kind ∧ d.kind ≤ 12) ∧ x.ok = true then doR x d else (⟨0, 0, ⟨0, 0, 0⟩, [], [], [], [], []⟩, 1)
def stepAll (p : Box × List Int) (d : Deed) : Box × List Int := (if (doIt p.1 d).2 = 0 then (doIt p.1 d).1 else p.1, p.2 ++ [(doIt p.1 d).2])
def doAll (x : Box) (list : List Deed) : Box × List Int := if 300 < list.length ∨ x.ok = false then (x, []) else list.foldl stepAll (x, [])
/-- What a right box's parts are bounded by. -/
structure Right (x : Box) : Prop where
  two : x.two.length = 2
  ok : ∀ m ∈ x.two, m.ok = true
theorem Box.right {x : Box} (h : x.ok = true) : Right x := by
  simp only [Box.ok, Bool.and_eq_true, decide_eq_true_eq, List.all_eq_true] at h
  exact ⟨h.1.1.1.1.1.1.2, fun m hm => h.1.1.1.1.2 m hm⟩

/-- A minder put in the place of another, in a box that is one's own; and what is read there. -/
theorem boxTwo {H : Heap} {id : Nat} {l : List Lf} {x : Box} {fp : List Nat} (hb : blkAt H id = some ⟨44, .wr, [l]⟩) (hI : IsBox H l x fp) (hid : id ∉ fp) {s : Nat} (hs : s < x.two.length) :
    ∃ (bid : Nat) (blo : Blk) (q1 q2 q3 q4 : Lf) (row : List Lf), l = x.enc (.sl (some (bid, 0)) x.two.length) q1 q2 q3 q4 ∧ bid ≠ id ∧ bid < H.length ∧ blkAt H bid = some blo ∧ blo.elem = 35 ∧ blo.md = .wr ∧ blo.rows[s]? = some row ∧ RdMinder H row x.two[s] ∧
      ∀ (H1 : Heap) (l2 : List Lf) (m : Minder) (f2 : List Nat), Keep [] H H1 → IsMinder H1 l2 m f2 → (∀ i ∈ f2, H.length ≤ i) →
        ∃ fp', blkAt (H1.set bid (some ⟨35, .wr, blo.rows.set s l2⟩)) id = some ⟨44, .wr, [l]⟩ ∧ IsBox (H1.set bid (some ⟨35, .wr, blo.rows.set s l2⟩)) l (setTwo x s m) fp' ∧ id ∉ fp' ∧ Keep (id :: fp) H (H1.set bid (some ⟨35, .wr, blo.rows.set s l2⟩)) ∧ ∀ i ∈ fp', i ∈ fp ∨ H.length ≤ i := by
  obtain ⟨q0, q1, q2, q3, q4, f0, f1, f2', f3, f4, rfl, ⟨a, rows, fp0, fps, rfl, ho, hp, rfl, hnd0⟩, i1, i2, i3, i4, rfl, hnd⟩ := hI
  obtain ⟨h1, h2, h3⟩ := hp.get hs
  obtain ⟨bid, blo, rfl, hf0, hbb, hbe, hbm, hpre⟩ := ho.blk (by rintro rfl; simp at h1)
  obtain ⟨tl, htl⟩ := hpre
  have hbi : bid ∈ fp0 := ho.ids bid 0 rfl
  have hdis : ∀ i ∈ fp0, i ∉ fps.flatten := fun i hi hj => (List.nodup_append.1 hnd0).2.2 i hi i hj rfl
  have hbid : bid ≠ id := fun h => hid (by simp [← h, hbi])
  have hltR : ∀ i ∈ f1 ++ (f2' ++ (f3 ++ f4)), i < H.length := by
    intro i hi
    simp only [List.mem_append] at hi
    rcases hi with h | h | h | h
    · exact i1.lt i h
    · exact i2.lt i h
    · exact i3.lt i h
    · exact i4.lt i h
  have hnR : ∀ i ∈ f1 ++ (f2' ++ (f3 ++ f4)), i ∉ fp0 ++ fps.flatten := fun i hi hj => (List.nodup_append.1 hnd).2.2 i hj i hi rfl
  refine ⟨bid, blo, q1, q2, q3, q4, rows[s], rfl, hbid, blkAt_len hbb, hbb, hbe, hbm, ?_, h3.rd, ?_⟩
  · rw [← htl, List.getElem?_append_left h1, List.getElem?_eq_getElem h1]
  · intro H1 l2 m f2 hk hm hf2
    have hb1 := hk.blk hbb (by simp)
    have hlb := blkAt_len hbb
    have o1 := (ho.keep hk (by simp)).set (row := l2) hb1 h1
    rw [hbe, hbm] at o1
    have hp1 := hp.turn okMinder (H' := H1) (i := s) (row := l2) (x := m) (g := f2) (hk.more (by simp)) hs hm (fun j hj => .inr (hf2 j hj))
    have hfl : ∀ k ∈ (fps.set s f2).flatten, k ∈ fps.flatten ∨ H.length ≤ k := fun k hk => by
      obtain ⟨f, hf, hkf⟩ := List.mem_flatten.1 hk
      rcases List.mem_or_eq_of_mem_set hf with hf | rfl
      · exact .inl (List.mem_flatten.2 ⟨f, hf, hkf⟩)
      · exact .inr (hf2 k hkf)
    have ks := Keep.set (id := bid) H1 (some ⟨35, .wr, blo.rows.set s l2⟩)
    have hp2 := hp1.keep okMinder ks (fun j hj hj' => by
      simp at hj'
      rcases hfl j hj with h | h
      · exact hdis bid hbi (hj' ▸ h)
      · omega)
    have kR : Keep [bid] H (H1.set bid (some ⟨35, .wr, blo.rows.set s l2⟩)) := hk.trans ks (by simp) (fun _ h _ => h)
    have nR : ∀ i ∈ f1 ++ (f2' ++ (f3 ++ f4)), i ∉ [bid] := fun i hi hj => by simp at hj; subst hj; exact hnR i hi (by simp [hbi])
    have hd2 : ∀ i ∈ fp0, i ∉ (fps.set s f2).flatten := fun i hi hj => by
      rcases hfl i hj with h | h
      · exact hdis i hi h
      · have := ho.lt i hi; omega
    have hnd1 : (fp0 ++ (fps.set s f2).flatten).Nodup := nodup_app ho.nodup hp1.nodup hd2
    have hidH := blkAt_len hb
    have hfp : ∀ i ∈ (fp0 ++ (fps.set s f2).flatten) ++ (f1 ++ (f2' ++ (f3 ++ f4))), i ∈ (fp0 ++ fps.flatten) ++ (f1 ++ (f2' ++ (f3 ++ f4))) ∨ H.length ≤ i := by
      intro i hi
      rcases List.mem_append.1 hi with hi | hi
      · rcases List.mem_append.1 hi with hi | hi
        · exact .inl (by simp [hi])
        · rcases hfl i hi with h | h
          · exact .inl (by simp only [List.mem_append]; exact .inl (.inr h))
          · exact .inr h
      · exact .inl (List.mem_append.2 (.inr hi))
    refine ⟨(fp0 ++ (fps.set s f2).flatten) ++ (f1 ++ (f2' ++ (f3 ++ f4))), kR.blk hb (by simp; exact fun h => hbid h.symm), ⟨.sl (some (bid, 0)) x.two.length, q1, q2, q3, q4, fp0 ++ (fps.set s f2).flatten, f1, f2', f3, f4, by simp [Box.enc, setTwo], ⟨some (bid, 0), rows.set s l2, fp0, fps.set s f2, by simp [setTwo], o1, hp2, rfl, hnd1⟩, i1.keep kR (fun i hi => nR i (by simp [hi])), i2.keep kR (fun i hi => nR i (by simp [hi])), i3.keep kR (fun i hi => nR i (by simp [hi])), i4.keep kR (fun i hi => nR i (by simp [hi])), rfl, ?_⟩, ?_, ?_, hfp⟩
    · refine nodup_app hnd1 (List.nodup_append.1 hnd).2.1 fun i hi hj => ?_
      rcases List.mem_append.1 hi with hi | hi
      · exact hnR i hj (by simp [hi])
      · rcases hfl i hi with h | h
        · exact hnR i hj (List.mem_append.2 (.inr h))
        · have := hltR i hj; omega
    · intro h
      rcases hfp id h with h | h
      · exact hid h
      · omega
    · exact kR.more fun i hi _ => by simp at hi; subst hi; simp [hbi]

/-- From H to H' the box behind id, in memory of its own (fp), has come to y. -/
def BoxTo (H H' : Heap) (id : Nat) (fp : List Nat) (y : Box) : Prop := ∃ l' fp', blkAt H' id = some ⟨44, .wr, [l']⟩ ∧ IsBox H' l' y fp' ∧ id ∉ fp' ∧ Keep (id :: fp) H H' ∧ ∀ i ∈ fp', i ∈ fp ∨ H.length ≤ i
theorem BoxTo.leave {H HF : Heap} {id : Nat} {l : List Lf} {x y : Box} {fp : List Nat} (hb : blkAt H id = some ⟨44, .wr, [l]⟩) (hI : IsBox H l x fp) (hid : id ∉ fp) (h : BoxTo H HF id fp y) (ws : List W) : BoxTo H (Go.Ab.leave H HF ws) id fp y := by
  obtain ⟨l', fp', h1, h2, h3, h4, h5⟩ := h
  rcases leave_or H HF ws with e | ⟨e, G, rfl⟩ <;> rw [e]
  · exact ⟨l', fp', h1, h2, h3, h4, h5⟩
  · rw [blkAt_app hb] at h1
    injection h1 with h1
    simp at h1
    subst h1
    have := rdBox_uniq (hI.rd.app G) h2.rd
    subst this
    exact ⟨l, fp, hb, hI, hid, Keep.refl _ _, fun i hi => .inl hi⟩
theorem BoxTo.refl {H : Heap} {id : Nat} {l : List Lf} {x : Box} {fp : List Nat} (hb : blkAt H id = some ⟨44, .wr, [l]⟩) (hI : IsBox H l x fp) (hid : id ∉ fp) : BoxTo H H id fp x := ⟨l, fp, hb, hI, hid, Keep.refl _ _, fun i hi => .inl hi⟩
theorem BoxTo.app {H : Heap} {id : Nat} {l : List Lf} {x : Box} {fp : List Nat} (hb : blkAt H id = some ⟨44, .wr, [l]⟩) (hI : IsBox H l x fp) (hid : id ∉ fp) (G : Heap) : BoxTo H (H ++ G) id fp x := ⟨l, fp, blkAt_app hb G, hI.app G, hid, Keep.app _ _ _, fun i hi => .inl hi⟩
theorem BoxTo.trans {H H1 H2 : Heap} {id : Nat} {fp f1 : List Nat} {y : Box} (hk : Keep (id :: fp) H H1) (hf : ∀ i ∈ f1, i ∈ fp ∨ H.length ≤ i) (h : BoxTo H1 H2 id f1 y) : BoxTo H H2 id fp y := by
  obtain ⟨l', fp', h1, h2, h3, h4, h5⟩ := h
  have hl := hk.1
  refine ⟨l', fp', h1, h2, h3, hk.trans h4 (fun _ h _ => h) (fun i hi hlt => ?_), fun i hi => ?_⟩
  · rcases List.mem_cons.1 hi with rfl | hi
    · simp
    · rcases hf i hi with h | h
      · simp [h]
      · omega
  · rcases h5 i hi with h | h
    · exact hf i h
    · exact .inr (by omega)

/-- Other wires put into a box that is one's own. -/
theorem boxNet {H H2 : Heap} {id : Nat} {x : Box} {q0 q1' q2 q3 q4 : Lf} {f0 f1 f2 f3 f4 f1' : List Nat} {ws : List Wire} (hidl : id < H.length) (hid : id ∉ f0 ++ (f1 ++ (f2 ++ (f3 ++ f4)))) (i0 : IsMinderS H q0 x.two f0) (i2 : IsBoolS H q2 x.gates f2) (i3 : IsInS H q3 x.line f3) (i4 : IsOutS H q4 x.said f4)
    (hnd : (f0 ++ (f1 ++ (f2 ++ (f3 ++ f4)))).Nodup) (k : Keep f1 H H2) (o : IsWireS H2 q1' ws f1') (hf : ∀ i ∈ f1', i ∈ f1 ∨ H.length ≤ i) :
    BoxTo H (H2.set id (some ⟨44, .wr, [x.enc q0 q1' q2 q3 q4]⟩)) id (f0 ++ (f1 ++ (f2 ++ (f3 ++ f4)))) (setNet x ws) := by
  have ks := Keep.set (id := id) H2 (some ⟨44, .wr, [x.enc q0 q1' q2 q3 q4]⟩)
  have hlen := k.1
  have n0 := List.nodup_append.1 hnd
  have n1 := List.nodup_append.1 n0.2.1
  have n2 := List.nodup_append.1 n1.2.1
  have n3 := List.nodup_append.1 n2.2.1
  have x0 : ∀ i ∈ f0, i ∉ f1 := fun i hi hj => n0.2.2 i hi i (List.mem_append.2 (.inl hj)) rfl
  have x2 : ∀ i ∈ f2 ++ (f3 ++ f4), i ∉ f1 := fun i hi hj => n1.2.2 i hj i hi rfl
  have d0 : ∀ i ∈ f0, i ∉ [id] := fun i hi hj => by simp at hj; subst hj; exact hid (by simp [hi])
  have d2 : ∀ i ∈ f2 ++ (f3 ++ f4), i ∉ [id] := fun i hi hj => by simp at hj; subst hj; exact hid (by simp only [List.mem_append] at hi ⊢; exact .inr (.inr hi))
  have d1 : ∀ i ∈ f1', i ∉ [id] := fun i hi hj => by
    simp at hj
    subst hj
    rcases hf i hi with h | h
    · exact hid (by simp [h])
    · omega
  have l0 := i0.lt okMinder
  have l2 : ∀ i ∈ f2 ++ (f3 ++ f4), i < H.length := fun i hi => by
    simp only [List.mem_append] at hi
    rcases hi with h | h | h
    · exact i2.lt i h
    · exact i3.lt i h
    · exact i4.lt i h
  refine ⟨_, f0 ++ (f1' ++ (f2 ++ (f3 ++ f4))), blkAt_set (by omega), ⟨q0, q1', q2, q3, q4, f0, f1', f2, f3, f4, rfl, (i0.keep okMinder k x0).keep okMinder ks d0, o.keep ks d1, (i2.keep k (fun i hi => x2 i (by simp [hi]))).keep ks (fun i hi => d2 i (by simp [hi])), (i3.keep k (fun i hi => x2 i (by simp [hi]))).keep ks (fun i hi => d2 i (by simp [hi])), (i4.keep k (fun i hi => x2 i (by simp [hi]))).keep ks (fun i hi => d2 i (by simp [hi])), rfl, ?_⟩, ?_, ?_, ?_⟩
  · refine nodup_app n0.1 (nodup_app o.nodup n1.2.1 fun i hi hj => ?_) fun i hi hj => ?_
    · rcases hf i hi with h | h
      · exact x2 i hj h
      · have := l2 i hj; omega
    · rcases List.mem_append.1 hj with hj | hj
      · rcases hf i hj with h | h
        · exact x0 i hi h
        · have := l0 i hi; omega
      · exact n0.2.2 i hi i (List.mem_append.2 (.inr hj)) rfl
  · intro h
    simp only [List.mem_append] at h
    rcases h with h | h | h
    · exact d0 id h (by simp)
    · exact d1 id h (by simp)
    · exact d2 id (by simp only [List.mem_append]; exact h) (by simp)
  · exact k.trans ks (fun i hi _ => by simp [hi]) (fun i hi _ => by simp at hi; simp [hi])
  · intro i hi
    simp only [List.mem_append] at hi ⊢
    rcases hi with h | h | h
    · exact .inl (.inl h)
    · rcases hf i h with h | h
      · exact .inl (.inr (.inl h))
      · exact .inr h
    · exact .inl (.inr (.inr h))

theorem boxRow {H : Heap} {id : Nat} {l : List Lf} {x : Box} {fp : List Nat} (hb : blkAt H id = some ⟨44, .wr, [l]⟩) (hI : IsBox H l x fp) (hid : id ∉ fp) {bid : Nat} {blo : Blk} {q1 q2 q3 q4 : Lf} (hl : l = x.enc (.sl (some (bid, 0)) x.two.length) q1 q2 q3 q4) (hbb : blkAt H bid = some blo) {t : Nat} (ht : t < x.two.length) :
    ∃ row, blo.rows[t]? = some row ∧ RdMinder H row x.two[t] := by
  obtain ⟨bid2, blo2, r1, r2, r3, r4, row, e, -, -, hbb2, -, -, hrow, hrd, -⟩ := boxTwo hb hI hid ht
  rw [hl] at e
  simp only [Box.enc, List.cons.injEq, Lf.sl.injEq, Option.some.injEq, Prod.mk.injEq, and_true, true_and] at e
  obtain ⟨rfl, -⟩ := e
  rw [hbb] at hbb2
  injection hbb2 with hbb2
  subst hbb2
  exact ⟨row, hrow, hrd⟩

/-- Another register put into a box that is one's own. -/
theorem boxReg {H H1 : Heap} {id : Nat} {x : Box} {q0 q1 q2 q3 q4 : Lf} {fp : List Nat} (hidl : id < H.length) (hI : IsBox H (x.enc q0 q1 q2 q3 q4) x fp) (hid : id ∉ fp) (k : Keep [] H H1) (r : Reg) :
    BoxTo H (H1.set id (some ⟨44, .wr, [(setReg x r).enc q0 q1 q2 q3 q4]⟩)) id fp (setReg x r) := by
  have ks := Keep.set (id := id) H1 (some ⟨44, .wr, [(setReg x r).enc q0 q1 q2 q3 q4]⟩)
  have hl := k.1
  have h2 := (hI.keep k (by simp)).keep ks (fun i hi hj => by simp at hj; subst hj; exact hid hi)
  obtain ⟨r0, r1, r2, r3, r4, f0, f1, f2, f3, f4, e, i0, i1, i2, i3, i4, hf, hnd⟩ := h2
  simp only [Box.enc, List.cons.injEq, and_true, true_and] at e
  obtain ⟨rfl, rfl, rfl, rfl, rfl⟩ := e
  exact ⟨_, fp, blkAt_set (by omega), ⟨q0, q1, q2, q3, q4, f0, f1, f2, f3, f4, rfl, i0, i1, i2, i3, i4, hf, hnd⟩, hid, k.trans ks (by simp) (fun i hi _ => by simp at hi; simp [hi]), fun i hi => .inl hi⟩

/-- The same, where the minder put there may keep the other's memory. -/
theorem boxTwoOwn {H : Heap} {id : Nat} {l : List Lf} {x : Box} {fp : List Nat} (hb : blkAt H id = some ⟨44, .wr, [l]⟩) (hI : IsBox H l x fp) (hid : id ∉ fp) {s : Nat} (hs : s < x.two.length) :
    ∃ (bid : Nat) (blo : Blk) (q1 q2 q3 q4 : Lf) (row : List Lf) (fs : List Nat), l = x.enc (.sl (some (bid, 0)) x.two.length) q1 q2 q3 q4 ∧ bid ≠ id ∧ bid < H.length ∧ blkAt H bid = some blo ∧ blo.elem = 35 ∧ blo.md = .wr ∧ blo.rows[s]? = some row ∧ IsMinder H row x.two[s] fs ∧ bid ∉ fs ∧ id ∉ fs ∧
      ∀ (H1 : Heap) (l2 : List Lf) (m : Minder) (f2 : List Nat), Keep [] H H1 → IsMinder H1 l2 m f2 → (∀ i ∈ f2, i ∈ fs ∨ H.length ≤ i) →
        ∃ fp', blkAt (H1.set bid (some ⟨35, .wr, blo.rows.set s l2⟩)) id = some ⟨44, .wr, [l]⟩ ∧ IsBox (H1.set bid (some ⟨35, .wr, blo.rows.set s l2⟩)) l (setTwo x s m) fp' ∧ id ∉ fp' ∧ Keep (id :: fp) H (H1.set bid (some ⟨35, .wr, blo.rows.set s l2⟩)) ∧ ∀ i ∈ fp', i ∈ fp ∨ H.length ≤ i := by
  obtain ⟨q0, q1, q2, q3, q4, f0, f1, f2', f3, f4, rfl, ⟨a, rows, fp0, fps, rfl, ho, hp, rfl, hnd0⟩, i1, i2, i3, i4, rfl, hnd⟩ := hI
  obtain ⟨h1, h2, h3⟩ := hp.get hs
  obtain ⟨bid, blo, rfl, hf0, hbb, hbe, hbm, hpre⟩ := ho.blk (by rintro rfl; simp at h1)
  obtain ⟨tl, htl⟩ := hpre
  have hbi : bid ∈ fp0 := ho.ids bid 0 rfl
  have hdis : ∀ i ∈ fp0, i ∉ fps.flatten := fun i hi hj => (List.nodup_append.1 hnd0).2.2 i hi i hj rfl
  have hbid : bid ≠ id := fun h => hid (by simp [← h, hbi])
  have hltR : ∀ i ∈ f1 ++ (f2' ++ (f3 ++ f4)), i < H.length := by
    intro i hi
    simp only [List.mem_append] at hi
    rcases hi with h | h | h | h
    · exact i1.lt i h
    · exact i2.lt i h
    · exact i3.lt i h
    · exact i4.lt i h
  have hnR : ∀ i ∈ f1 ++ (f2' ++ (f3 ++ f4)), i ∉ fp0 ++ fps.flatten := fun i hi hj => (List.nodup_append.1 hnd).2.2 i hj i hi rfl
  have hfs : ∀ i ∈ fps[s], i ∈ fps.flatten := fun i hi => flat_mem (List.getElem?_eq_getElem h2) hi
  have hget : fps[s]?.getD [] = fps[s] := by rw [List.getElem?_eq_getElem h2]; rfl
  refine ⟨bid, blo, q1, q2, q3, q4, rows[s], fps[s], rfl, hbid, blkAt_len hbb, hbb, hbe, hbm, ?_, h3, fun h => hdis bid hbi (hfs _ h), fun h => hid (by simp only [List.mem_append]; exact .inl (.inr (hfs _ h))), ?_⟩
  · rw [← htl, List.getElem?_append_left h1, List.getElem?_eq_getElem h1]
  · intro H1 l2 m f2 hk hm hf2
    have hb1 := hk.blk hbb (by simp)
    have hlb := blkAt_len hbb
    have o1 := (ho.keep hk (by simp)).set (row := l2) hb1 h1
    rw [hbe, hbm] at o1
    have hp1 := hp.turn okMinder (H' := H1) (i := s) (row := l2) (x := m) (g := f2) (hk.more (by simp)) hs hm (fun j hj => by rw [hget]; exact hf2 j hj)
    have hfl : ∀ k ∈ (fps.set s f2).flatten, k ∈ fps.flatten ∨ H.length ≤ k := fun k hk => by
      obtain ⟨f, hf, hkf⟩ := List.mem_flatten.1 hk
      rcases List.mem_or_eq_of_mem_set hf with hf | rfl
      · exact .inl (List.mem_flatten.2 ⟨f, hf, hkf⟩)
      · exact (hf2 k hkf).imp (hfs k) (fun h => h)
    have ks := Keep.set (id := bid) H1 (some ⟨35, .wr, blo.rows.set s l2⟩)
    have hp2 := hp1.keep okMinder ks (fun j hj hj' => by
      simp at hj'
      rcases hfl j hj with h | h
      · exact hdis bid hbi (hj' ▸ h)
      · omega)
    have kR : Keep [bid] H (H1.set bid (some ⟨35, .wr, blo.rows.set s l2⟩)) := hk.trans ks (by simp) (fun _ h _ => h)
    have nR : ∀ i ∈ f1 ++ (f2' ++ (f3 ++ f4)), i ∉ [bid] := fun i hi hj => by simp at hj; subst hj; exact hnR i hi (by simp [hbi])
    have hd2 : ∀ i ∈ fp0, i ∉ (fps.set s f2).flatten := fun i hi hj => by
      rcases hfl i hj with h | h
      · exact hdis i hi h
      · have := ho.lt i hi; omega
    have hnd1 : (fp0 ++ (fps.set s f2).flatten).Nodup := nodup_app ho.nodup hp1.nodup hd2
    have hidH := blkAt_len hb
    have hfp : ∀ i ∈ (fp0 ++ (fps.set s f2).flatten) ++ (f1 ++ (f2' ++ (f3 ++ f4))), i ∈ (fp0 ++ fps.flatten) ++ (f1 ++ (f2' ++ (f3 ++ f4))) ∨ H.length ≤ i := by
      intro i hi
      rcases List.mem_append.1 hi with hi | hi
      · rcases List.mem_append.1 hi with hi | hi
        · exact .inl (by simp [hi])
        · rcases hfl i hi with h | h
          · exact .inl (by simp only [List.mem_append]; exact .inl (.inr h))
          · exact .inr h
      · exact .inl (List.mem_append.2 (.inr hi))
    refine ⟨(fp0 ++ (fps.set s f2).flatten) ++ (f1 ++ (f2' ++ (f3 ++ f4))), kR.blk hb (by simp; exact fun h => hbid h.symm), ⟨.sl (some (bid, 0)) x.two.length, q1, q2, q3, q4, fp0 ++ (fps.set s f2).flatten, f1, f2', f3, f4, by simp [Box.enc, setTwo], ⟨some (bid, 0), rows.set s l2, fp0, fps.set s f2, by simp [setTwo], o1, hp2, rfl, hnd1⟩, i1.keep kR (fun i hi => nR i (by simp [hi])), i2.keep kR (fun i hi => nR i (by simp [hi])), i3.keep kR (fun i hi => nR i (by simp [hi])), i4.keep kR (fun i hi => nR i (by simp [hi])), rfl, ?_⟩, ?_, ?_, hfp⟩
    · refine nodup_app hnd1 (List.nodup_append.1 hnd).2.1 fun i hi hj => ?_
      rcases List.mem_append.1 hi with hi | hi
      · exact hnR i hj (by simp [hi])
      · rcases hfl i hi with h | h
        · exact hnR i hj (List.mem_append.2 (.inr h))
        · have := hltR i hj; omega
    · intro h
      rcases hfp id h with h | h
      · exact hid h
      · omega
    · exact kR.more fun i hi _ => by simp at hi; subst hi; simp [hbi]

/-- Another line put into a box that is one's own. -/
theorem boxLine {H H2 : Heap} {id : Nat} {x : Box} {q0 q1 q2 q3' q4 : Lf} {f0 f1 f2 f3 f4 f3' : List Nat} {ls : List In} (hidl : id < H.length) (hid : id ∉ f0 ++ (f1 ++ (f2 ++ (f3 ++ f4)))) (i0 : IsMinderS H q0 x.two f0) (i1 : IsWireS H q1 x.net f1) (i2 : IsBoolS H q2 x.gates f2) (i4 : IsOutS H q4 x.said f4)
    (hnd : (f0 ++ (f1 ++ (f2 ++ (f3 ++ f4)))).Nodup) (k : Keep f3 H H2) (o : IsInS H2 q3' ls f3') (hf : ∀ i ∈ f3', i ∈ f3 ∨ H.length ≤ i) :
    BoxTo H (H2.set id (some ⟨44, .wr, [x.enc q0 q1 q2 q3' q4]⟩)) id (f0 ++ (f1 ++ (f2 ++ (f3 ++ f4)))) (setLine x ls) := by
  have ks := Keep.set (id := id) H2 (some ⟨44, .wr, [x.enc q0 q1 q2 q3' q4]⟩)
  have hlen := k.1
  have n0 := List.nodup_append.1 hnd
  have n1 := List.nodup_append.1 n0.2.1
  have n2 := List.nodup_append.1 n1.2.1
  have n3 := List.nodup_append.1 n2.2.1
  have x0 : ∀ i ∈ f0, i ∉ f3 := fun i hi hj => n0.2.2 i hi i (by simp [hj]) rfl
  have x1 : ∀ i ∈ f1, i ∉ f3 := fun i hi hj => n1.2.2 i hi i (by simp [hj]) rfl
  have x2 : ∀ i ∈ f2, i ∉ f3 := fun i hi hj => n2.2.2 i hi i (by simp [hj]) rfl
  have x4 : ∀ i ∈ f4, i ∉ f3 := fun i hi hj => n3.2.2 i hj i hi rfl
  have l0 := i0.lt okMinder
  have l1 := i1.lt
  have l2 := i2.lt
  have l4 := i4.lt
  have dd : ∀ f : List Nat, (∀ i ∈ f, i ∈ f0 ++ (f1 ++ (f2 ++ (f3 ++ f4)))) → ∀ i ∈ f, i ∉ [id] := fun f h i hi hj => by simp at hj; subst hj; exact hid (h i hi)
  have d3 : ∀ i ∈ f3', i ∉ [id] := fun i hi hj => by
    simp at hj
    subst hj
    rcases hf i hi with h | h
    · exact hid (by simp [h])
    · omega
  have m0 : ∀ i ∈ f0, i ∉ [id] := dd f0 (fun i hi => by simp [hi])
  have m1 : ∀ i ∈ f1, i ∉ [id] := dd f1 (fun i hi => by simp [hi])
  have m2 : ∀ i ∈ f2, i ∉ [id] := dd f2 (fun i hi => by simp [hi])
  have m4 : ∀ i ∈ f4, i ∉ [id] := dd f4 (fun i hi => by simp [hi])
  have y0 : ∀ i ∈ f0, i ∉ f3' := fun i hi hj => by
    rcases hf i hj with h | h
    · exact x0 i hi h
    · have := l0 i hi; omega
  have y1 : ∀ i ∈ f1, i ∉ f3' := fun i hi hj => by
    rcases hf i hj with h | h
    · exact x1 i hi h
    · have := l1 i hi; omega
  have y2 : ∀ i ∈ f2, i ∉ f3' := fun i hi hj => by
    rcases hf i hj with h | h
    · exact x2 i hi h
    · have := l2 i hi; omega
  have y4 : ∀ i ∈ f3', i ∉ f4 := fun i hi hj => by
    rcases hf i hi with h | h
    · exact x4 i hj h
    · have := l4 i hj; omega
  have z34 : ∀ i ∈ f2, i ∉ f4 := fun i hi hj => n2.2.2 i hi i (by simp [hj]) rfl
  refine ⟨_, f0 ++ (f1 ++ (f2 ++ (f3' ++ f4))), blkAt_set (by omega), ⟨q0, q1, q2, q3', q4, f0, f1, f2, f3', f4, rfl, (i0.keep okMinder k x0).keep okMinder ks m0, (i1.keep k x1).keep ks m1, (i2.keep k x2).keep ks m2, o.keep ks d3, (i4.keep k x4).keep ks m4, rfl, ?_⟩, ?_, ?_, ?_⟩
  · refine nodup_app n0.1 (nodup_app n1.1 (nodup_app n2.1 (nodup_app o.nodup n3.2.1 y4) fun i hi hj => ?_) fun i hi hj => ?_) fun i hi hj => ?_
    · rcases List.mem_append.1 hj with hj | hj
      · exact y2 i hi hj
      · exact z34 i hi hj
    · rcases List.mem_append.1 hj with hj | hj
      · exact n1.2.2 i hi i (by simp [hj]) rfl
      · rcases List.mem_append.1 hj with hj | hj
        · exact y1 i hi hj
        · exact n1.2.2 i hi i (by simp [hj]) rfl
    · rcases List.mem_append.1 hj with hj | hj
      · exact n0.2.2 i hi i (by simp [hj]) rfl
      · rcases List.mem_append.1 hj with hj | hj
        · exact n0.2.2 i hi i (by simp [hj]) rfl
        · rcases List.mem_append.1 hj with hj | hj
          · exact y0 i hi hj
          · exact n0.2.2 i hi i (by simp [hj]) rfl
  · intro h
    simp only [List.mem_append] at h
    rcases h with h | h | h | h | h
    · exact m0 id h (by simp)
    · exact m1 id h (by simp)
    · exact m2 id h (by simp)
    · exact d3 id h (by simp)
    · exact m4 id h (by simp)
  · exact k.trans ks (fun i hi _ => by simp [hi]) (fun i hi _ => by simp at hi; simp [hi])
  · intro i hi
    simp only [List.mem_append] at hi ⊢
    rcases hi with h | h | h | h | h
    · exact .inl (.inl h)
    · exact .inl (.inr (.inl h))
    · exact .inl (.inr (.inr (.inl h)))
    · rcases hf i h with h | h
      · exact .inl (.inr (.inr (.inr (.inl h))))
      · exact .inr h
    · exact .inl (.inr (.inr (.inr (.inr h))))

structure Small (y : Box) : Prop where
  two : y.two.length = 2
  log : ∀ m ∈ y.two, m.log.length ≤ 61
  net : y.net.length ≤ 22
  gates : y.gates.length ≤ 4
  line : y.line.length ≤ 61
  said : y.said.length ≤ 40
theorem Small.sz {y : Box} (h : Small y) : y.sz ≤ 1000 := by
  obtain ⟨h1, h2, h3, h4, h5, h6⟩ := h
  obtain ⟨id, ports, reg, two, net, gates, line, said⟩ := y
  match two, h1 with
  | [m, n], _ =>
    have a := h2 m (by simp)
    have b := h2 n (by simp)
    simp [Box.sz, MinderS.sz, Minder.sz] at *
    omega
theorem Small.setTwo {y : Box} (h : Small y) (s : Nat) {m : Minder} (hm : m.log.length ≤ 61) : Small (setTwo y s m) :=
  ⟨(List.length_set).trans h.two, fun k hk => by
    rcases List.mem_or_eq_of_mem_set hk with hk | rfl
    · exact h.log k hk
    · exact hm, h.net, h.gates, h.line, h.said⟩
theorem Small.setNet {y : Box} (h : Small y) {ws : List Wire} (hw : ws.length ≤ 22) : Small (setNet y ws) := ⟨h.two, h.log, hw, h.gates, h.line, h.said⟩
theorem Small.setReg {y : Box} (h : Small y) (r : Reg) : Small (setReg y r) := ⟨h.two, h.log, h.net, h.gates, h.line, h.said⟩
theorem Small.setLine {y : Box} (h : Small y) {l : List In} (hl : l.length ≤ 61) : Small (setLine y l) := ⟨h.two, h.log, h.net, h.gates, hl, h.said⟩
theorem Small.send {y : Box} (h : Small y) (w : Wire) : Small (sendD y w).1 := by
  unfold sendD
  split
  · exact h
  · exact h.setNet (by simp; omega)
theorem Small.accept {x : Box} (h : Small x) (L : List Out) : Small (acceptB x L) :=
  ⟨h.two, h.log, h.net, Nat.le_trans (Nat.le_of_eq (accGates_len L x.gates)) h.gates, h.line, (lastL_len (x.said ++ L)).1⟩
theorem note_len (m : Minder) (i : In) : (note m i).1.log.length ≤ m.log.length + 1 := by unfold note; split <;> simp
theorem takeR_log (r : Reg) (s : Int) (m : Minder) : (takeR r s m).2.1.log = m.log := by unfold takeR; split <;> rfl
theorem Box.smallOf {x : Box} (h : x.ok = true) : Small x ∧ x.line.length ≤ 60 ∧ x.net.length ≤ 20 ∧ ∀ m ∈ x.two, m.log.length ≤ 60 := by
  simp only [Box.ok, Bool.and_eq_true, decide_eq_true_eq, List.all_eq_true] at h
  obtain ⟨⟨⟨⟨⟨⟨⟨⟨h1, h2⟩, h3⟩, h4⟩, h5⟩, h6⟩, h7⟩, h8⟩, h9⟩ := h
  have hb := bridgeNew_yes h1
  have hl : x.line.length ≤ 60 := by simp [logOk] at h8; omega
  have hm : ∀ m ∈ x.two, m.log.length ≤ 60 := fun m hm => by
    have a := h5 m hm
    simp [Minder.ok, logOk] at a; omega
  exact ⟨⟨h3, fun m h => by have := hm m h; omega, by omega, by omega, by omega, h9⟩, hl, h4, hm⟩
theorem mAt_log {x : Box} {n : Nat} (h : ∀ m ∈ x.two, m.log.length ≤ n) (s : Int) : (mAt x s).log.length ≤ n := by
  unfold mAt
  rcases Nat.lt_or_ge s.toNat x.two.length with hl | hl
  · rw [List.getD_eq_getElem?_getD, List.getElem?_eq_getElem hl]
    exact h _ (List.getElem_mem hl)
  · rw [List.getD_eq_getElem?_getD, List.getElem?_eq_none hl]
    exact Nat.zero_le _
theorem Small.heard {y : Box} (h : Small y) (hl : ∀ m ∈ y.two, m.log.length ≤ 60) (w : Wire) : Small (heardD y w) := by
  unfold heardD
  have hm := mAt_log hl (1 - w.frm)
  have hm61 : (mAt y (1 - w.frm)).log.length ≤ 61 := by omega
  have hn := note_len (mAt y (1 - w.frm)) w.inn
  dsimp only
  split
  · exact h
  · split
    · split
      · exact h.setTwo _ hm61
      · exact h
    · split
      · exact h
      · refine Small.send ?_ _
        split
        · exact h.setTwo _ (by omega)
        · exact h
theorem deedD_small {x : Box} (hok : x.ok = true) (d : Deed) : Small (deedD x d).1 := by
  obtain ⟨h, hl, hw, hm⟩ := Box.smallOf hok
  have hmA := mAt_log hm
  have hE : ∀ i, (x.net.eraseIdx i).length ≤ 22 := fun i => by have := List.length_eraseIdx_le x.net i; omega
  unfold deedD
  split
  · unfold inD
    split
    · exact h
    · split
      · exact h.setTwo _ (by have := note_len (mAt x (whoM x)) d.inn; have := hmA (whoM x); omega)
      · exact h
  split
  · unfold sayD
    split
    · exact h
    · dsimp only
      have hx : Small (setTwo (acceptB x (saying x.id x.ports (mAt x (whoM x)).log (mAt x (whoM x)).said)) (whoM x).toNat ⟨(mAt x (whoM x)).up, (mAt x (whoM x)).life, (mAt x (whoM x)).epoch, (mAt x (whoM x)).log, (mAt x (whoM x)).said + 1, (mAt x (whoM x)).acked, (mAt x (whoM x)).ackLife⟩) := by
        exact Small.setTwo (h.accept _) _ (show (mAt x (whoM x)).log.length ≤ 61 by have := hmA (whoM x); omega)
      split
      · exact hx.setLine (by simp; omega)
      · exact hx
  split
  · unfold onWireD
    split
    · exact h
    · split
      · exact h.send _
      · split
        · exact h.setNet (hE _)
        · exact Small.heard (h.setNet (hE _)) hm _
  split
  · exact h
  unfold onMinderD
  dsimp only
  have hnl : (newLife x).log.length ≤ 61 := Nat.zero_le _
  split
  · unfold shipD
    split
    · exact h
    · exact h.send _
  split
  · unfold takeD
    dsimp only
    split
    · exact h
    · split
      · exact h
      · refine Small.setTwo (h.setReg _) _ ?_
        simp only [takeR_log]
        have := hmA d.a; omega
  split
  · unfold pairD
    split
    · exact h.setReg _
    · exact h
  split
  · unfold pairD
    split
    · exact h.setReg _
    · exact h
  split
  · split
    · exact h
    · exact h.setTwo _ hnl
  split
  · exact h
  split
  · split
    · exact h
    · exact h.setTwo _ hnl
  · exact h.setTwo _ (Nat.zero_le _)

/-- A box's value in memory of its own, that was fp's before or is new. -/
def BoxVal (H H' : Heap) (fp : List Nat) (l' : List Lf) (y : Box) : Prop := ∃ fp', IsBox H' l' y fp' ∧ Keep fp H H' ∧ ∀ i ∈ fp', i ∈ fp ∨ H.length ≤ i
theorem BoxVal.len {H H' : Heap} {fp : List Nat} {l' : List Lf} {y : Box} (h : BoxVal H H' fp l' y) : l'.length = 10 := let ⟨_, h1, _⟩ := h; h1.len
theorem BoxVal.leave {H H' : Heap} {fp : List Nat} {l' : List Lf} {y : Box} (h : BoxVal H H' fp l' y) {ws : List W} (hw : ws.all W.free = true → l'.all refFree = true) : BoxVal H (Go.Ab.leave H H' ws) fp l' y := by
  rcases leave_opt H H' ws with e | ⟨e, hf⟩ <;> rw [e]
  · exact h
  · obtain ⟨fp', h1, h2, h3⟩ := h
    exact ⟨[], h1.free (hw hf) H, Keep.refl _ _, by simp⟩
theorem BoxTo.val {H G HX : Heap} {c : Nat} {fp : List Nat} {y : Box} (hfp : ∀ i ∈ fp, i < H.length) (h : BoxTo (H ++ G) HX H.length fp y) (hc : H.length < c) (hc2 : c < (H ++ G).length) :
    ∃ l', blkAt HX H.length = some ⟨44, .wr, [l']⟩ ∧ l'.length = 10 ∧ l'.take 10 = l' ∧ BoxVal H (HX.set c (some ⟨44, .wr, [l']⟩)) fp l' y ∧ Keep (H.length :: fp) (H ++ G) HX := by
  obtain ⟨l', fp', h1, h2, h3, h4, h5⟩ := h
  have hl := h2.len
  have hcf : ∀ i ∈ fp', i ∉ [c] := fun i hi hj => by
    simp at hj
    rcases h5 i hi with h | h
    · have := hfp i h; omega
    · omega
  refine ⟨l', h1, hl, by rw [← hl]; exact List.take_length, ⟨fp', h2.keep (Keep.set _ _) hcf, ?_, fun i hi => ?_⟩, h4⟩
  · refine ((Keep.app [] H G).trans h4 (h := fp) (by simp) (fun i hi hlt => ?_)).trans (Keep.set _ _) (fun _ h _ => h) (fun i hi hlt => ?_)
    · rcases List.mem_cons.1 hi with rfl | hi
      · omega
      · exact hi
    · simp at hi; omega
  · rcases h5 i hi with h | h
    · exact .inl h
    · exact .inr (by simp at h; omega)

theorem l1Max (H : Heap) (a b : Int) : run env 81 [.int a, .int b] H = some (.int (max a b), H) := by
  refine run_walk ok81 Tryz.func81 rfl (by simp [Tryz.f81]) fun Q hQ => ?_
  simp only [Tryz.f81, strip, stripL, stripI, stripG, chkT, tagsB, tagsL, tagD, addT, tagA, lookN, tagOp, elmT, ty22, ty29, ty33, ty39, ty40, ty41, ty42, ty69, ty71, ty95, Nat.reduceEqDiff, if_false, reduceIte, Option.getD_some, Option.getD_none, dstAt, dstOk, Nat.reduceLT, decide_true, if_true]
  simp
  refine selS_intro (fun h => ?_) (fun h => ?_)
  · simp at h
    simp
    refine hQ _ _ _ (by simp) ?_
    simp [Tryz.f81, show max a b = a by omega]
  · simp at h
    simp
    refine hQ _ _ _ (by simp) ?_
    simp [Tryz.f81, show max a b = b by omega]

theorem mindsAt_s {x : Box} (h2 : x.two.length = 2) {s : Nat} (hs : s < 2) : mindsAt x s = minds x.reg s (x.two.getD s zM) := by
  unfold mindsAt
  have h1 : (s : Int) ≤ (x.two.length : Int) - 1 := by omega
  simp [h1]
theorem whoM_of {x : Box} (h2 : x.two.length = 2) {s : Nat} (hs : s < 2) (hm : mindsAt x s = true) (hno : ∀ k : Nat, k < s → mindsAt x k = false) : whoM x = s := by
  unfold whoM
  obtain rfl | rfl : s = 0 ∨ s = 1 := by omega
  · rw [mindsAt_s h2 hs] at hm
    exact if_pos hm
  · have h0 := hno 0 (by omega)
    rw [mindsAt_s h2 (by omega)] at h0 hm
    have h0' : ¬ minds x.reg 0 (x.two.getD 0 zM) = true := by intro h; rw [show ((0 : Nat) : Int) = 0 from rfl] at h0; rw [h0] at h; cases h
    rw [if_neg h0']; exact if_pos hm
theorem whoM_no {x : Box} (h2 : x.two.length = 2) (hno : ∀ k : Nat, k < 2 → mindsAt x k = false) : whoM x = -1 := by
  unfold whoM
  have h0 := hno 0 (by omega)
  have h1 := hno 1 (by omega)
  rw [mindsAt_s h2 (by omega)] at h0 h1
  rw [if_neg (by intro h; rw [show ((0 : Nat) : Int) = 0 from rfl] at h0; rw [h0] at h; cases h), if_neg (by intro h; rw [show ((1 : Nat) : Int) = 1 from rfl] at h1; rw [h1] at h; cases h)]
theorem l15Who {H : Heap} {l : List Lf} {x : Box} (h : RdBox H l x) (h2 : x.two.length = 2) (hn : x.sz ≤ 1048576) : run env 96 [.agg l] H = some (.int (whoM x), H) := by
  have e1 := fun G s => l14Minds (h.app G) hn s
  obtain ⟨Q0, Q1, Q2, Q3, Q4, rfl, -⟩ := h
  simp only [Box.enc] at e1 ⊢
  refine run_walk ok96 Tryz.func96 rfl (by simp [Tryz.f96]) fun Q hQ => ?_
  simp only [Tryz.f96, strip, stripL, stripI, stripG, chkT, tagsB, tagsL, tagD, addT, tagA, lookN, tagOp, elmT, ty22, ty29, ty33, ty39, ty40, ty41, ty42, ty69, ty71, ty95, Nat.reduceEqDiff, if_false, reduceIte, Option.getD_some, Option.getD_none, dstAt, dstOk, Nat.reduceLT, decide_true, if_true]
  simp
  obtain ⟨B, hB⟩ : ∃ B : Option Blk, B = some ⟨44, .wr, [[.i .i64 x.id, .i .i64 x.ports, .i .i64 x.reg.epoch, .i .i64 x.reg.owner, .i .i64 x.reg.pair, Q0, Q1, Q2, Q3, Q4]]⟩ := ⟨_, rfl⟩
  refine wpS_loop (fun j tm H' => ∃ i, i + j = 2 ∧ tm 1 = .ptr H.length 0 0 ∧ tm 3 = .int i ∧ H' = H ++ [B] ∧ ∀ k : Nat, k < i → mindsAt x k = false) 2 (by rw [env_K]; omega) ⟨0, by simp, by simp, by simp, by simp [hB], by simp⟩ ?_
  rintro j tm H1 hj ⟨i, hij, t1, t3, rfl, hno⟩ Q2 hn2 he2 hr2
  simp [t1, t3]
  refine selS_intro (fun hc => ?_) (fun hc => ?_)
  · simp at hc
    have g4 : IntKind.i64.wrap ((i : Int) + 1) = (i : Int) + 1 := wrap64 (by omega) (by omega)
    simp [t1, t3, hB, e1, g4]
    cases hm : mindsAt x i
    · simp [t1, t3, g4]
      exact hn2 (j - 1) _ _ (by omega) ⟨i + 1, by omega, by simp [t1], by simp, by rw [hB], fun k hk => by
        rcases Nat.lt_or_ge k i with h | h
        · exact hno k h
        · obtain rfl : k = i := by omega
          exact hm⟩
    · simp [t1, t3]
      refine hr2 _ _ ?_
      simp
      refine hQ _ _ _ (by simp) ?_
      simp [Tryz.f96]
      exact (whoM_of h2 (by omega) hm hno).symm
  · simp at hc
    obtain rfl : i = 2 := by omega
    simp [t1, t3]
    refine he2 _ _ _ ?_
    simp
    refine hQ _ _ _ (by simp) ?_
    simp [Tryz.f96]
    exact (whoM_no h2 hno).symm

theorem l15Rise {H : Heap} {l : List Lf} {x : Box} (h : RdBox H l x) (hok : x.ok = true) : run env 103 [.agg l] H = some (.agg [.b true, .i .i64 (newLife x).life, .i .i64 0, .sl none 0, .i .i64 0, .i .i64 0, .i .i64 0], H) := by
  have h2 := (Box.right hok).two
  obtain ⟨Q0, Q1, Q2, Q3, Q4, rfl, ⟨a0, rws, rfl, hs, hlen, hat⟩, -⟩ := h
  have hr0 : 0 < rws.length := by omega
  have hr1 : 1 < rws.length := by omega
  obtain ⟨id, r, bl, rfl, hbl, hbe, hrow0⟩ := hs 0 _ (List.getElem?_eq_getElem hr0)
  obtain ⟨id', r', bl', hx, hbl', -, hrow1⟩ := hs 1 _ (List.getElem?_eq_getElem hr1)
  cases hx
  rw [hbl] at hbl'
  injection hbl' with hbl'
  subst hbl'
  obtain ⟨p0, hp0, -⟩ := hat 0 _ _ (List.getElem?_eq_getElem hr0) (List.getElem?_eq_getElem (by omega))
  obtain ⟨p1, hp1, -⟩ := hat 1 _ _ (List.getElem?_eq_getElem hr1) (List.getElem?_eq_getElem (by omega))
  rw [hp0] at hrow0
  rw [hp1] at hrow1
  have hid := blkAt_len hbl
  have m0 := (Box.right hok).ok _ (List.getElem_mem (show 0 < x.two.length by omega))
  have m1 := (Box.right hok).ok _ (List.getElem_mem (show 1 < x.two.length by omega))
  have l0 : 0 ≤ x.two[0].life ∧ x.two[0].life ≤ 100000 := by simp [Minder.ok] at m0; omega
  have l1 : 0 ≤ x.two[1].life ∧ x.two[1].life ≤ 100000 := by simp [Minder.ok] at m1; omega
  have e0 : mAt x 0 = x.two[0] := by simp [mAt, List.getD, List.getElem?_eq_getElem (show 0 < x.two.length by omega)]
  have e1 : mAt x 1 = x.two[1] := by simp [mAt, List.getD, List.getElem?_eq_getElem (show 1 < x.two.length by omega)]
  have hw : IntKind.i64.wrap (max x.two[0].life x.two[1].life + 1) = max x.two[0].life x.two[1].life + 1 := wrap64 (by omega) (by omega)
  have hnl : (newLife x).life = max x.two[0].life x.two[1].life + 1 := by rw [newLife, e0, e1]
  rw [hnl]
  simp only [Box.enc, h2]
  simp only [Nat.add_zero] at hrow0
  have hbA := fun G => blkAt_app hbl G
  have hid2 : id < H.length + 2 := by omega
  refine run_walk ok103 Tryz.func103 rfl (by simp [Tryz.f103]) fun Q hQ => ?_
  simp only [Tryz.f103, strip, stripL, stripI, stripG, chkT, tagsB, tagsL, tagD, addT, tagA, lookN, tagOp, elmT, ty22, ty29, ty33, ty39, ty40, ty41, ty42, ty69, ty71, ty95, Nat.reduceEqDiff, if_false, reduceIte, Option.getD_some, Option.getD_none, dstAt, dstOk, Nat.reduceLT, decide_true, if_true]
  simp [hbA, hid2, indexAddrV, elemIs, hbe, hrow0, hrow1, Minder.enc, l1Max, hw]
  refine hQ _ _ _ (by simp) ?_
  simp [Tryz.f103]

/-- One wire more behind a box's, in memory of its own. -/
theorem boxApp {H : Heap} {id : Nat} {l : List Lf} {y : Box} {g : List Nat} (hb : blkAt H id = some ⟨44, .wr, [l]⟩) (hI : IsBox H l y g) (hid : id ∉ g) :
    ∃ (a1 : Option (Nat × Nat)) (q0 q2 q3 q4 : Lf) (f1 : List Nat), l = y.enc q0 (.sl a1 y.net.length) q2 q3 q4 ∧ Own H 82 a1 (y.net.map Wire.enc) f1 ∧ (∀ i ∈ f1, i ∈ g) ∧
      ∀ (H2 : Heap) (q1' : Lf) (ws : List Wire) (fp'' : List Nat), Keep f1 H H2 → IsWireS H2 q1' ws fp'' → (∀ i ∈ fp'', i ∈ f1 ∨ H.length ≤ i) →
        blkAt H2 id = some ⟨44, .wr, [l]⟩ ∧ BoxTo H (H2.set id (some ⟨44, .wr, [y.enc q0 q1' q2 q3 q4]⟩)) id g (setNet y ws) := by
  obtain ⟨q0, q1, q2, q3, q4, f0, f1, f2, f3, f4, rfl, i0, ⟨a1, rfl, o1⟩, i2, i3, i4, rfl, hnd⟩ := hI
  refine ⟨a1, q0, q2, q3, q4, f1, rfl, o1, fun i hi => by simp [hi], fun H2 q1' ws fp'' k o hf => ⟨k.blk hb (fun h => hid (by simp [h])), ?_⟩⟩
  exact boxNet (blkAt_len hb) hid i0 i2 i3 i4 hnd k o hf

/-- A box's value put back behind the pointer. -/
theorem BoxVal.to {H H' : Heap} {id : Nat} {fp : List Nat} {l' : List Lf} {y : Box} (h : BoxVal H H' fp l' y) (hid : id ∉ fp) (hl : id < H.length) : BoxTo H (H'.set id (some ⟨44, .wr, [l']⟩)) id fp y := by
  obtain ⟨fp', h1, h2, h3⟩ := h
  have hn : id ∉ fp' := fun h => by
    rcases h3 id h with h | h
    · exact hid h
    · omega
  exact ⟨l', fp', blkAt_set (Nat.lt_of_lt_of_le hl h2.1), h1.keep (Keep.set _ _) (fun i hi hj => by simp at hj; subst hj; exact hn hi), hn, h2.trans (Keep.set _ _) (fun i hi _ => by simp [hi]) (fun i hi _ => by simp at hi; simp [hi]), h3⟩

theorem l15In {H : Heap} {l : List Lf} {x : Box} {fp : List Nat} (hI : IsBox H l x fp) (hok : Small x) (d : Deed) :
    Runs env 82 [.agg l, .agg d.enc] H fun v H' => ∃ l', v = .tup [.agg l', .lf (.i .i64 (inD x d.inn).2)] ∧ BoxVal H H' fp l' (inD x d.inn).1 := by
  have hsz := hok.sz
  have h2 := hok.two
  have hlt := hI.lt
  have hid : H.length ∉ fp := fun h => by have := hlt _ h; omega
  obtain ⟨q0, q1, q2, q3, q4, rfl⟩ : ∃ q0 q1 q2 q3 q4, l = x.enc q0 q1 q2 q3 q4 := by
    obtain ⟨q0, q1, q2, q3, q4, _, _, _, _, _, rfl, -⟩ := hI
    exact ⟨q0, q1, q2, q3, q4, rfl⟩
  obtain ⟨R, hR⟩ : ∃ R, R = inD x d.inn := ⟨_, rfl⟩
  rw [← hR]
  refine Runs.walk ok82 Tryz.func82 rfl (by simp [Tryz.f82]) fun Q hQ => ?_
  simp only [Tryz.f82, strip, stripL, stripI, stripG, chkT, tagsB, tagsL, tagD, addT, tagA, lookN, tagOp, elmT, ty22, ty29, ty33, ty39, ty40, ty41, ty42, ty69, ty71, ty95, Nat.reduceEqDiff, if_false, reduceIte, Option.getD_some, Option.getD_none, dstAt, dstOk, Nat.reduceLT, decide_true, if_true]
  have fin : ∀ (HX : Heap) (tm : Ab.T) (c : Int) (y : Box) (l' : List Lf), R = (y, c) → BoxVal H HX fp l' y → tm 5 = .int c → tm 4 = .ptr (H.length + 2) 0 0 → blkAt HX (H.length + 2) = some ⟨44, .wr, [l']⟩ → Q .ret tm HX := by
    intro HX tm c y l' h1 hv t5 t4 hb4
    have hL' := hv.len
    have hT' : l'.take l'.length = l' := List.take_length
    rw [hL'] at hT'
    refine hQ _ _ _ (by simp) ?_
    have hres : resT env.τ tm HX (Tryz.f82.results.toList) = some [W.agg l', W.lf (.i .i64 c)] := by simp [Tryz.f82, t4, t5, hb4, hL', hT']
    rw [hres, optK_some, h1]
    exact ⟨_, rfl, hv.leave (by simp)⟩
  simp [Box.enc, Deed.enc, Wire.enc]
  obtain ⟨X, hX⟩ : ∃ X : Heap, X = H ++ [some ⟨44, .wr, [[.i .i64 x.id, .i .i64 x.ports, .i .i64 x.reg.epoch, .i .i64 x.reg.owner, .i .i64 x.reg.pair, q0, q1, q2, q3, q4]]⟩, some ⟨117, .wr, [[.i .i64 d.kind, .i .i64 d.a, .i .i64 d.inn.kind, .i .i64 d.inn.port, .i .i64 d.inn.vec.root, .i .i64 d.inn.vec.cost, .i .i64 d.inn.vec.bridge, .i .i64 d.inn.vec.port, .i .i64 d.inn.hops, .b d.inn.up]]⟩, some ⟨44, .wr, [[.i .i64 0, .i .i64 0, .i .i64 0, .i .i64 0, .i .i64 0, .sl none 0, .sl none 0, .sl none 0, .sl none 0, .sl none 0]]⟩] := ⟨_, rfl⟩
  have b0 : blkAt X H.length = some ⟨44, .wr, [[.i .i64 x.id, .i .i64 x.ports, .i .i64 x.reg.epoch, .i .i64 x.reg.owner, .i .i64 x.reg.pair, q0, q1, q2, q3, q4]]⟩ := by rw [hX]; simp
  have d0 := blkAt_len b0
  have bz : blkAt X (H.length + 2) = some ⟨44, .wr, [[.i .i64 0, .i .i64 0, .i .i64 0, .i .i64 0, .i .i64 0, .sl none 0, .sl none 0, .sl none 0, .sl none 0, .sl none 0]]⟩ := by rw [hX]; simp
  have dz := blkAt_len bz
  have bD : blkAt X (H.length + 1) = some ⟨117, .wr, [[.i .i64 d.kind, .i .i64 d.a, .i .i64 d.inn.kind, .i .i64 d.inn.port, .i .i64 d.inn.vec.root, .i .i64 d.inn.vec.cost, .i .i64 d.inn.vec.bridge, .i .i64 d.inn.vec.port, .i .i64 d.inn.hops, .b d.inn.up]]⟩ := by rw [hX]; simp
  have dD := blkAt_len bD
  rw [← hX]
  have kX : Keep [] H X := by rw [hX]; exact Keep.app _ _ _
  have hI1 : IsBox X (x.enc q0 q1 q2 q3 q4) x fp := hI.keep kX (by simp)
  have val : ∀ (HX : Heap) (y : Box), BoxTo X HX H.length fp y → ∃ l', blkAt HX H.length = some ⟨44, .wr, [l']⟩ ∧ l'.length = 10 ∧ l'.take 10 = l' ∧ BoxVal H (HX.set (H.length + 2) (some ⟨44, .wr, [l']⟩)) fp l' y ∧ Keep (H.length :: fp) X HX := by
    intro HX y h
    rw [hX] at h ⊢
    exact h.val hlt (by omega) (by simp)
  have off : ∀ k : Nat, 0 < k → H.length + k ∉ H.length :: fp := fun k hk h => by
    rcases List.mem_cons.1 h with h | h
    · omega
    · have := hlt _ h; omega
  have done : ∀ (HX : Heap) (y : Box) (c : Int) (_ : R = (y, c)) (_ : BoxTo X HX H.length fp y), ∃ l', blkAt HX H.length = some ⟨44, .wr, [l']⟩ ∧ l'.length = 10 ∧ l'.take 10 = l' ∧ H.length < HX.length ∧ H.length + 2 < HX.length ∧ blkAt HX (H.length + 2) = some ⟨44, .wr, [[.i .i64 0, .i .i64 0, .i .i64 0, .i .i64 0, .i .i64 0, .sl none 0, .sl none 0, .sl none 0, .sl none 0, .sl none 0]]⟩ ∧ ∀ tm : Ab.T, tm 5 = .int c → tm 4 = .ptr (H.length + 2) 0 0 → Q .ret tm (HX.set (H.length + 2) (some ⟨44, .wr, [l']⟩)) := by
    intro HX y c h1 h
    obtain ⟨l', v1, v2, v3, v4, v5⟩ := val HX y h
    have hz := v5.blk bz (off _ (by omega))
    have hzl := blkAt_len hz
    exact ⟨l', v1, v2, v3, blkAt_len v1, hzl, hz, fun tm t5 t4 => fin _ tm c y l' h1 v4 t5 t4 (blkAt_set hzl)⟩
  have doneL : ∀ (HX : Heap) (y : Box) (c : Int) (L : List Lf) (_ : R = (y, c)) (_ : blkAt HX H.length = some ⟨44, .wr, [L]⟩) (_ : BoxTo X HX H.length fp y), H.length < HX.length ∧ H.length + 2 < HX.length ∧ blkAt HX (H.length + 2) = some ⟨44, .wr, [[.i .i64 0, .i .i64 0, .i .i64 0, .i .i64 0, .i .i64 0, .sl none 0, .sl none 0, .sl none 0, .sl none 0, .sl none 0]]⟩ ∧ ∀ tm : Ab.T, tm 5 = .int c → tm 4 = .ptr (H.length + 2) 0 0 → Q .ret tm (HX.set (H.length + 2) (some ⟨44, .wr, [L]⟩)) := by
    intro HX y c L h1 hb h
    obtain ⟨l', w1, w2, w3, w4, w5, w6, w7⟩ := done HX y c h1 h
    rw [hb] at w1
    injection w1 with w1
    simp only [Blk.mk.injEq, List.cons.injEq, and_true, true_and] at w1
    subst w1
    exact ⟨w4, w5, w6, w7⟩
  have same : ∀ (G : Heap) (c : Int) (_ : R = (x, c)) (tm : Ab.T), tm 5 = .int c → tm 4 = .ptr (H.length + 2) 0 0 → Q .ret tm ((X ++ G).set (H.length + 2) (some ⟨44, .wr, [[.i .i64 x.id, .i .i64 x.ports, .i .i64 x.reg.epoch, .i .i64 x.reg.owner, .i .i64 x.reg.pair, q0, q1, q2, q3, q4]]⟩)) := by
    intro G c h1 tm t5 t4
    obtain ⟨l', w1, -, -, -, -, -, w7⟩ := done (X ++ G) x c h1 (BoxTo.app b0 hI1 hid G)
    rw [blkAt_app b0] at w1
    injection w1 with w1
    simp only [Blk.mk.injEq, List.cons.injEq, and_true, true_and] at w1
    subst w1
    exact w7 tm t5 t4
  have same0 : ∀ (c : Int) (_ : R = (x, c)) (tm : Ab.T), tm 5 = .int c → tm 4 = .ptr (H.length + 2) 0 0 → Q .ret tm (X.set (H.length + 2) (some ⟨44, .wr, [[.i .i64 x.id, .i .i64 x.ports, .i .i64 x.reg.epoch, .i .i64 x.reg.owner, .i .i64 x.reg.pair, q0, q1, q2, q3, q4]]⟩)) := by
    intro c h1 tm t5 t4
    have := same [] c h1 tm t5 t4
    rwa [List.append_nil] at this
  have e1 := l15Who (hI1.rd) h2 (by omega)
  simp only [Box.enc] at e1
  have e2 := fun H => specInOk H d.inn
  simp only [In.enc] at e2
  simp [e1]
  by_cases hneg : whoM x < 0
  · simp [hneg, b0, d0, bz, dz]
    exact same0 3 (by rw [hR, inD, if_pos (.inl hneg)]) _ (by simp) (by simp)
  obtain ⟨s, hs2, hw⟩ : ∃ s : Nat, s < 2 ∧ whoM x = (s : Int) := by
    rcases whoM_cases x with ⟨h, -⟩ | ⟨h, -⟩ | ⟨h, -⟩
    · exact ⟨0, by omega, h⟩
    · exact ⟨1, by omega, h⟩
    · omega
  have hs : s < x.two.length := by omega
  rw [hw] at hneg ⊢
  cases hio : d.inn.ok
  · simp [hneg, b0, d0, bz, dz, bD, dD, e2, hio]
    exact same0 3 (by rw [hR, inD, if_pos (.inr (.inl hio))]) _ (by simp) (by simp)
  by_cases hpo : x.ports ≤ d.inn.port
  · simp [hneg, b0, d0, bz, dz, bD, dD, e2, hio, hpo]
    exact same0 3 (by rw [hR, inD, if_pos (.inr (.inr hpo))]) _ (by simp) (by simp)
  obtain ⟨bid, blo, r1, r2, r3, r4, row, fs, hl, hbne, hbl, hbb, hbe, hbm, hrow, hrd, hbfs, hidfs, hput⟩ := boxTwoOwn b0 hI1 hid hs
  simp only [Box.enc, List.cons.injEq, and_true, true_and] at hl
  obtain ⟨rfl, rfl, rfl, rfl, rfl⟩ := hl
  have hbH : bid < H.length := by
    have h1 := hI.rd
    obtain ⟨_, _, _, _, _, e1, ⟨a0, rws, e2, hss, hll, _⟩, -⟩ := h1
    simp only [Box.enc, List.cons.injEq, and_true, true_and] at e1
    obtain ⟨e1, -⟩ := e1
    rw [e2] at e1
    injection e1 with e1
    rw [← e1] at hss
    exact hss.len (by rintro rfl; simp at hll; omega)
  have b0s := b0
  rw [h2] at b0 same same0
  obtain ⟨m, hm⟩ : ∃ m, m = x.two[s] := ⟨_, rfl⟩
  rw [← hm] at hrd
  have hmx : m ∈ x.two := by rw [hm]; exact List.getElem_mem hs
  have hmlog := hok.log m hmx
  have hmsz : m.sz ≤ 1048576 := by unfold Minder.sz; omega
  have hmA : mAt x (s : Int) = m := by simp [mAt, List.getD, List.getElem?_eq_getElem hs, hm]
  have hrdR := hrd.rd
  obtain ⟨a, rfl, oa⟩ := hrd
  have hrow' := hrow
  simp only [Minder.enc] at hrow
  have hs0 : (0 : Int) ≤ s := by omega
  have hsl2 : (s : Int) < 2 := by omega
  have hrl : s < blo.rows.length := (List.getElem?_eq_some_iff.1 hrow).1
  have hse : ∀ (Y : Heap) (y : Option Blk) (k : Nat), blkAt (List.set Y bid y) (H.length + k) = blkAt Y (H.length + k) := fun Y y k => blkAt_set_ne (by omega)
  have hse0 : ∀ (Y : Heap) (y : Option Blk), blkAt (List.set Y bid y) H.length = blkAt Y H.length := fun Y y => blkAt_set_ne (by omega)
  have hin : inD x d.inn = if (note m d.inn).2 = true then (setTwo x s (note m d.inn).1, 0) else (x, 4) := by
    rw [inD, if_neg (by rw [hw, hio]; intro h; simp at h; omega), hw, Int.toNat_natCast, hmA]
  have hrun := specNote_is hrdR hmsz d.inn
  simp only [In.enc, Minder.enc] at hrun
  simp [hneg, b0, d0, bz, dz, bD, dD, e2, hio, hpo, indexAddrV, elemIs, hbb, hbl, hbe, hs2, hs0, hsl2, hrow, h2]
  refine stpL_runs_f hrun (by rintro _ _ ⟨_, _, _, _, hf⟩; exact hf.1) ?_
  rintro _ _ ⟨l2, f2, rfl, o2, ⟨⟨G2, rfl⟩, hf2⟩⟩
  have hL2 := o2.len
  have hT2 : l2.take l2.length = l2 := List.take_length
  rw [hL2] at hT2
  have b0A := fun G => blkAt_app b0 G
  have bzA := fun G => blkAt_app bz G
  have hbbA := fun G => blkAt_app hbb G
  simp [hL2, hT2]
  cases hnote : (note m d.inn).2
  · rw [if_neg (by simp [hnote])] at hin
    simp [b0A, bzA, show H.length < X.length + (G2.length + 1) by omega, show H.length + 2 < X.length + (G2.length + 1) by omega, show H.length < X.length + (G2.length + 1 + 1) by omega, show H.length + 2 < X.length + (G2.length + 1 + 1) by omega]
    exact same _ 4 (by rw [hR, hin]) _ (by simp) (by simp)
  · rw [if_pos hnote] at hin
    have o2' := o2.app [some ⟨35, .wr, [l2]⟩]
    simp only [List.append_assoc] at o2'
    obtain ⟨fp', z1, z2, z3, z4, z5⟩ := hput (X ++ (G2 ++ [some ⟨35, .wr, [l2]⟩])) l2 _ f2 (Keep.app [] X _) o2' (fun i hi => .inr (hf2 i hi))
    obtain ⟨l', w1, w2, w3, w4, w5, w6, w7⟩ := done _ _ 0 (by rw [hR, hin]) ⟨_, fp', z1, z2, z3, z4, z5⟩
    simp only [List.length_set, List.length_append, List.length_cons, List.length_nil] at w4 w5
    have g1 : H.length < X.length + (G2.length + 1) := by omega
    have g2 : bid < X.length + (G2.length + 1) := by omega
    have g3 : H.length + 2 < X.length + (G2.length + 1) := by omega
    simp [b0A, bzA, hbbA, g1, g2, g3, indexAddrV, elemIs, hbe, hbm, hs2, hs0, hsl2, h2, hrow, Minder.enc, hL2, hT2, w1, w2, w3, w6]
    exact w7 _ (by simp) (by simp)

theorem l15Ship {H : Heap} {l : List Lf} {x : Box} {fp : List Nat} (hI : IsBox H l x fp) (hok : Small x) (hxok : x.ok = true) (s : Nat) (hs2 : s < 2) :
    Runs env 85 [.agg l, .int s] H fun v H' => ∃ l', v = .tup [.agg l', .lf (.i .i64 (shipD x s).2)] ∧ BoxVal H H' fp l' (shipD x s).1 := by
  have hsz := hok.sz
  have h2 := hok.two
  have hlt := hI.lt
  have hid : H.length ∉ fp := fun h => by have := hlt _ h; omega
  obtain ⟨q0, q1, q2, q3, q4, rfl⟩ : ∃ q0 q1 q2 q3 q4, l = x.enc q0 q1 q2 q3 q4 := by
    obtain ⟨q0, q1, q2, q3, q4, _, _, _, _, _, rfl, -⟩ := hI
    exact ⟨q0, q1, q2, q3, q4, rfl⟩
  obtain ⟨R, hR⟩ : ∃ R, R = shipD x s := ⟨_, rfl⟩
  rw [← hR]
  refine Runs.walk ok85 Tryz.func85 rfl (by simp [Tryz.f85]) fun Q hQ => ?_
  simp only [Tryz.f85, strip, stripL, stripI, stripG, chkT, tagsB, tagsL, tagD, addT, tagA, lookN, tagOp, elmT, ty22, ty29, ty33, ty39, ty40, ty41, ty42, ty69, ty71, ty95, Nat.reduceEqDiff, if_false, reduceIte, Option.getD_some, Option.getD_none, dstAt, dstOk, Nat.reduceLT, decide_true, if_true]
  have fin : ∀ (HX : Heap) (tm : Ab.T) (c : Int) (y : Box) (l' : List Lf), R = (y, c) → BoxVal H HX fp l' y → tm 5 = .int c → tm 4 = .ptr (H.length + 1) 0 0 → blkAt HX (H.length + 1) = some ⟨44, .wr, [l']⟩ → Q .ret tm HX := by
    intro HX tm c y l' h1 hv t5 t4 hb4
    have hL' := hv.len
    have hT' : l'.take l'.length = l' := List.take_length
    rw [hL'] at hT'
    refine hQ _ _ _ (by simp) ?_
    have hres : resT env.τ tm HX (Tryz.f85.results.toList) = some [W.agg l', W.lf (.i .i64 c)] := by simp [Tryz.f85, t4, t5, hb4, hL', hT']
    rw [hres, optK_some, h1]
    exact ⟨_, rfl, hv.leave (by simp)⟩
  simp [Box.enc, Deed.enc, Wire.enc]
  obtain ⟨X, hX⟩ : ∃ X : Heap, X = H ++ [some ⟨44, .wr, [[.i .i64 x.id, .i .i64 x.ports, .i .i64 x.reg.epoch, .i .i64 x.reg.owner, .i .i64 x.reg.pair, q0, q1, q2, q3, q4]]⟩, some ⟨44, .wr, [[.i .i64 0, .i .i64 0, .i .i64 0, .i .i64 0, .i .i64 0, .sl none 0, .sl none 0, .sl none 0, .sl none 0, .sl none 0]]⟩] := ⟨_, rfl⟩
  have b0 : blkAt X H.length = some ⟨44, .wr, [[.i .i64 x.id, .i .i64 x.ports, .i .i64 x.reg.epoch, .i .i64 x.reg.owner, .i .i64 x.reg.pair, q0, q1, q2, q3, q4]]⟩ := by rw [hX]; simp
  have d0 := blkAt_len b0
  have bz : blkAt X (H.length + 1) = some ⟨44, .wr, [[.i .i64 0, .i .i64 0, .i .i64 0, .i .i64 0, .i .i64 0, .sl none 0, .sl none 0, .sl none 0, .sl none 0, .sl none 0]]⟩ := by rw [hX]; simp
  have dz := blkAt_len bz
  rw [← hX]
  have kX : Keep [] H X := by rw [hX]; exact Keep.app _ _ _
  have hI1 : IsBox X (x.enc q0 q1 q2 q3 q4) x fp := hI.keep kX (by simp)
  have val : ∀ (HX : Heap) (y : Box), BoxTo X HX H.length fp y → ∃ l', blkAt HX H.length = some ⟨44, .wr, [l']⟩ ∧ l'.length = 10 ∧ l'.take 10 = l' ∧ BoxVal H (HX.set (H.length + 1) (some ⟨44, .wr, [l']⟩)) fp l' y ∧ Keep (H.length :: fp) X HX := by
    intro HX y h
    rw [hX] at h ⊢
    exact h.val hlt (by omega) (by simp)
  have off : ∀ k : Nat, 0 < k → H.length + k ∉ H.length :: fp := fun k hk h => by
    rcases List.mem_cons.1 h with h | h
    · omega
    · have := hlt _ h; omega
  have done : ∀ (HX : Heap) (y : Box) (c : Int) (_ : R = (y, c)) (_ : BoxTo X HX H.length fp y), ∃ l', blkAt HX H.length = some ⟨44, .wr, [l']⟩ ∧ l'.length = 10 ∧ l'.take 10 = l' ∧ H.length < HX.length ∧ H.length + 1 < HX.length ∧ blkAt HX (H.length + 1) = some ⟨44, .wr, [[.i .i64 0, .i .i64 0, .i .i64 0, .i .i64 0, .i .i64 0, .sl none 0, .sl none 0, .sl none 0, .sl none 0, .sl none 0]]⟩ ∧ ∀ tm : Ab.T, tm 5 = .int c → tm 4 = .ptr (H.length + 1) 0 0 → Q .ret tm (HX.set (H.length + 1) (some ⟨44, .wr, [l']⟩)) := by
    intro HX y c h1 h
    obtain ⟨l', v1, v2, v3, v4, v5⟩ := val HX y h
    have hz := v5.blk bz (off _ (by omega))
    have hzl := blkAt_len hz
    exact ⟨l', v1, v2, v3, blkAt_len v1, hzl, hz, fun tm t5 t4 => fin _ tm c y l' h1 v4 t5 t4 (blkAt_set hzl)⟩
  have doneL : ∀ (HX : Heap) (y : Box) (c : Int) (L : List Lf) (_ : R = (y, c)) (_ : blkAt HX H.length = some ⟨44, .wr, [L]⟩) (_ : BoxTo X HX H.length fp y), H.length < HX.length ∧ H.length + 1 < HX.length ∧ blkAt HX (H.length + 1) = some ⟨44, .wr, [[.i .i64 0, .i .i64 0, .i .i64 0, .i .i64 0, .i .i64 0, .sl none 0, .sl none 0, .sl none 0, .sl none 0, .sl none 0]]⟩ ∧ ∀ tm : Ab.T, tm 5 = .int c → tm 4 = .ptr (H.length + 1) 0 0 → Q .ret tm (HX.set (H.length + 1) (some ⟨44, .wr, [L]⟩)) := by
    intro HX y c L h1 hb h
    obtain ⟨l', w1, w2, w3, w4, w5, w6, w7⟩ := done HX y c h1 h
    rw [hb] at w1
    injection w1 with w1
    simp only [Blk.mk.injEq, List.cons.injEq, and_true, true_and] at w1
    subst w1
    exact ⟨w4, w5, w6, w7⟩
  have same : ∀ (G : Heap) (c : Int) (_ : R = (x, c)) (tm : Ab.T), tm 5 = .int c → tm 4 = .ptr (H.length + 1) 0 0 → Q .ret tm ((X ++ G).set (H.length + 1) (some ⟨44, .wr, [[.i .i64 x.id, .i .i64 x.ports, .i .i64 x.reg.epoch, .i .i64 x.reg.owner, .i .i64 x.reg.pair, q0, q1, q2, q3, q4]]⟩)) := by
    intro G c h1 tm t5 t4
    obtain ⟨l', w1, -, -, -, -, -, w7⟩ := done (X ++ G) x c h1 (BoxTo.app b0 hI1 hid G)
    rw [blkAt_app b0] at w1
    injection w1 with w1
    simp only [Blk.mk.injEq, List.cons.injEq, and_true, true_and] at w1
    subst w1
    exact w7 tm t5 t4
  have same0 : ∀ (c : Int) (_ : R = (x, c)) (tm : Ab.T), tm 5 = .int c → tm 4 = .ptr (H.length + 1) 0 0 → Q .ret tm (X.set (H.length + 1) (some ⟨44, .wr, [[.i .i64 x.id, .i .i64 x.ports, .i .i64 x.reg.epoch, .i .i64 x.reg.owner, .i .i64 x.reg.pair, q0, q1, q2, q3, q4]]⟩)) := by
    intro c h1 tm t5 t4
    have := same [] c h1 tm t5 t4
    rwa [List.append_nil] at this
  have hs : s < x.two.length := by omega
  have hI2 := hI1
  obtain ⟨p0, p1, p2, p3, p4, f0, f1, f2, f3, f4, hle, i0, ⟨a1, hp1, o1⟩, i2, ⟨a3, hp3, o3⟩, i4, rfl, hnd⟩ := hI2
  simp only [Box.enc, List.cons.injEq, and_true, true_and] at hle
  obtain ⟨rfl, rfl, rfl, rfl, rfl⟩ := hle
  subst hp1
  subst hp3
  have i3 : IsInS X (.sl a3 x.line.length) x.line f3 := ⟨a3, rfl, o3⟩
  obtain ⟨bid, blo, r1, r2, r3, r4, row, fs, hl, hbne, hbl, hbb, hbe, hbm, hrow, hrd, hbfs, hidfs, hput⟩ := boxTwoOwn b0 hI1 hid hs
  simp only [Box.enc, List.cons.injEq, and_true, true_and] at hl
  obtain ⟨rfl, rfl, rfl, rfl, rfl⟩ := hl
  have hbH : bid < H.length := by
    have h1 := hI.rd
    obtain ⟨_, _, _, _, _, e1, ⟨a0, rws, e2, hss, hll, _⟩, -⟩ := h1
    simp only [Box.enc, List.cons.injEq, and_true, true_and] at e1
    obtain ⟨e1, -⟩ := e1
    rw [e2] at e1
    injection e1 with e1
    rw [← e1] at hss
    exact hss.len (by rintro rfl; simp at hll; omega)
  have b0s := b0
  rw [h2] at b0 same same0
  obtain ⟨m, hm⟩ : ∃ m, m = x.two[s] := ⟨_, rfl⟩
  rw [← hm] at hrd
  have hmx : m ∈ x.two := by rw [hm]; exact List.getElem_mem hs
  have hmlog := hok.log m hmx
  have hmsz : m.sz ≤ 1048576 := by unfold Minder.sz; omega
  have hmA : mAt x (s : Int) = m := by simp [mAt, List.getD, List.getElem?_eq_getElem hs, hm]
  have hrdR := hrd.rd
  obtain ⟨a, rfl, oa⟩ := hrd
  have hrow' := hrow
  simp only [Minder.enc] at hrow
  have hs0 : (0 : Int) ≤ s := by omega
  have hsl2 : (s : Int) < 2 := by omega
  have hrl : s < blo.rows.length := (List.getElem?_eq_some_iff.1 hrow).1
  have hse : ∀ (Y : Heap) (y : Option Blk) (k : Nat), blkAt (List.set Y bid y) (H.length + k) = blkAt Y (H.length + k) := fun Y y k => blkAt_set_ne (by omega)
  have hse0 : ∀ (Y : Heap) (y : Option Blk), blkAt (List.set Y bid y) H.length = blkAt Y H.length := fun Y y => blkAt_set_ne (by omega)
  have hmi : mindsAt x (s : Int) = minds x.reg s m := by
    rw [mindsAt_s h2 hs2]
    have := hmA
    simp only [mAt, Int.toNat_natCast] at this
    rw [this]
  obtain ⟨o, ho⟩ : ∃ o : Nat, o = 1 - s := ⟨_, rfl⟩
  have hol : o < x.two.length := by omega
  obtain ⟨row2, hrow2, hrd2⟩ := boxRow b0s hI1 hid rfl hbb hol
  obtain ⟨n, hnn⟩ : ∃ n, n = x.two[o] := ⟨_, rfl⟩
  rw [← hnn] at hrd2
  obtain ⟨a2, rfl, -⟩ := hrd2
  simp only [Minder.enc] at hrow2
  have hos : (1 : Int) - s = (o : Int) := by omega
  have hnA : mAt x (1 - (s : Int)) = n := by rw [hos]; simp [mAt, List.getD, List.getElem?_eq_getElem hol, hnn]
  have hw : IntKind.i64.wrap (1 - (s : Int)) = (o : Int) := by rw [hos]; exact wrap64 (by omega) (by omega)
  have ho0 : (0 : Int) ≤ o := by omega
  have hol2 : (o : Int) < 2 := by omega
  have hot : o < 2 := by omega
  have mok := (Box.right hxok).ok m hmx
  have hac : 0 ≤ m.acked ∧ m.acked ≤ m.log.length := by simp [Minder.ok] at mok; omega
  obtain ⟨k, hk⟩ : ∃ k : Nat, nextN m n.life = (k : Int) := ⟨(nextN m n.life).toNat, by unfold nextN; split <;> omega⟩
  have hD : R = if minds x.reg s m = false ∨ m.log.length ≤ k then (x, 3) else sendD x ⟨s, false, n.life, k, m.log.getD k default⟩ := by
    rw [hR, shipD, hmA, hnA, hk]
    simp only [Int.toNat_natCast, Int.ofNat_le]
  have e1 := fun G => l14Minds (hI1.app G).rd (by omega) (s : Int)
  rw [hmi] at e1
  simp only [Box.enc, h2] at e1
  have b0A := fun G => blkAt_app b0 G
  have bzA := fun G => blkAt_app bz G
  have hbbA := fun G => blkAt_app hbb G
  have g1 : H.length < X.length + 1 := by omega
  have g2 : bid < X.length + 1 := by omega
  have g3 : H.length + 1 < X.length + 1 := by omega
  simp [b0, d0, indexAddrV, elemIs, hbb, hbl, hbe, hs2, hs0, hsl2, hrow, h2, hw, ho0, hol2, hot, hrow2, b0A, bzA, hbbA, g1, g2, g3]
  by_cases hal : m.ackLife = n.life
  · have hal' : decide (m.ackLife = n.life) = true := by simp [hal]
    have hka : m.acked = (k : Int) := by rw [← hk, nextN, if_pos hal]
    rw [hal']
    simp [b0A, g1, e1, hka]
    have hjn : ((k : Nat) : Int) = (k : Int) := rfl
    cases hmm : minds x.reg s m
    · rw [if_pos (.inl hmm)] at hD
      simp [hmm, b0A, g1, bzA, g3]
      exact same _ 3 hD _ (by simp) (by simp)
    simp [hmm, builtinV, pureB, lenV]
    refine selS_intro (fun hc => ?_) (fun hc => ?_)
    · have hle : m.log.length ≤ k := by simp at hc; first | exact hc | (rw [hc]; simp)
      rw [if_pos (.inr hle)] at hD
      simp [b0A, g1, bzA, g3]
      exact same _ 3 hD _ (by simp) (by simp)
    have hkl : k < m.log.length := by simp at hc; first | exact hc | exact List.length_pos_iff.2 hc
    rw [if_neg (by rw [hmm]; simp; first | omega | (intro h; rw [h] at hkl; simp at hkl))] at hD
    simp [b0A, g1, builtinV, pureB, lenV]
    refine selS_intro (fun hc2 => ?_) (fun hc2 => ?_)
    · simp at hc2
      rw [sendD, if_pos (by omega)] at hD
      simp [b0A, g1, bzA, g3]
      exact same _ 4 hD _ (by simp) (by simp)
    simp at hc2
    rw [sendD, if_neg (by omega)] at hD
    obtain ⟨id3, r3, bl3, rfl, hb3, hbe3, hrw3⟩ := oa.sl k _ (by simp [hkl]; rfl)
    have hid3 := blkAt_len hb3
    have hgd : m.log.getD k default = m.log[k] := by simp [List.getD, List.getElem?_eq_getElem hkl]
    rw [hgd] at hD
    have hbA3 := fun G => blkAt_app hb3 G
    have g4 : id3 < X.length + 1 := by omega
    have hklI : (k : Int) < m.log.length := by omega
    try simp only [Nat.add_zero] at hrw3
    simp [b0A, g1, indexAddrV, elemIs, hbA3, g4, hbe3, hrw3, hkl, hklI, In.enc]
    refine stpL_append (e := 82) (rows := x.net.map Wire.enc) (ys := [(⟨s, false, n.life, (k : Nat), m.log[k]⟩ : Wire).enc]) (o1.app _) (Sl.of (by simp [Wire.enc])) rfl rfl rfl (by simp) (by simp; omega) (by simp) rfl fun a'' H'' fp'' ho'' hk'' hf'' => ?_
    have k1 : Keep f1 X H'' := hk''.base
    have hi1 : H.length ∉ f1 := fun h => hid (by simp [h])
    have hz1 : H.length + 1 ∉ f1 := fun h => by have := hlt (H.length + 1) (by simp [h]); omega
    have b2 := k1.blk b0 hi1
    have d2 := blkAt_len b2
    have hf9 : ∀ i ∈ fp'', i ∈ f1 ∨ X.length ≤ i := fun i hi => (hf'' i hi).imp (fun h => h) (fun h => by rw [List.length_append] at h; omega)
    have hq : IsWireS H'' (.sl a'' (x.net.length + 1)) (x.net ++ [⟨s, false, n.life, (k : Nat), m.log[k]⟩]) fp'' := ⟨a'', by simp, by simpa using ho''⟩
    have hbn := boxNet (x := x) d0 hid i0 i2 i3 i4 hnd k1 hq hf9
    rw [h2] at hbn
    obtain ⟨l', w1, w2, w3, w4, w5, w6, w7⟩ := done _ _ 0 hD hbn
    simp only [Box.enc] at w1 w4 w5 w6 w7
    simp [b2, d2, w1, w2, w3, w4, w5, w6]
    exact w7 _ (by simp) (by simp)
  · have hka : (0 : Int) = (k : Int) := by rw [← hk, nextN, if_neg hal]
    obtain rfl : k = 0 := by omega
    simp [hal, b0A, g1, e1]
    have hjn : ((0 : Nat) : Int) = (0 : Int) := rfl
    cases hmm : minds x.reg s m
    · rw [if_pos (.inl hmm)] at hD
      simp [hmm, b0A, g1, bzA, g3]
      exact same _ 3 hD _ (by simp) (by simp)
    simp [hmm, builtinV, pureB, lenV]
    refine selS_intro (fun hc => ?_) (fun hc => ?_)
    · have hle : m.log.length ≤ 0 := by simp at hc; first | exact hc | (rw [hc]; simp)
      rw [if_pos (.inr hle)] at hD
      simp [b0A, g1, bzA, g3]
      exact same _ 3 hD _ (by simp) (by simp)
    have hkl : 0 < m.log.length := by simp at hc; first | exact hc | exact List.length_pos_iff.2 hc
    rw [if_neg (by rw [hmm]; simp; first | omega | (intro h; rw [h] at hkl; simp at hkl))] at hD
    simp [b0A, g1, builtinV, pureB, lenV]
    refine selS_intro (fun hc2 => ?_) (fun hc2 => ?_)
    · simp at hc2
      rw [sendD, if_pos (by omega)] at hD
      simp [b0A, g1, bzA, g3]
      exact same _ 4 hD _ (by simp) (by simp)
    simp at hc2
    rw [sendD, if_neg (by omega)] at hD
    obtain ⟨id3, r3, bl3, rfl, hb3, hbe3, hrw3⟩ := oa.sl 0 _ (by simp [hkl]; rfl)
    have hid3 := blkAt_len hb3
    have hgd : m.log.getD 0 default = m.log[0] := by simp [List.getD, List.getElem?_eq_getElem hkl]
    rw [hgd] at hD
    have hbA3 := fun G => blkAt_app hb3 G
    have g4 : id3 < X.length + 1 := by omega
    have hklI : (0 : Int) < m.log.length := by omega
    try simp only [Nat.add_zero] at hrw3
    simp [b0A, g1, indexAddrV, elemIs, hbA3, g4, hbe3, hrw3, hkl, hklI, In.enc]
    refine stpL_append (e := 82) (rows := x.net.map Wire.enc) (ys := [(⟨s, false, n.life, (0 : Nat), m.log[0]⟩ : Wire).enc]) (o1.app _) (Sl.of (by simp [Wire.enc])) rfl rfl rfl (by simp) (by simp; omega) (by simp) rfl fun a'' H'' fp'' ho'' hk'' hf'' => ?_
    have k1 : Keep f1 X H'' := hk''.base
    have hi1 : H.length ∉ f1 := fun h => hid (by simp [h])
    have hz1 : H.length + 1 ∉ f1 := fun h => by have := hlt (H.length + 1) (by simp [h]); omega
    have b2 := k1.blk b0 hi1
    have d2 := blkAt_len b2
    have hf9 : ∀ i ∈ fp'', i ∈ f1 ∨ X.length ≤ i := fun i hi => (hf'' i hi).imp (fun h => h) (fun h => by rw [List.length_append] at h; omega)
    have hq : IsWireS H'' (.sl a'' (x.net.length + 1)) (x.net ++ [⟨s, false, n.life, (0 : Nat), m.log[0]⟩]) fp'' := ⟨a'', by simp, by simpa using ho''⟩
    have hbn := boxNet (x := x) d0 hid i0 i2 i3 i4 hnd k1 hq hf9
    rw [h2] at hbn
    obtain ⟨l', w1, w2, w3, w4, w5, w6, w7⟩ := done _ _ 0 hD hbn
    simp only [Box.enc] at w1 w4 w5 w6 w7
    simp [b2, d2, w1, w2, w3, w4, w5, w6]
    exact w7 _ (by simp) (by simp)

theorem l15Heard {H : Heap} {l : List Lf} {x : Box} {fp : List Nat} (hI : IsBox H l x fp) (hok : Small x) (hlog : ∀ m ∈ x.two, m.log.length ≤ 60) (w : Wire) (hfrm : 0 ≤ w.frm ∧ w.frm ≤ 1) :
    Runs env 101 [.agg l, .agg w.enc] H fun v H' => ∃ l', v = .agg l' ∧ BoxVal H H' fp l' (heardD x w) := by
  have hsz := hok.sz
  have h2 := hok.two
  have hlt := hI.lt
  have hid : H.length ∉ fp := fun h => by have := hlt _ h; omega
  obtain ⟨q0, q1, q2, q3, q4, rfl⟩ : ∃ q0 q1 q2 q3 q4, l = x.enc q0 q1 q2 q3 q4 := by
    obtain ⟨q0, q1, q2, q3, q4, _, _, _, _, _, rfl, -⟩ := hI
    exact ⟨q0, q1, q2, q3, q4, rfl⟩
  obtain ⟨R, hR⟩ : ∃ R, R = heardD x w := ⟨_, rfl⟩
  rw [← hR]
  refine Runs.walk ok101 Tryz.func101 rfl (by simp [Tryz.f101]) fun Q hQ => ?_
  simp only [Tryz.f101, strip, stripL, stripI, stripG, chkT, tagsB, tagsL, tagD, addT, tagA, lookN, tagOp, elmT, ty22, ty29, ty33, ty39, ty40, ty41, ty42, ty69, ty71, ty95, Nat.reduceEqDiff, if_false, reduceIte, Option.getD_some, Option.getD_none, dstAt, dstOk, Nat.reduceLT, decide_true, if_true]
  have fin : ∀ (HX : Heap) (tm : Ab.T) (y : Box) (l' : List Lf), R = y → BoxVal H HX fp l' y → tm 4 = .ptr (H.length + 2) 0 0 → blkAt HX (H.length + 2) = some ⟨44, .wr, [l']⟩ → Q .ret tm HX := by
    intro HX tm y l' h1 hv t4 hb4
    have hL' := hv.len
    have hT' : l'.take l'.length = l' := List.take_length
    rw [hL'] at hT'
    refine hQ _ _ _ (by simp) ?_
    have hres : resT env.τ tm HX (Tryz.f101.results.toList) = some [W.agg l'] := by simp [Tryz.f101, t4, hb4, hL', hT']
    rw [hres, optK_some, h1]
    exact ⟨_, rfl, hv.leave (by simp)⟩
  simp [Box.enc, Deed.enc, Wire.enc]
  obtain ⟨X, hX⟩ : ∃ X : Heap, X = H ++ [some ⟨44, .wr, [[.i .i64 x.id, .i .i64 x.ports, .i .i64 x.reg.epoch, .i .i64 x.reg.owner, .i .i64 x.reg.pair, q0, q1, q2, q3, q4]]⟩, some ⟨82, .wr, [[.i .i64 w.frm, .b w.ack, .i .i64 w.life, .i .i64 w.n, .i .i64 w.inn.kind, .i .i64 w.inn.port, .i .i64 w.inn.vec.root, .i .i64 w.inn.vec.cost, .i .i64 w.inn.vec.bridge, .i .i64 w.inn.vec.port, .i .i64 w.inn.hops, .b w.inn.up]]⟩, some ⟨44, .wr, [[.i .i64 0, .i .i64 0, .i .i64 0, .i .i64 0, .i .i64 0, .sl none 0, .sl none 0, .sl none 0, .sl none 0, .sl none 0]]⟩] := ⟨_, rfl⟩
  have b0 : blkAt X H.length = some ⟨44, .wr, [[.i .i64 x.id, .i .i64 x.ports, .i .i64 x.reg.epoch, .i .i64 x.reg.owner, .i .i64 x.reg.pair, q0, q1, q2, q3, q4]]⟩ := by rw [hX]; simp
  have d0 := blkAt_len b0
  have bz : blkAt X (H.length + 2) = some ⟨44, .wr, [[.i .i64 0, .i .i64 0, .i .i64 0, .i .i64 0, .i .i64 0, .sl none 0, .sl none 0, .sl none 0, .sl none 0, .sl none 0]]⟩ := by rw [hX]; simp
  have dz := blkAt_len bz
  have bD : blkAt X (H.length + 1) = some ⟨82, .wr, [[.i .i64 w.frm, .b w.ack, .i .i64 w.life, .i .i64 w.n, .i .i64 w.inn.kind, .i .i64 w.inn.port, .i .i64 w.inn.vec.root, .i .i64 w.inn.vec.cost, .i .i64 w.inn.vec.bridge, .i .i64 w.inn.vec.port, .i .i64 w.inn.hops, .b w.inn.up]]⟩ := by rw [hX]; simp
  have dD := blkAt_len bD
  rw [← hX]
  have kX : Keep [] H X := by rw [hX]; exact Keep.app _ _ _
  have hI1 : IsBox X (x.enc q0 q1 q2 q3 q4) x fp := hI.keep kX (by simp)
  have val : ∀ (HX : Heap) (y : Box), BoxTo X HX H.length fp y → ∃ l', blkAt HX H.length = some ⟨44, .wr, [l']⟩ ∧ l'.length = 10 ∧ l'.take 10 = l' ∧ BoxVal H (HX.set (H.length + 2) (some ⟨44, .wr, [l']⟩)) fp l' y ∧ Keep (H.length :: fp) X HX := by
    intro HX y h
    rw [hX] at h ⊢
    exact h.val hlt (by omega) (by simp)
  have off : ∀ k : Nat, 0 < k → H.length + k ∉ H.length :: fp := fun k hk h => by
    rcases List.mem_cons.1 h with h | h
    · omega
    · have := hlt _ h; omega
  have done : ∀ (HX : Heap) (y : Box) (_ : R = y) (_ : BoxTo X HX H.length fp y), ∃ l', blkAt HX H.length = some ⟨44, .wr, [l']⟩ ∧ l'.length = 10 ∧ l'.take 10 = l' ∧ H.length < HX.length ∧ H.length + 2 < HX.length ∧ blkAt HX (H.length + 2) = some ⟨44, .wr, [[.i .i64 0, .i .i64 0, .i .i64 0, .i .i64 0, .i .i64 0, .sl none 0, .sl none 0, .sl none 0, .sl none 0, .sl none 0]]⟩ ∧ ∀ tm : Ab.T, tm 4 = .ptr (H.length + 2) 0 0 → Q .ret tm (HX.set (H.length + 2) (some ⟨44, .wr, [l']⟩)) := by
    intro HX y h1 h
    obtain ⟨l', v1, v2, v3, v4, v5⟩ := val HX y h
    have hz := v5.blk bz (off _ (by omega))
    have hzl := blkAt_len hz
    exact ⟨l', v1, v2, v3, blkAt_len v1, hzl, hz, fun tm t4 => fin _ tm y l' h1 v4 t4 (blkAt_set hzl)⟩
  have doneL : ∀ (HX : Heap) (y : Box) (L : List Lf) (_ : R = y) (_ : blkAt HX H.length = some ⟨44, .wr, [L]⟩) (_ : BoxTo X HX H.length fp y), H.length < HX.length ∧ H.length + 2 < HX.length ∧ blkAt HX (H.length + 2) = some ⟨44, .wr, [[.i .i64 0, .i .i64 0, .i .i64 0, .i .i64 0, .i .i64 0, .sl none 0, .sl none 0, .sl none 0, .sl none 0, .sl none 0]]⟩ ∧ ∀ tm : Ab.T, tm 4 = .ptr (H.length + 2) 0 0 → Q .ret tm (HX.set (H.length + 2) (some ⟨44, .wr, [L]⟩)) := by
    intro HX y L h1 hb h
    obtain ⟨l', w1, w2, w3, w4, w5, w6, w7⟩ := done HX y h1 h
    rw [hb] at w1
    injection w1 with w1
    simp only [Blk.mk.injEq, List.cons.injEq, and_true, true_and] at w1
    subst w1
    exact ⟨w4, w5, w6, w7⟩
  have same : ∀ (G : Heap) (_ : R = x) (tm : Ab.T), tm 4 = .ptr (H.length + 2) 0 0 → Q .ret tm ((X ++ G).set (H.length + 2) (some ⟨44, .wr, [[.i .i64 x.id, .i .i64 x.ports, .i .i64 x.reg.epoch, .i .i64 x.reg.owner, .i .i64 x.reg.pair, q0, q1, q2, q3, q4]]⟩)) := by
    intro G h1 tm t4
    obtain ⟨l', w1, -, -, -, -, -, w7⟩ := done (X ++ G) x h1 (BoxTo.app b0 hI1 hid G)
    rw [blkAt_app b0] at w1
    injection w1 with w1
    simp only [Blk.mk.injEq, List.cons.injEq, and_true, true_and] at w1
    subst w1
    exact w7 tm t4
  have same0 : ∀ (_ : R = x) (tm : Ab.T), tm 4 = .ptr (H.length + 2) 0 0 → Q .ret tm (X.set (H.length + 2) (some ⟨44, .wr, [[.i .i64 x.id, .i .i64 x.ports, .i .i64 x.reg.epoch, .i .i64 x.reg.owner, .i .i64 x.reg.pair, q0, q1, q2, q3, q4]]⟩)) := by
    intro h1 tm t4
    have := same [] h1 tm t4
    rwa [List.append_nil] at this
  obtain ⟨s, hsw⟩ : ∃ s : Nat, 1 - w.frm = (s : Int) := ⟨(1 - w.frm).toNat, by omega⟩
  have hs2 : s < 2 := by omega
  have hws : IntKind.i64.wrap (1 - w.frm) = (s : Int) := by rw [hsw]; exact wrap64 (by omega) (by omega)
  have hs : s < x.two.length := by omega
  have hI2 := hI1
  obtain ⟨p0, p1, p2, p3, p4, f0, f1, f2, f3, f4, hle, i0, ⟨a1, hp1, o1⟩, i2, ⟨a3, hp3, o3⟩, i4, rfl, hnd⟩ := hI2
  simp only [Box.enc, List.cons.injEq, and_true, true_and] at hle
  obtain ⟨rfl, rfl, rfl, rfl, rfl⟩ := hle
  subst hp1
  subst hp3
  have i3 : IsInS X (.sl a3 x.line.length) x.line f3 := ⟨a3, rfl, o3⟩
  obtain ⟨bid, blo, r1, r2, r3, r4, row, fs, hl, hbne, hbl, hbb, hbe, hbm, hrow, hrd, hbfs, hidfs, hput⟩ := boxTwoOwn b0 hI1 hid hs
  simp only [Box.enc, List.cons.injEq, and_true, true_and] at hl
  obtain ⟨rfl, rfl, rfl, rfl, rfl⟩ := hl
  have hbH : bid < H.length := by
    have h1 := hI.rd
    obtain ⟨_, _, _, _, _, e1, ⟨a0, rws, e2, hss, hll, _⟩, -⟩ := h1
    simp only [Box.enc, List.cons.injEq, and_true, true_and] at e1
    obtain ⟨e1, -⟩ := e1
    rw [e2] at e1
    injection e1 with e1
    rw [← e1] at hss
    exact hss.len (by rintro rfl; simp at hll; omega)
  have b0s := b0
  rw [h2] at b0 same same0
  obtain ⟨m, hm⟩ : ∃ m, m = x.two[s] := ⟨_, rfl⟩
  rw [← hm] at hrd
  have hmx : m ∈ x.two := by rw [hm]; exact List.getElem_mem hs
  have hmlog := hok.log m hmx
  have hmsz : m.sz ≤ 1048576 := by unfold Minder.sz; omega
  have hmA : mAt x (s : Int) = m := by simp [mAt, List.getD, List.getElem?_eq_getElem hs, hm]
  have hrdR := hrd.rd
  obtain ⟨a, rfl, oa⟩ := hrd
  have hrow' := hrow
  simp only [Minder.enc] at hrow
  have hs0 : (0 : Int) ≤ s := by omega
  have hsl2 : (s : Int) < 2 := by omega
  have hrl : s < blo.rows.length := (List.getElem?_eq_some_iff.1 hrow).1
  have hse : ∀ (Y : Heap) (y : Option Blk) (k : Nat), blkAt (List.set Y bid y) (H.length + k) = blkAt Y (H.length + k) := fun Y y k => blkAt_set_ne (by omega)
  have hse0 : ∀ (Y : Heap) (y : Option Blk), blkAt (List.set Y bid y) H.length = blkAt Y H.length := fun Y y => blkAt_set_ne (by omega)
  have hmi : mindsAt x (s : Int) = minds x.reg s m := by
    rw [mindsAt_s h2 hs2]
    have := hmA
    simp only [mAt, Int.toNat_natCast] at this
    rw [this]
  have hH := heardD.eq_1 x w
  simp only [hsw, hmA, Int.toNat_natCast] at hH
  rw [← hR] at hH
  have e1 := fun G => l14Minds (hI1.app G).rd (by omega) (s : Int)
  rw [hmi] at e1
  simp only [Box.enc, h2] at e1
  have b0A := fun G => blkAt_app b0 G
  have bzA := fun G => blkAt_app bz G
  have bDA := fun G => blkAt_app bD G
  have hbbA := fun G => blkAt_app hbb G
  have g1 : H.length < X.length + 1 := by omega
  have g2 : bid < X.length + 1 := by omega
  have g3 : H.length + 2 < X.length + 1 := by omega
  have g4 : H.length + 1 < X.length + 1 := by omega
  simp [b0, d0, bD, dD, hws, indexAddrV, elemIs, hbb, hbl, hbe, hs2, hs0, hsl2, hrow, h2, b0A, bzA, bDA, hbbA, g1, g2, g3, g4]
  cases hup : m.up
  · rw [if_pos hup] at hH
    simp [b0A, g1, bzA, g3]
    exact same _ hH _ (by simp)
  rw [if_neg (by simp [hup])] at hH
  simp [b0A, g1, bzA, g3, bDA, g4]
  cases hack : w.ack
  · rw [if_neg (by simp [hack])] at hH
    simp [b0A, g1, bzA, g3, bDA, g4]
    by_cases hlf : w.life = m.life
    · rw [if_neg (by simp [hlf])] at hH
      have e2 := fun G => specNote_is (hrdR.app G) hmsz w.inn
      simp only [In.enc, Minder.enc, hup] at e2
      simp [hlf, b0A, g1, bzA, g3, bDA, g4, builtinV, pureB, lenV]
      by_cases hnt : m.epoch = 0 ∧ w.n = (m.log.length : Int)
      · rw [if_pos hnt] at hH
        have hn1 := hnt.1
        have hn2 := hnt.2
        rw [hn1] at e2
        simp [hn1, hn2, bDA, g4, builtinV, pureB, lenV]
        refine stpL_runs (e2 _) ?_
        rintro _ _ ⟨ln, fn, rfl, on, ⟨⟨G2, rfl⟩, hfn⟩⟩
        have hLn := on.len
        have hTn : ln.take ln.length = ln := List.take_length
        rw [hLn] at hTn
        have g5 : H.length < X.length + (G2.length + (1 + 1)) := by omega
        have g6 : bid < X.length + (G2.length + (1 + 1)) := by omega
        have g7 : H.length < X.length + (G2.length + 1 + 1) := by omega
        have g8 : bid < X.length + (G2.length + 1 + 1) := by omega
        have g9 : H.length < X.length + (G2.length + 2) := by omega
        have g10 : bid < X.length + (G2.length + 2) := by omega
        simp [hLn, hTn, b0A, g5, g6, g7, g8, g9, g10, indexAddrV, elemIs, hbbA, hbe, hbm, hs2, hs0, hsl2, hrow, h2]
        have on2 := on.app [some ⟨35, .wr, [ln]⟩]
        obtain ⟨Z0, hZ0⟩ : ∃ Z0 : Heap, Z0 = X ++ some ⟨35, .wr, [[.b true, .i .i64 m.life, .i .i64 0, .sl a m.log.length, .i .i64 m.said, .i .i64 m.acked, .i .i64 m.ackLife]]⟩ :: (G2 ++ [some ⟨35, .wr, [ln]⟩]) := ⟨_, rfl⟩
        have kZ0 : Keep [] X Z0 := by rw [hZ0]; exact Keep.app _ _ _
        simp only [List.append_assoc, List.cons_append, List.nil_append] at on2
        rw [← hZ0] at on2 ⊢
        have hM0 : blkAt Z0 X.length = some ⟨35, .wr, [[.b true, .i .i64 m.life, .i .i64 0, .sl a m.log.length, .i .i64 m.said, .i .i64 m.acked, .i .i64 m.ackLife]]⟩ := by rw [hZ0]; simp
        obtain ⟨fp', z1, z2, z3, z4, z5⟩ := hput Z0 ln _ fn kZ0 on2 (fun i hi => .inr (by have := hfn i hi; simp at this; omega))
        have z1' := z1
        simp only [Box.enc, h2] at z1'
        obtain ⟨an, hln, -⟩ := on
        have hd3 : List.take 1 (List.drop 3 ln) = [.sl an (note m w.inn).1.log.length] := by rw [hln]; rfl
        have hbz : bid < Z0.length := Nat.lt_of_lt_of_le hbl kZ0.1
        have hrowY : (blo.rows.set s ln)[s]? = some ln := by simp [hrl]
        obtain ⟨Y, hY⟩ : ∃ Y : Heap, Y = Z0.set bid (some ⟨35, .wr, blo.rows.set s ln⟩) := ⟨_, rfl⟩
        have yb : blkAt Y bid = some ⟨35, .wr, blo.rows.set s ln⟩ := by rw [hY]; exact blkAt_set hbz
        have yM : blkAt Y X.length = some ⟨35, .wr, [[.b true, .i .i64 m.life, .i .i64 0, .sl a m.log.length, .i .i64 m.said, .i .i64 m.acked, .i .i64 m.ackLife]]⟩ := by rw [hY, blkAt_set_ne (by omega)]; exact hM0
        rw [← hY] at z1 z1' z2 z4 ⊢
        clear hY hZ0 hM0 kZ0
        have yz := z4.blk bz (off 2 (by omega))
        have j1 := blkAt_len z1
        have j2 := blkAt_len yb
        have j3 := blkAt_len yM
        have j4 := blkAt_len yz
        obtain ⟨a1', s0, s2, s3, s4, f1', hl1, o1', hf1g, hput1⟩ := boxApp z1 z2 z3
        simp only [Box.enc, setTwo, List.cons.injEq, Lf.sl.injEq, and_true, true_and] at hl1
        obtain ⟨rfl, rfl, rfl, rfl, rfl⟩ := hl1
        have hyn : (setTwo x s (note m w.inn).1).net = x.net := rfl
        rw [hyn] at o1'
        have hmA2 : mAt (setTwo x s (note m w.inn).1) (s : Int) = (note m w.inn).1 := by simp [mAt, List.getD, setTwo, hs]
        rw [hmA2] at hH
        simp [z1', j1, builtinV, pureB, lenV]
        refine selS_intro (fun hc2 => ?_) (fun hc2 => ?_)
        · simp at hc2
          rw [sendD, if_neg (by rw [hyn]; omega)] at hH
          simp [z1', j1, j2, j3, yM, yb, indexAddrV, elemIs, hs2, hs0, hsl2, hrowY, hLn, hd3, builtinV, pureB, lenV]
          refine stpL_append (e := 82) (rows := x.net.map Wire.enc) (ys := [(⟨s, true, m.life, (note m w.inn).1.log.length, ⟨0, 0, ⟨0, 0, 0, 0⟩, 0, false⟩⟩ : Wire).enc]) (o1'.app _) (Sl.of (by simp [Wire.enc, In.enc])) rfl rfl rfl (by simp) (by simp; omega) (by simp) rfl fun a'' H'' fp'' ho'' hk'' hf'' => ?_
          have k1 : Keep f1' Y H'' := hk''.base
          have hf9 : ∀ i ∈ fp'', i ∈ f1' ∨ Y.length ≤ i := fun i hi => (hf'' i hi).imp (fun h => h) (fun h => by rw [List.length_append] at h; omega)
          have hq : IsWireS H'' (.sl a'' (x.net.length + 1)) (x.net ++ [⟨s, true, m.life, (note m w.inn).1.log.length, ⟨0, 0, ⟨0, 0, 0, 0⟩, 0, false⟩⟩]) fp'' := ⟨a'', by simp, by simpa using ho''⟩
          obtain ⟨b2, hbn⟩ := hput1 H'' _ _ fp'' k1 hq hf9
          have b2' := b2
          simp only [Box.enc, h2] at b2'
          have d2 := blkAt_len b2
          obtain ⟨l', w1, w2, w3, w4, w5, w6, w7⟩ := done _ _ hH (BoxTo.trans z4 z5 hbn)
          simp only [Box.enc, setTwo, List.length_set, h2] at w1 w4 w5 w6 w7
          simp [b2', d2, w1, w2, w3, w4, w5, w6]
          exact w7 _ (by simp)
        · simp at hc2
          rw [sendD, if_pos (by rw [hyn]; omega)] at hH
          simp [z1', j1, yz, j4]
          exact (doneL _ _ _ hH z1' ⟨_, fp', z1, z2, z3, z4, z5⟩).2.2.2 _ (by simp)
      · rw [if_neg hnt, hmA] at hH
        by_cases hn1 : m.epoch = 0
        · have hn2 : ¬ w.n = (m.log.length : Int) := fun h => hnt ⟨hn1, h⟩
          simp [hn1, hn2, b0A, g1, bzA, g3, bDA, g4, builtinV, pureB, lenV]
          refine selS_intro (fun hc2 => ?_) (fun hc2 => ?_)
          · simp at hc2
            rw [sendD, if_neg (by omega)] at hH
            simp [b0A, g1, bzA, g3, indexAddrV, elemIs, hbbA, g2, hbe, hs2, hs0, hsl2, hrow, h2, builtinV, pureB, lenV]
            refine stpL_append (e := 82) (rows := x.net.map Wire.enc) (ys := [(⟨s, true, m.life, m.log.length, ⟨0, 0, ⟨0, 0, 0, 0⟩, 0, false⟩⟩ : Wire).enc]) (o1.app _) (Sl.of (by simp [Wire.enc, In.enc])) rfl rfl rfl (by simp) (by simp; omega) (by simp) rfl fun a'' H'' fp'' ho'' hk'' hf'' => ?_
            have k1 : Keep f1 X H'' := hk''.base
            have b2 := k1.blk b0 (fun h => hid (by simp [h]))
            have d2 := blkAt_len b2
            have hf9 : ∀ i ∈ fp'', i ∈ f1 ∨ X.length ≤ i := fun i hi => (hf'' i hi).imp (fun h => h) (fun h => by rw [List.length_append] at h; omega)
            have hq : IsWireS H'' (.sl a'' (x.net.length + 1)) (x.net ++ [⟨s, true, m.life, m.log.length, ⟨0, 0, ⟨0, 0, 0, 0⟩, 0, false⟩⟩]) fp'' := ⟨a'', by simp, by simpa using ho''⟩
            have hbn := boxNet (x := x) d0 hid i0 i2 i3 i4 hnd k1 hq hf9
            rw [h2] at hbn
            obtain ⟨l', w1, w2, w3, w4, w5, w6, w7⟩ := done _ _ hH hbn
            simp only [Box.enc] at w1 w4 w5 w6 w7
            simp [b2, d2, w1, w2, w3, w4, w5, w6]
            exact w7 _ (by simp)
          · simp at hc2
            rw [sendD, if_pos (by omega)] at hH
            simp [b0A, g1, bzA, g3]
            exact same _ hH _ (by simp)
        · simp [hn1, b0A, g1, bzA, g3, builtinV, pureB, lenV]
          refine selS_intro (fun hc2 => ?_) (fun hc2 => ?_)
          · simp at hc2
            rw [sendD, if_neg (by omega)] at hH
            simp [b0A, g1, bzA, g3, indexAddrV, elemIs, hbbA, g2, hbe, hs2, hs0, hsl2, hrow, h2, builtinV, pureB, lenV]
            refine stpL_append (e := 82) (rows := x.net.map Wire.enc) (ys := [(⟨s, true, m.life, m.log.length, ⟨0, 0, ⟨0, 0, 0, 0⟩, 0, false⟩⟩ : Wire).enc]) (o1.app _) (Sl.of (by simp [Wire.enc, In.enc])) rfl rfl rfl (by simp) (by simp; omega) (by simp) rfl fun a'' H'' fp'' ho'' hk'' hf'' => ?_
            have k1 : Keep f1 X H'' := hk''.base
            have b2 := k1.blk b0 (fun h => hid (by simp [h]))
            have d2 := blkAt_len b2
            have hf9 : ∀ i ∈ fp'', i ∈ f1 ∨ X.length ≤ i := fun i hi => (hf'' i hi).imp (fun h => h) (fun h => by rw [List.length_append] at h; omega)
            have hq : IsWireS H'' (.sl a'' (x.net.length + 1)) (x.net ++ [⟨s, true, m.life, m.log.length, ⟨0, 0, ⟨0, 0, 0, 0⟩, 0, false⟩⟩]) fp'' := ⟨a'', by simp, by simpa using ho''⟩
            have hbn := boxNet (x := x) d0 hid i0 i2 i3 i4 hnd k1 hq hf9
            rw [h2] at hbn
            obtain ⟨l', w1, w2, w3, w4, w5, w6, w7⟩ := done _ _ hH hbn
            simp only [Box.enc] at w1 w4 w5 w6 w7
            simp [b2, d2, w1, w2, w3, w4, w5, w6]
            exact w7 _ (by simp)
          · simp at hc2
            rw [sendD, if_pos (by omega)] at hH
            simp [b0A, g1, bzA, g3]
            exact same _ hH _ (by simp)
    · rw [if_pos hlf] at hH
      simp [hlf, b0A, g1, bzA, g3]
      exact same _ hH _ (by simp)
  · rw [if_pos hack] at hH
    simp [b0A, g1, bzA, g3, bDA, g4, e1]
    have skp : ¬ (minds x.reg s m = true ∧ (m.ackLife < w.life ∨ (w.life = m.ackLife ∧ m.acked < w.n))) → ∀ (G : Heap) (tm : Ab.T), tm 4 = .ptr (H.length + 2) 0 0 → Q .ret tm ((X ++ G).set (H.length + 2) (some ⟨44, .wr, [[.i .i64 x.id, .i .i64 x.ports, .i .i64 x.reg.epoch, .i .i64 x.reg.owner, .i .i64 x.reg.pair, (.sl (some (bid, 0)) 2), (.sl a1 x.net.length), q2, (.sl a3 x.line.length), q4]]⟩)) := by
      intro h G
      rw [if_neg h] at hH
      exact same G hH
    have hmn : (if w.n < (m.log.length : Int) then w.n else (m.log.length : Int)) = min w.n m.log.length := by split <;> omega
    cases hmm : minds x.reg s m
    · simp [b0A, g1, bzA, g3]
      exact skp (by simp [hmm]) _ _ (by simp)
    have upd : (m.ackLife < w.life ∨ (w.life = m.ackLife ∧ m.acked < w.n)) → ∀ G : Heap, ∀ tm : Ab.T, tm 4 = .ptr (H.length + 2) 0 0 → Q .ret tm (((X ++ G).set bid (some ⟨35, .wr, blo.rows.set s [.b true, .i .i64 m.life, .i .i64 m.epoch, .sl a m.log.length, .i .i64 m.said, .i .i64 (min w.n m.log.length), .i .i64 w.life]⟩)).set (H.length + 2) (some ⟨44, .wr, [[.i .i64 x.id, .i .i64 x.ports, .i .i64 x.reg.epoch, .i .i64 x.reg.owner, .i .i64 x.reg.pair, (.sl (some (bid, 0)) 2), (.sl a1 x.net.length), q2, (.sl a3 x.line.length), q4]]⟩)) := by
      intro hnew G
      rw [if_pos ⟨hmm, hnew⟩, hup] at hH
      obtain ⟨g2', y1, y2, y3, y4, y5⟩ := hput (X ++ G) [.b true, .i .i64 m.life, .i .i64 m.epoch, .sl a m.log.length, .i .i64 m.said, .i .i64 (min w.n m.log.length), .i .i64 w.life] ⟨true, m.life, m.epoch, m.log, m.said, min w.n m.log.length, w.life⟩ fs (Keep.app [] X G) ⟨a, rfl, oa.app G⟩ (fun i hi => .inl hi)
      have y1' := y1
      simp only [Box.enc, h2] at y1'
      exact (doneL _ _ _ hH y1' ⟨_, g2', y1, y2, y3, y4, y5⟩).2.2.2
    have hrow3 : ∀ r : List Lf, (blo.rows.set s r)[s]? = some r := fun r => by simp [hrl]
    have g5 : H.length < X.length + 1 := by omega
    by_cases c1 : m.ackLife < w.life
    · simp [c1, b0A, g1, bzA, g3, bDA, g4, builtinV, pureB, lenV, l1Min, hmn, indexAddrV, elemIs, hbbA, g2, hbe, hbm, hs2, hs0, hsl2, hrow, h2]
      simp [hse0, hse, b0A, g1, bzA, g3]
      exact upd (.inl c1) _ _ (by simp)
    · by_cases c2 : w.life = m.ackLife
      · rw [c2] at upd
        by_cases c3 : m.acked < w.n
        · simp [c1, c2, c3, b0A, g1, bzA, g3, bDA, g4, builtinV, pureB, lenV, l1Min, hmn, indexAddrV, elemIs, hbbA, g2, hbe, hbm, hs2, hs0, hsl2, hrow, h2]
          simp [hse0, hse, b0A, g1, bzA, g3]
          exact upd (.inr ⟨rfl, c3⟩) _ _ (by simp)
        · simp [c1, c2, c3, b0A, g1, bzA, g3, bDA, g4]
          exact skp (by simp [hmm, c2]; omega) _ _ (by simp)
      · simp [c1, c2, b0A, g1, bzA, g3, bDA, g4]
        exact skp (by simp [hmm]; omega) _ _ (by simp)

theorem l15Net {H : Heap} {l : List Lf} {x : Box} {fp : List Nat} (hI : IsBox H l x fp) (hok : Small x) (hxok : x.ok = true) (d : Deed) (hk : d.kind = 3 ∨ d.kind = 4 ∨ d.kind = 5) :
    Runs env 84 [.agg l, .agg d.enc] H fun v H' => ∃ l', v = .tup [.agg l', .lf (.i .i64 (onWireD x d).2)] ∧ BoxVal H H' fp l' (onWireD x d).1 := by
  have hsz := hok.sz
  have h2 := hok.two
  have hlt := hI.lt
  have hid : H.length ∉ fp := fun h => by have := hlt _ h; omega
  obtain ⟨q0, q1, q2, q3, q4, rfl⟩ : ∃ q0 q1 q2 q3 q4, l = x.enc q0 q1 q2 q3 q4 := by
    obtain ⟨q0, q1, q2, q3, q4, _, _, _, _, _, rfl, -⟩ := hI
    exact ⟨q0, q1, q2, q3, q4, rfl⟩
  obtain ⟨R, hR⟩ : ∃ R, R = onWireD x d := ⟨_, rfl⟩
  rw [← hR]
  refine Runs.walk ok84 Tryz.func84 rfl (by simp [Tryz.f84]) fun Q hQ => ?_
  simp only [Tryz.f84, strip, stripL, stripI, stripG, chkT, tagsB, tagsL, tagD, addT, tagA, lookN, tagOp, elmT, ty22, ty29, ty33, ty39, ty40, ty41, ty42, ty69, ty71, ty95, Nat.reduceEqDiff, if_false, reduceIte, Option.getD_some, Option.getD_none, dstAt, dstOk, Nat.reduceLT, decide_true, if_true]
  have fin : ∀ (HX : Heap) (tm : Ab.T) (c : Int) (y : Box) (l' : List Lf), R = (y, c) → BoxVal H HX fp l' y → tm 5 = .int c → tm 4 = .ptr (H.length + 2) 0 0 → blkAt HX (H.length + 2) = some ⟨44, .wr, [l']⟩ → Q .ret tm HX := by
    intro HX tm c y l' h1 hv t5 t4 hb4
    have hL' := hv.len
    have hT' : l'.take l'.length = l' := List.take_length
    rw [hL'] at hT'
    refine hQ _ _ _ (by simp) ?_
    have hres : resT env.τ tm HX (Tryz.f84.results.toList) = some [W.agg l', W.lf (.i .i64 c)] := by simp [Tryz.f84, t4, t5, hb4, hL', hT']
    rw [hres, optK_some, h1]
    exact ⟨_, rfl, hv.leave (by simp)⟩
  simp [Box.enc, Deed.enc, Wire.enc]
  obtain ⟨X, hX⟩ : ∃ X : Heap, X = H ++ [some ⟨44, .wr, [[.i .i64 x.id, .i .i64 x.ports, .i .i64 x.reg.epoch, .i .i64 x.reg.owner, .i .i64 x.reg.pair, q0, q1, q2, q3, q4]]⟩, some ⟨117, .wr, [[.i .i64 d.kind, .i .i64 d.a, .i .i64 d.inn.kind, .i .i64 d.inn.port, .i .i64 d.inn.vec.root, .i .i64 d.inn.vec.cost, .i .i64 d.inn.vec.bridge, .i .i64 d.inn.vec.port, .i .i64 d.inn.hops, .b d.inn.up]]⟩, some ⟨44, .wr, [[.i .i64 0, .i .i64 0, .i .i64 0, .i .i64 0, .i .i64 0, .sl none 0, .sl none 0, .sl none 0, .sl none 0, .sl none 0]]⟩] := ⟨_, rfl⟩
  have b0 : blkAt X H.length = some ⟨44, .wr, [[.i .i64 x.id, .i .i64 x.ports, .i .i64 x.reg.epoch, .i .i64 x.reg.owner, .i .i64 x.reg.pair, q0, q1, q2, q3, q4]]⟩ := by rw [hX]; simp
  have d0 := blkAt_len b0
  have bz : blkAt X (H.length + 2) = some ⟨44, .wr, [[.i .i64 0, .i .i64 0, .i .i64 0, .i .i64 0, .i .i64 0, .sl none 0, .sl none 0, .sl none 0, .sl none 0, .sl none 0]]⟩ := by rw [hX]; simp
  have dz := blkAt_len bz
  have bD : blkAt X (H.length + 1) = some ⟨117, .wr, [[.i .i64 d.kind, .i .i64 d.a, .i .i64 d.inn.kind, .i .i64 d.inn.port, .i .i64 d.inn.vec.root, .i .i64 d.inn.vec.cost, .i .i64 d.inn.vec.bridge, .i .i64 d.inn.vec.port, .i .i64 d.inn.hops, .b d.inn.up]]⟩ := by rw [hX]; simp
  have dD := blkAt_len bD
  rw [← hX]
  have kX : Keep [] H X := by rw [hX]; exact Keep.app _ _ _
  have hI1 : IsBox X (x.enc q0 q1 q2 q3 q4) x fp := hI.keep kX (by simp)
  have val : ∀ (HX : Heap) (y : Box), BoxTo X HX H.length fp y → ∃ l', blkAt HX H.length = some ⟨44, .wr, [l']⟩ ∧ l'.length = 10 ∧ l'.take 10 = l' ∧ BoxVal H (HX.set (H.length + 2) (some ⟨44, .wr, [l']⟩)) fp l' y ∧ Keep (H.length :: fp) X HX := by
    intro HX y h
    rw [hX] at h ⊢
    exact h.val hlt (by omega) (by simp)
  have off : ∀ k : Nat, 0 < k → H.length + k ∉ H.length :: fp := fun k hk h => by
    rcases List.mem_cons.1 h with h | h
    · omega
    · have := hlt _ h; omega
  have done : ∀ (HX : Heap) (y : Box) (c : Int) (_ : R = (y, c)) (_ : BoxTo X HX H.length fp y), ∃ l', blkAt HX H.length = some ⟨44, .wr, [l']⟩ ∧ l'.length = 10 ∧ l'.take 10 = l' ∧ H.length < HX.length ∧ H.length + 2 < HX.length ∧ blkAt HX (H.length + 2) = some ⟨44, .wr, [[.i .i64 0, .i .i64 0, .i .i64 0, .i .i64 0, .i .i64 0, .sl none 0, .sl none 0, .sl none 0, .sl none 0, .sl none 0]]⟩ ∧ ∀ tm : Ab.T, tm 5 = .int c → tm 4 = .ptr (H.length + 2) 0 0 → Q .ret tm (HX.set (H.length + 2) (some ⟨44, .wr, [l']⟩)) := by
    intro HX y c h1 h
    obtain ⟨l', v1, v2, v3, v4, v5⟩ := val HX y h
    have hz := v5.blk bz (off _ (by omega))
    have hzl := blkAt_len hz
    exact ⟨l', v1, v2, v3, blkAt_len v1, hzl, hz, fun tm t5 t4 => fin _ tm c y l' h1 v4 t5 t4 (blkAt_set hzl)⟩
  have doneL : ∀ (HX : Heap) (y : Box) (c : Int) (L : List Lf) (_ : R = (y, c)) (_ : blkAt HX H.length = some ⟨44, .wr, [L]⟩) (_ : BoxTo X HX H.length fp y), H.length < HX.length ∧ H.length + 2 < HX.length ∧ blkAt HX (H.length + 2) = some ⟨44, .wr, [[.i .i64 0, .i .i64 0, .i .i64 0, .i .i64 0, .i .i64 0, .sl none 0, .sl none 0, .sl none 0, .sl none 0, .sl none 0]]⟩ ∧ ∀ tm : Ab.T, tm 5 = .int c → tm 4 = .ptr (H.length + 2) 0 0 → Q .ret tm (HX.set (H.length + 2) (some ⟨44, .wr, [L]⟩)) := by
    intro HX y c L h1 hb h
    obtain ⟨l', w1, w2, w3, w4, w5, w6, w7⟩ := done HX y c h1 h
    rw [hb] at w1
    injection w1 with w1
    simp only [Blk.mk.injEq, List.cons.injEq, and_true, true_and] at w1
    subst w1
    exact ⟨w4, w5, w6, w7⟩
  have same : ∀ (G : Heap) (c : Int) (_ : R = (x, c)) (tm : Ab.T), tm 5 = .int c → tm 4 = .ptr (H.length + 2) 0 0 → Q .ret tm ((X ++ G).set (H.length + 2) (some ⟨44, .wr, [[.i .i64 x.id, .i .i64 x.ports, .i .i64 x.reg.epoch, .i .i64 x.reg.owner, .i .i64 x.reg.pair, q0, q1, q2, q3, q4]]⟩)) := by
    intro G c h1 tm t5 t4
    obtain ⟨l', w1, -, -, -, -, -, w7⟩ := done (X ++ G) x c h1 (BoxTo.app b0 hI1 hid G)
    rw [blkAt_app b0] at w1
    injection w1 with w1
    simp only [Blk.mk.injEq, List.cons.injEq, and_true, true_and] at w1
    subst w1
    exact w7 tm t5 t4
  have same0 : ∀ (c : Int) (_ : R = (x, c)) (tm : Ab.T), tm 5 = .int c → tm 4 = .ptr (H.length + 2) 0 0 → Q .ret tm (X.set (H.length + 2) (some ⟨44, .wr, [[.i .i64 x.id, .i .i64 x.ports, .i .i64 x.reg.epoch, .i .i64 x.reg.owner, .i .i64 x.reg.pair, q0, q1, q2, q3, q4]]⟩)) := by
    intro c h1 tm t5 t4
    have := same [] c h1 tm t5 t4
    rwa [List.append_nil] at this
  have hI2 := hI1
  obtain ⟨p0, p1, p2, p3, p4, f0, f1, f2, f3, f4, hle, i0, ⟨a1, hp1, o1⟩, i2, ⟨a3, hp3, o3⟩, i4, rfl, hnd⟩ := hI2
  simp only [Box.enc, List.cons.injEq, and_true, true_and] at hle
  obtain ⟨rfl, rfl, rfl, rfl, rfl⟩ := hle
  subst hp1
  subst hp3
  have i3 : IsInS X (.sl a3 x.line.length) x.line f3 := ⟨a3, rfl, o3⟩
  obtain ⟨-, hline, hnet20, hlog60⟩ := Box.smallOf hxok
  have hwall : ∀ w ∈ x.net, w.ok = true := by
    simp only [Box.ok, Bool.and_eq_true, List.all_eq_true, decide_eq_true_eq] at hxok
    exact hxok.1.1.1.2
  have hws : IntKind.i64.wrap ((x.net.length : Int) - 1) = (x.net.length : Int) - 1 := wrap64 (by omega) (by omega)
  have b0A := fun G => blkAt_app b0 G
  have bzA := fun G => blkAt_app bz G
  have bDA := fun G => blkAt_app bD G
  simp [b0, d0, bD, dD, builtinV, pureB, lenV, l1In, hws]
  by_cases hin : 0 ≤ d.a ∧ d.a ≤ (x.net.length : Int) - 1
  · obtain ⟨i, hi⟩ : ∃ i : Nat, d.a = (i : Int) := ⟨d.a.toNat, by omega⟩
    have hil : i < x.net.length := by omega
    have hi20 : (i : Int) < x.net.length := by omega
    have hwr : IntKind.i64.wrap ((i : Int) + 1) = (i : Int) + 1 := wrap64 (by omega) (by omega)
    have hle : (i : Int) ≤ (x.net.length : Int) - 1 := by omega
    have hD : R = if d.kind = 5 then sendD x x.net[i] else if d.kind = 4 then (setNet x (x.net.eraseIdx i), 0) else (heardD (setNet x (x.net.eraseIdx i)) x.net[i], 0) := by
      rw [hR, onWireD, if_neg (by omega), hi, Int.toNat_natCast]
      simp [List.getD, List.getElem?_eq_getElem hil]
    obtain ⟨id3, bl3, rfl, hf1, hb3, hbe3, hbm3, hpre3⟩ := o1.blk (by intro h; have := congrArg List.length h; simp at this; rw [this] at hil; simp at hil)
    have hrow3 : bl3.rows[i]? = some x.net[i].enc := by
      obtain ⟨t, ht⟩ := hpre3
      rw [← ht, List.getElem?_append_left (by simp; omega), List.getElem?_map, List.getElem?_eq_getElem hil]; rfl
    have hid3 := blkAt_len hb3
    obtain ⟨w, hw⟩ : ∃ w, w = x.net[i] := ⟨_, rfl⟩
    rw [← hw] at hrow3 hD
    have hwok := hwall w (by rw [hw]; exact List.getElem_mem hil)
    have hfrm : 0 ≤ w.frm ∧ w.frm ≤ 1 := by simp [Wire.ok] at hwok; omega
    simp only [Wire.enc] at hrow3
    have g1 : H.length < X.length + 1 := by omega
    have g2 : H.length + 1 < X.length + 1 := by omega
    have g3 : H.length + 2 < X.length + 1 := by omega
    have g4 : id3 < X.length + 1 := by omega
    have hb3A := fun G => blkAt_app hb3 G
    simp [hi, hle, b0, d0, bD, dD, indexAddrV, elemIs, hb3, hid3, hbe3, hrow3, hil, hi20, b0A, bDA, bzA, g1, g2, g3, Wire.enc]
    by_cases h5 : d.kind = 5
    · rw [if_pos h5] at hD
      simp [h5, b0A, g1, bzA, g3, builtinV, pureB, lenV]
      refine selS_intro (fun hc2 => ?_) (fun hc2 => ?_)
      · simp at hc2
        rw [sendD, if_pos (by omega)] at hD
        simp [b0A, g1, bzA, g3]
        exact same _ 4 hD _ (by simp) (by simp)
      simp at hc2
      rw [sendD, if_neg (by omega)] at hD
      simp [b0A, g1, bzA, g3]
      refine stpL_append (e := 82) (rows := x.net.map Wire.enc) (ys := [w.enc]) (o1.app _) (Sl.of (by simp [Wire.enc])) rfl rfl rfl (by simp) (by simp; omega) (by simp) rfl fun a'' H'' fp'' ho'' hk'' hf'' => ?_
      have k1 : Keep f1 X H'' := hk''.base
      have b2 := k1.blk b0 (fun h => hid (by simp [h]))
      have d2 := blkAt_len b2
      have hf9 : ∀ i ∈ fp'', i ∈ f1 ∨ X.length ≤ i := fun i hi => (hf'' i hi).imp (fun h => h) (fun h => by rw [List.length_append] at h; omega)
      have hq : IsWireS H'' (.sl a'' (x.net.length + 1)) (x.net ++ [w]) fp'' := ⟨a'', by simp, by simpa using ho''⟩
      have hbn := boxNet (x := x) d0 hid i0 i2 i3 i4 hnd k1 hq hf9
      obtain ⟨l', w1, w2, w3, w4, w5, w6, w7⟩ := done _ _ 0 hD hbn
      simp only [Box.enc] at w1 w4 w5 w6 w7
      simp [b2, d2, w1, w2, w3, w4, w5, w6]
      exact w7 _ (by simp) (by simp)
    · rw [if_neg h5] at hD
      have j1 : id3 < X.length + 2 := by omega
      have j2 : H.length < X.length + 2 := by omega
      have j3 : H.length + 1 < X.length + 2 := by omega
      have hiL : (i : Int) ≤ x.net.length := by omega
      have hiL1 : (i : Int) + 1 ≤ x.net.length := by omega
      have hi1 : (0 : Int) ≤ (i : Int) + 1 := by omega
      have hiN : ((i : Int) + 1).toNat = i + 1 := by omega
      simp [h5, hi, b0A, g1, bDA, g2, sliceV, bnd, elemIs, hb3A, hbe3, j1, j2, j3, hiL]
      have kA : ∀ G, Keep [] X (X ++ G) := fun G => Keep.app [] X G
      refine stpL_append (e := 82) (rows := []) (ys := (x.net.take i).map Wire.enc) (Own.of (by simp)) (by rw [List.map_take]; exact sl_take (o1.app _).sl i) rfl rfl rfl (by simp) (by simp; omega) rfl (by simp; omega) fun aA HA fA oA kkA ffA => ?_
      rw [List.nil_append] at oA
      have kA1 : Keep [X.length + 1] (X ++ [some ⟨82, .wr, [w.enc]⟩, some ⟨82, .wr, []⟩]) HA := kkA
      have hBA : blkAt HA H.length = _ := kkA.blk (b0A _) (by simp; omega)
      have hDA : blkAt HA (H.length + 1) = _ := kkA.blk (bDA _) (by simp; omega)
      have hnA : blkAt HA id3 = _ := kkA.blk (hb3A _) (by simp; omega)
      have dBA := blkAt_len hBA
      have dDA := blkAt_len hDA
      have dnA := blkAt_len hnA
      simp [hBA, hDA, dBA, dDA, hi, hwr, sliceV, bnd, elemIs, hnA, dnA, hbe3, hi1, hiL1, hiN]
      have kXA : Keep [] X HA := (kA _).next kkA (by simp)
      have oXA := o1.keep kXA (by simp)
      have hsd : Sl HA 82 (some (id3, i + 1)) ((x.net.drop (i + 1)).map Wire.enc) := by
        have := sl_drop oXA.sl (i + 1)
        rwa [Nat.zero_add, ← List.map_drop] at this
      refine stpL_append (e := 82) (rows := (x.net.take i).map Wire.enc) (ys := (x.net.drop (i + 1)).map Wire.enc) oA hsd rfl rfl rfl (by simp) (by simp; omega) (by simp; omega) (by simp) fun aB HB fB oB kkB ffB => ?_
      have hfA : ∀ j ∈ fA, X.length + 1 ≤ j := fun j hj => by
        rcases ffA j hj with h | h
        · simp at h; omega
        · simp at h; omega
      have kXB : Keep [] X HB := kXA.next kkB (fun j hj => by have := hfA j hj; omega)
      have hBB := kkB.blk hBA (fun h => by have := hfA _ h; omega)
      have hWB : blkAt HB X.length = some ⟨82, .wr, [w.enc]⟩ := kkB.blk (kkA.blk (by simp [Wire.enc]) (by simp)) (fun h => by have := hfA _ h; omega)
      have hDB := kkB.blk hDA (fun h => by have := hfA _ h; omega)
      have dBB := blkAt_len hBB
      have dDB := blkAt_len hDB
      have dWB := blkAt_len hWB
      have hfB : ∀ j ∈ fB, j ∈ f1 ∨ X.length ≤ j := fun j hj => .inr (by
        rcases ffB j hj with h | h
        · have := hfA j h; omega
        · have := kXA.1; omega)
      have hq : IsWireS HB (.sl aB (i + (x.net.length - (i + 1)))) (x.net.eraseIdx i) fB := ⟨aB, by rw [List.length_eraseIdx_of_lt hil]; congr 1; omega, by rw [List.eraseIdx_eq_take_drop_succ, List.map_append]; exact oB⟩
      have hbn := boxNet (x := x) d0 hid i0 i2 i3 i4 hnd (kXB.more (by simp)) hq hfB
      simp only [Box.enc] at hbn
      simp [hBB, dBB]
      obtain ⟨Y, hY⟩ : ∃ Y : Heap, Y = HB.set H.length (some ⟨44, .wr, [[.i .i64 x.id, .i .i64 x.ports, .i .i64 x.reg.epoch, .i .i64 x.reg.owner, .i .i64 x.reg.pair, q0, (.sl aB (i + (x.net.length - (i + 1)))), q2, (.sl a3 x.line.length), q4]]⟩) := ⟨_, rfl⟩
      have yD := (show blkAt Y (H.length + 1) = blkAt HB (H.length + 1) by rw [hY]; exact blkAt_set_ne (by omega)).trans hDB
      have yW := (show blkAt Y X.length = blkAt HB X.length by rw [hY]; exact blkAt_set_ne (by omega)).trans hWB
      rw [← hY] at hbn ⊢
      have m1 := blkAt_len yD
      have m2 := blkAt_len yW
      clear hY
      obtain ⟨lY, gY, v1, v2, v3, v4, v5⟩ := hbn
      have hLY := v2.len
      have hTY : lY.take lY.length = lY := List.take_length
      rw [hLY] at hTY
      have m3 := blkAt_len v1
      by_cases h4 : d.kind = 4
      · rw [if_pos h4] at hD
        obtain ⟨l', w1, w2, w3, w4, w5, w6, w7⟩ := done _ _ 0 hD ⟨lY, gY, v1, v2, v3, v4, v5⟩
        simp [yD, m1, h4, w1, w2, w3, w4, w5, w6]
        exact w7 _ (by simp) (by simp)
      · rw [if_neg h4] at hD
        have h3 : d.kind = 3 := by omega
        simp only [Wire.enc] at yW
        have hh := l15Heard v2 (hok.setNet (by have := List.length_eraseIdx_le x.net i; omega)) (by exact hlog60) w hfrm
        simp only [Wire.enc] at hh
        simp [yD, m1, h3, v1, m3, hLY, hTY, yW, m2]
        refine stpL_runs hh ?_
        rintro _ HZ ⟨l2, rfl, bv⟩
        have hL2 := bv.len
        have hT2 : l2.take l2.length = l2 := List.take_length
        rw [hL2] at hT2
        have bt := BoxTo.trans v4 v5 (bv.to v3 m3)
        have kz : Keep gY Y HZ := by obtain ⟨_, _, kz, _⟩ := bv; exact kz
        have b0Z := kz.blk v1 v3
        have dZ := blkAt_len b0Z
        obtain ⟨l', w1, w2, w3, w4, w5, w6, w7⟩ := done _ _ 0 hD bt
        have hDY : lY.drop 10 = [] := by rw [← hLY]; exact List.drop_length
        simp [b0Z, dZ, hLY, hTY, hDY, hL2, hT2, w1, w2, w3, w4, w5, w6]
        exact w7 _ (by simp) (by simp)
  · have hf : (!decide (0 ≤ d.a) || !decide (d.a ≤ (x.net.length : Int) - 1)) = true := by
      rcases Int.lt_or_le d.a 0 with h | h
      · simp [show ¬ 0 ≤ d.a by omega]
      · simp [show ¬ d.a ≤ (x.net.length : Int) - 1 by omega]
    rw [hf]
    simp [b0, d0, bz, dz]
    exact same0 2 (by rw [hR, onWireD, if_pos (by omega)]) _ (by simp) (by simp)

theorem l15Fall {H : Heap} {l : List Lf} {x : Box} {fp : List Nat} (hI : IsBox H l x fp) (hok : Small x) (hxok : x.ok = true) (d : Deed) {s : Nat} (hs2 : s < 2) (hda : d.a = (s : Int)) (hk : d.kind = 7 ∨ d.kind = 8 ∨ d.kind = 12) :
    Runs env 86 [.agg l, .agg d.enc] H fun v H' => ∃ l', v = .tup [.agg l', .lf (.i .i64 (onMinderD x d).2)] ∧ BoxVal H H' fp l' (onMinderD x d).1 := by
  have hsz := hok.sz
  have h2 := hok.two
  have hlt := hI.lt
  have hid : H.length ∉ fp := fun h => by have := hlt _ h; omega
  obtain ⟨q0, q1, q2, q3, q4, rfl⟩ : ∃ q0 q1 q2 q3 q4, l = x.enc q0 q1 q2 q3 q4 := by
    obtain ⟨q0, q1, q2, q3, q4, _, _, _, _, _, rfl, -⟩ := hI
    exact ⟨q0, q1, q2, q3, q4, rfl⟩
  obtain ⟨R, hR⟩ : ∃ R, R = onMinderD x d := ⟨_, rfl⟩
  rw [← hR]
  refine Runs.walk ok86 Tryz.func86 rfl (by simp [Tryz.f86]) fun Q hQ => ?_
  simp only [Tryz.f86, strip, stripL, stripI, stripG, chkT, tagsB, tagsL, tagD, addT, tagA, lookN, tagOp, elmT, ty22, ty29, ty33, ty39, ty40, ty41, ty42, ty69, ty71, ty95, Nat.reduceEqDiff, if_false, reduceIte, Option.getD_some, Option.getD_none, dstAt, dstOk, Nat.reduceLT, decide_true, if_true]
  have fin : ∀ (HX : Heap) (tm : Ab.T) (c : Int) (y : Box) (l' : List Lf), R = (y, c) → BoxVal H HX fp l' y → tm 5 = .int c → tm 4 = .ptr (H.length + 2) 0 0 → blkAt HX (H.length + 2) = some ⟨44, .wr, [l']⟩ → Q .ret tm HX := by
    intro HX tm c y l' h1 hv t5 t4 hb4
    have hL' := hv.len
    have hT' : l'.take l'.length = l' := List.take_length
    rw [hL'] at hT'
    refine hQ _ _ _ (by simp) ?_
    have hres : resT env.τ tm HX (Tryz.f86.results.toList) = some [W.agg l', W.lf (.i .i64 c)] := by simp [Tryz.f86, t4, t5, hb4, hL', hT']
    rw [hres, optK_some, h1]
    exact ⟨_, rfl, hv.leave (by simp)⟩
  simp [Box.enc, Deed.enc, Wire.enc]
  obtain ⟨X, hX⟩ : ∃ X : Heap, X = H ++ [some ⟨44, .wr, [[.i .i64 x.id, .i .i64 x.ports, .i .i64 x.reg.epoch, .i .i64 x.reg.owner, .i .i64 x.reg.pair, q0, q1, q2, q3, q4]]⟩, some ⟨117, .wr, [[.i .i64 d.kind, .i .i64 d.a, .i .i64 d.inn.kind, .i .i64 d.inn.port, .i .i64 d.inn.vec.root, .i .i64 d.inn.vec.cost, .i .i64 d.inn.vec.bridge, .i .i64 d.inn.vec.port, .i .i64 d.inn.hops, .b d.inn.up]]⟩, some ⟨44, .wr, [[.i .i64 0, .i .i64 0, .i .i64 0, .i .i64 0, .i .i64 0, .sl none 0, .sl none 0, .sl none 0, .sl none 0, .sl none 0]]⟩] := ⟨_, rfl⟩
  have b0 : blkAt X H.length = some ⟨44, .wr, [[.i .i64 x.id, .i .i64 x.ports, .i .i64 x.reg.epoch, .i .i64 x.reg.owner, .i .i64 x.reg.pair, q0, q1, q2, q3, q4]]⟩ := by rw [hX]; simp
  have d0 := blkAt_len b0
  have bz : blkAt X (H.length + 2) = some ⟨44, .wr, [[.i .i64 0, .i .i64 0, .i .i64 0, .i .i64 0, .i .i64 0, .sl none 0, .sl none 0, .sl none 0, .sl none 0, .sl none 0]]⟩ := by rw [hX]; simp
  have dz := blkAt_len bz
  have bD : blkAt X (H.length + 1) = some ⟨117, .wr, [[.i .i64 d.kind, .i .i64 d.a, .i .i64 d.inn.kind, .i .i64 d.inn.port, .i .i64 d.inn.vec.root, .i .i64 d.inn.vec.cost, .i .i64 d.inn.vec.bridge, .i .i64 d.inn.vec.port, .i .i64 d.inn.hops, .b d.inn.up]]⟩ := by rw [hX]; simp
  have dD := blkAt_len bD
  rw [← hX]
  have kX : Keep [] H X := by rw [hX]; exact Keep.app _ _ _
  have hI1 : IsBox X (x.enc q0 q1 q2 q3 q4) x fp := hI.keep kX (by simp)
  have val : ∀ (HX : Heap) (y : Box), BoxTo X HX H.length fp y → ∃ l', blkAt HX H.length = some ⟨44, .wr, [l']⟩ ∧ l'.length = 10 ∧ l'.take 10 = l' ∧ BoxVal H (HX.set (H.length + 2) (some ⟨44, .wr, [l']⟩)) fp l' y ∧ Keep (H.length :: fp) X HX := by
    intro HX y h
    rw [hX] at h ⊢
    exact h.val hlt (by omega) (by simp)
  have off : ∀ k : Nat, 0 < k → H.length + k ∉ H.length :: fp := fun k hk h => by
    rcases List.mem_cons.1 h with h | h
    · omega
    · have := hlt _ h; omega
  have done : ∀ (HX : Heap) (y : Box) (c : Int) (_ : R = (y, c)) (_ : BoxTo X HX H.length fp y), ∃ l', blkAt HX H.length = some ⟨44, .wr, [l']⟩ ∧ l'.length = 10 ∧ l'.take 10 = l' ∧ H.length < HX.length ∧ H.length + 2 < HX.length ∧ blkAt HX (H.length + 2) = some ⟨44, .wr, [[.i .i64 0, .i .i64 0, .i .i64 0, .i .i64 0, .i .i64 0, .sl none 0, .sl none 0, .sl none 0, .sl none 0, .sl none 0]]⟩ ∧ ∀ tm : Ab.T, tm 5 = .int c → tm 4 = .ptr (H.length + 2) 0 0 → Q .ret tm (HX.set (H.length + 2) (some ⟨44, .wr, [l']⟩)) := by
    intro HX y c h1 h
    obtain ⟨l', v1, v2, v3, v4, v5⟩ := val HX y h
    have hz := v5.blk bz (off _ (by omega))
    have hzl := blkAt_len hz
    exact ⟨l', v1, v2, v3, blkAt_len v1, hzl, hz, fun tm t5 t4 => fin _ tm c y l' h1 v4 t5 t4 (blkAt_set hzl)⟩
  have doneL : ∀ (HX : Heap) (y : Box) (c : Int) (L : List Lf) (_ : R = (y, c)) (_ : blkAt HX H.length = some ⟨44, .wr, [L]⟩) (_ : BoxTo X HX H.length fp y), H.length < HX.length ∧ H.length + 2 < HX.length ∧ blkAt HX (H.length + 2) = some ⟨44, .wr, [[.i .i64 0, .i .i64 0, .i .i64 0, .i .i64 0, .i .i64 0, .sl none 0, .sl none 0, .sl none 0, .sl none 0, .sl none 0]]⟩ ∧ ∀ tm : Ab.T, tm 5 = .int c → tm 4 = .ptr (H.length + 2) 0 0 → Q .ret tm (HX.set (H.length + 2) (some ⟨44, .wr, [L]⟩)) := by
    intro HX y c L h1 hb h
    obtain ⟨l', w1, w2, w3, w4, w5, w6, w7⟩ := done HX y c h1 h
    rw [hb] at w1
    injection w1 with w1
    simp only [Blk.mk.injEq, List.cons.injEq, and_true, true_and] at w1
    subst w1
    exact ⟨w4, w5, w6, w7⟩
  have same : ∀ (G : Heap) (c : Int) (_ : R = (x, c)) (tm : Ab.T), tm 5 = .int c → tm 4 = .ptr (H.length + 2) 0 0 → Q .ret tm ((X ++ G).set (H.length + 2) (some ⟨44, .wr, [[.i .i64 x.id, .i .i64 x.ports, .i .i64 x.reg.epoch, .i .i64 x.reg.owner, .i .i64 x.reg.pair, q0, q1, q2, q3, q4]]⟩)) := by
    intro G c h1 tm t5 t4
    obtain ⟨l', w1, -, -, -, -, -, w7⟩ := done (X ++ G) x c h1 (BoxTo.app b0 hI1 hid G)
    rw [blkAt_app b0] at w1
    injection w1 with w1
    simp only [Blk.mk.injEq, List.cons.injEq, and_true, true_and] at w1
    subst w1
    exact w7 tm t5 t4
  have same0 : ∀ (c : Int) (_ : R = (x, c)) (tm : Ab.T), tm 5 = .int c → tm 4 = .ptr (H.length + 2) 0 0 → Q .ret tm (X.set (H.length + 2) (some ⟨44, .wr, [[.i .i64 x.id, .i .i64 x.ports, .i .i64 x.reg.epoch, .i .i64 x.reg.owner, .i .i64 x.reg.pair, q0, q1, q2, q3, q4]]⟩)) := by
    intro c h1 tm t5 t4
    have := same [] c h1 tm t5 t4
    rwa [List.append_nil] at this
  have hs : s < x.two.length := by omega
  obtain ⟨bid, blo, r1, r2, r3, r4, row, fs, hl, hbne, hbl, hbb, hbe, hbm, hrow, hrd, hbfs, hidfs, hput⟩ := boxTwoOwn b0 hI1 hid hs
  simp only [Box.enc, List.cons.injEq, and_true, true_and] at hl
  obtain ⟨rfl, rfl, rfl, rfl, rfl⟩ := hl
  have hbH : bid < H.length := by
    have h1 := hI.rd
    obtain ⟨_, _, _, _, _, e1, ⟨a0, rws, e2, hss, hll, _⟩, -⟩ := h1
    simp only [Box.enc, List.cons.injEq, and_true, true_and] at e1
    obtain ⟨e1, -⟩ := e1
    rw [e2] at e1
    injection e1 with e1
    rw [← e1] at hss
    exact hss.len (by rintro rfl; simp at hll; omega)
  have b0s := b0
  rw [h2] at b0 same same0
  obtain ⟨m, hm⟩ : ∃ m, m = x.two[s] := ⟨_, rfl⟩
  rw [← hm] at hrd
  have hmx : m ∈ x.two := by rw [hm]; exact List.getElem_mem hs
  have hmlog := hok.log m hmx
  have hmsz : m.sz ≤ 1048576 := by unfold Minder.sz; omega
  have hmA : mAt x (s : Int) = m := by simp [mAt, List.getD, List.getElem?_eq_getElem hs, hm]
  have hrdR := hrd.rd
  obtain ⟨a, rfl, oa⟩ := hrd
  have hrow' := hrow
  simp only [Minder.enc] at hrow
  have hs0 : (0 : Int) ≤ s := by omega
  have hsl2 : (s : Int) < 2 := by omega
  have hrl : s < blo.rows.length := (List.getElem?_eq_some_iff.1 hrow).1
  have hse : ∀ (Y : Heap) (y : Option Blk) (k : Nat), blkAt (List.set Y bid y) (H.length + k) = blkAt Y (H.length + k) := fun Y y k => blkAt_set_ne (by omega)
  have hse0 : ∀ (Y : Heap) (y : Option Blk), blkAt (List.set Y bid y) H.length = blkAt Y H.length := fun Y y => blkAt_set_ne (by omega)
  have hmi : mindsAt x (s : Int) = minds x.reg s m := by
    rw [mindsAt_s h2 hs2]
    have := hmA
    simp only [mAt, Int.toNat_natCast] at this
    rw [this]
  have mok := (Box.right hxok).ok m hmx
  have b0A := fun G => blkAt_app b0 G
  have bzA := fun G => blkAt_app bz G
  have bDA := fun G => blkAt_app bD G
  have hbbA := fun G => blkAt_app hbb G
  have g1 : H.length < X.length + 1 := by omega
  have g2 : bid < X.length + 1 := by omega
  have g3 : H.length + 2 < X.length + 1 := by omega
  have g4 : H.length + 1 < X.length + 1 := by omega
  have put : ∀ (G : Heap) (l2 : List Lf) (m' : Minder), IsMinder (X ++ G) l2 m' [] → R = (setTwo x s m', 0) → ∀ tm : Ab.T, tm 5 = .int 0 → tm 4 = .ptr (H.length + 2) 0 0 → Q .ret tm (((X ++ G).set bid (some ⟨35, .wr, blo.rows.set s l2⟩)).set (H.length + 2) (some ⟨44, .wr, [[.i .i64 x.id, .i .i64 x.ports, .i .i64 x.reg.epoch, .i .i64 x.reg.owner, .i .i64 x.reg.pair, (.sl (some (bid, 0)) 2), q1, q2, q3, q4]]⟩)) := by
    intro G l2 m' hm' hr
    obtain ⟨g2', y1, y2, y3, y4, y5⟩ := hput (X ++ G) l2 m' [] (Keep.app [] X G) hm' (by simp)
    have y1' := y1
    simp only [Box.enc, h2] at y1'
    exact (doneL _ _ 0 _ hr y1' ⟨_, g2', y1, y2, y3, y4, y5⟩).2.2.2
  simp [b0, d0, bD, dD, hda, indexAddrV, elemIs, hbb, hbl, hbe, hs2, hs0, hsl2, hrow, h2, b0A, bzA, bDA, hbbA, g1, g2, g3, g4]
  have hD := onMinderD.eq_1 x d
  simp only [hda, hmA, Int.toNat_natCast] at hD
  rw [if_neg (by omega), if_neg (by omega), if_neg (by omega), if_neg (by omega)] at hD
  rw [← hR] at hD
  have hrise := fun G => l15Rise (hI1.app G).rd hxok
  simp only [Box.enc, h2] at hrise
  have e1 := fun G => l14Minds (hI1.app G).rd (by omega) (s : Int)
  rw [hmi] at e1
  simp only [Box.enc, h2] at e1
  rcases hk with hk | hk | hk
  · rw [if_neg (by omega)] at hD
    cases hup : m.up
    · rw [if_pos hup] at hD
      simp [hk, b0A, g1, bzA, g3, bDA, g4]
      exact same _ 3 hD _ (by simp) (by simp)
    · rw [if_neg (by simp [hup]), if_neg (by omega)] at hD
      simp [hk, hup, hda, b0A, g1, bzA, g3, bDA, g4, indexAddrV, elemIs, hbbA, g2, hbe, hbm, hs2, hs0, hsl2, hrow, h2]
      simp [hse0, hse, b0A, g1, bzA, g3]
      exact put _ _ ⟨false, m.life, 0, [], 0, 0, 0⟩ ⟨none, rfl, Own.nil _ _⟩ hD _ (by simp) (by simp)
  · rw [if_pos hk] at hD
    cases hup : m.up
    · rw [if_neg (by simp [hup])] at hD
      simp [hk, hup, hda, b0A, g1, bzA, g3, bDA, g4, hrise, indexAddrV, elemIs, hbbA, g2, hbe, hbm, hs2, hs0, hsl2, hrow, h2]
      simp [hse0, hse, b0A, g1, bzA, g3]
      exact put _ _ (newLife x) ⟨none, rfl, Own.nil _ _⟩ hD _ (by simp) (by simp)
    · rw [if_pos hup] at hD
      simp [hk, b0A, g1, bzA, g3, bDA, g4]
      exact same _ 3 hD _ (by simp) (by simp)
  · rw [if_neg (by omega)] at hD
    cases hup : m.up
    · rw [if_pos hup] at hD
      simp [hk, b0A, g1, bzA, g3, bDA, g4]
      exact same _ 3 hD _ (by simp) (by simp)
    · rw [if_neg (by simp [hup]), if_pos hk] at hD
      by_cases hno : m.epoch = 0 ∨ minds x.reg s m = true
      · rw [if_pos hno] at hD
        by_cases he : 0 < m.epoch
        · have hmi := hno.resolve_left (by omega)
          simp [hk, hup, he, hda, b0A, g1, bzA, g3, bDA, g4, e1, hmi]
          exact same _ 3 hD _ (by simp) (by simp)
        · simp [hk, hup, he, b0A, g1, bzA, g3, bDA, g4]
          exact same _ 3 hD _ (by simp) (by simp)
      · rw [if_neg hno] at hD
        have he : 0 < m.epoch := by simp [Minder.ok] at mok; omega
        have hmi : minds x.reg s m = false := by cases h : minds x.reg s m; rfl; exact absurd (.inr h) hno
        simp [hk, hup, he, hda, b0A, g1, bzA, g3, bDA, g4, e1, hmi, hrise, indexAddrV, elemIs, hbbA, g2, hbe, hbm, hs2, hs0, hsl2, hrow, h2]
        simp [hse0, hse, b0A, g1, bzA, g3]
        exact put _ _ (newLife x) ⟨none, rfl, Own.nil _ _⟩ hD _ (by simp) (by simp)

theorem l15Reg {H : Heap} {l : List Lf} {x : Box} {fp : List Nat} (hI : IsBox H l x fp) (hok : Small x) (hxok : x.ok = true) (d : Deed) {s : Nat} (hs2 : s < 2) (hda : d.a = (s : Int)) (hk : d.kind = 9 ∨ d.kind = 10 ∨ d.kind = 11) :
    Runs env 87 [.agg l, .agg d.enc] H fun v H' => ∃ l', v = .tup [.agg l', .lf (.i .i64 (onMinderD x d).2)] ∧ BoxVal H H' fp l' (onMinderD x d).1 := by
  have hsz := hok.sz
  have h2 := hok.two
  have hlt := hI.lt
  have hid : H.length ∉ fp := fun h => by have := hlt _ h; omega
  obtain ⟨q0, q1, q2, q3, q4, rfl⟩ : ∃ q0 q1 q2 q3 q4, l = x.enc q0 q1 q2 q3 q4 := by
    obtain ⟨q0, q1, q2, q3, q4, _, _, _, _, _, rfl, -⟩ := hI
    exact ⟨q0, q1, q2, q3, q4, rfl⟩
  obtain ⟨R, hR⟩ : ∃ R, R = onMinderD x d := ⟨_, rfl⟩
  rw [← hR]
  refine Runs.walk ok87 Tryz.func87 rfl (by simp [Tryz.f87]) fun Q hQ => ?_
  simp only [Tryz.f87, strip, stripL, stripI, stripG, chkT, tagsB, tagsL, tagD, addT, tagA, lookN, tagOp, elmT, ty22, ty29, ty33, ty39, ty40, ty41, ty42, ty69, ty71, ty95, Nat.reduceEqDiff, if_false, reduceIte, Option.getD_some, Option.getD_none, dstAt, dstOk, Nat.reduceLT, decide_true, if_true]
  have fin : ∀ (HX : Heap) (tm : Ab.T) (c : Int) (y : Box) (l' : List Lf), R = (y, c) → BoxVal H HX fp l' y → tm 5 = .int c → tm 4 = .ptr (H.length + 2) 0 0 → blkAt HX (H.length + 2) = some ⟨44, .wr, [l']⟩ → Q .ret tm HX := by
    intro HX tm c y l' h1 hv t5 t4 hb4
    have hL' := hv.len
    have hT' : l'.take l'.length = l' := List.take_length
    rw [hL'] at hT'
    refine hQ _ _ _ (by simp) ?_
    have hres : resT env.τ tm HX (Tryz.f87.results.toList) = some [W.agg l', W.lf (.i .i64 c)] := by simp [Tryz.f87, t4, t5, hb4, hL', hT']
    rw [hres, optK_some, h1]
    exact ⟨_, rfl, hv.leave (by simp)⟩
  simp [Box.enc, Deed.enc, Wire.enc]
  obtain ⟨X, hX⟩ : ∃ X : Heap, X = H ++ [some ⟨44, .wr, [[.i .i64 x.id, .i .i64 x.ports, .i .i64 x.reg.epoch, .i .i64 x.reg.owner, .i .i64 x.reg.pair, q0, q1, q2, q3, q4]]⟩, some ⟨117, .wr, [[.i .i64 d.kind, .i .i64 d.a, .i .i64 d.inn.kind, .i .i64 d.inn.port, .i .i64 d.inn.vec.root, .i .i64 d.inn.vec.cost, .i .i64 d.inn.vec.bridge, .i .i64 d.inn.vec.port, .i .i64 d.inn.hops, .b d.inn.up]]⟩, some ⟨44, .wr, [[.i .i64 0, .i .i64 0, .i .i64 0, .i .i64 0, .i .i64 0, .sl none 0, .sl none 0, .sl none 0, .sl none 0, .sl none 0]]⟩] := ⟨_, rfl⟩
  have b0 : blkAt X H.length = some ⟨44, .wr, [[.i .i64 x.id, .i .i64 x.ports, .i .i64 x.reg.epoch, .i .i64 x.reg.owner, .i .i64 x.reg.pair, q0, q1, q2, q3, q4]]⟩ := by rw [hX]; simp
  have d0 := blkAt_len b0
  have bz : blkAt X (H.length + 2) = some ⟨44, .wr, [[.i .i64 0, .i .i64 0, .i .i64 0, .i .i64 0, .i .i64 0, .sl none 0, .sl none 0, .sl none 0, .sl none 0, .sl none 0]]⟩ := by rw [hX]; simp
  have dz := blkAt_len bz
  have bD : blkAt X (H.length + 1) = some ⟨117, .wr, [[.i .i64 d.kind, .i .i64 d.a, .i .i64 d.inn.kind, .i .i64 d.inn.port, .i .i64 d.inn.vec.root, .i .i64 d.inn.vec.cost, .i .i64 d.inn.vec.bridge, .i .i64 d.inn.vec.port, .i .i64 d.inn.hops, .b d.inn.up]]⟩ := by rw [hX]; simp
  have dD := blkAt_len bD
  rw [← hX]
  have kX : Keep [] H X := by rw [hX]; exact Keep.app _ _ _
  have hI1 : IsBox X (x.enc q0 q1 q2 q3 q4) x fp := hI.keep kX (by simp)
  have val : ∀ (HX : Heap) (y : Box), BoxTo X HX H.length fp y → ∃ l', blkAt HX H.length = some ⟨44, .wr, [l']⟩ ∧ l'.length = 10 ∧ l'.take 10 = l' ∧ BoxVal H (HX.set (H.length + 2) (some ⟨44, .wr, [l']⟩)) fp l' y ∧ Keep (H.length :: fp) X HX := by
    intro HX y h
    rw [hX] at h ⊢
    exact h.val hlt (by omega) (by simp)
  have off : ∀ k : Nat, 0 < k → H.length + k ∉ H.length :: fp := fun k hk h => by
    rcases List.mem_cons.1 h with h | h
    · omega
    · have := hlt _ h; omega
  have done : ∀ (HX : Heap) (y : Box) (c : Int) (_ : R = (y, c)) (_ : BoxTo X HX H.length fp y), ∃ l', blkAt HX H.length = some ⟨44, .wr, [l']⟩ ∧ l'.length = 10 ∧ l'.take 10 = l' ∧ H.length < HX.length ∧ H.length + 2 < HX.length ∧ blkAt HX (H.length + 2) = some ⟨44, .wr, [[.i .i64 0, .i .i64 0, .i .i64 0, .i .i64 0, .i .i64 0, .sl none 0, .sl none 0, .sl none 0, .sl none 0, .sl none 0]]⟩ ∧ ∀ tm : Ab.T, tm 5 = .int c → tm 4 = .ptr (H.length + 2) 0 0 → Q .ret tm (HX.set (H.length + 2) (some ⟨44, .wr, [l']⟩)) := by
    intro HX y c h1 h
    obtain ⟨l', v1, v2, v3, v4, v5⟩ := val HX y h
    have hz := v5.blk bz (off _ (by omega))
    have hzl := blkAt_len hz
    exact ⟨l', v1, v2, v3, blkAt_len v1, hzl, hz, fun tm t5 t4 => fin _ tm c y l' h1 v4 t5 t4 (blkAt_set hzl)⟩
  have doneL : ∀ (HX : Heap) (y : Box) (c : Int) (L : List Lf) (_ : R = (y, c)) (_ : blkAt HX H.length = some ⟨44, .wr, [L]⟩) (_ : BoxTo X HX H.length fp y), H.length < HX.length ∧ H.length + 2 < HX.length ∧ blkAt HX (H.length + 2) = some ⟨44, .wr, [[.i .i64 0, .i .i64 0, .i .i64 0, .i .i64 0, .i .i64 0, .sl none 0, .sl none 0, .sl none 0, .sl none 0, .sl none 0]]⟩ ∧ ∀ tm : Ab.T, tm 5 = .int c → tm 4 = .ptr (H.length + 2) 0 0 → Q .ret tm (HX.set (H.length + 2) (some ⟨44, .wr, [L]⟩)) := by
    intro HX y c L h1 hb h
    obtain ⟨l', w1, w2, w3, w4, w5, w6, w7⟩ := done HX y c h1 h
    rw [hb] at w1
    injection w1 with w1
    simp only [Blk.mk.injEq, List.cons.injEq, and_true, true_and] at w1
    subst w1
    exact ⟨w4, w5, w6, w7⟩
  have same : ∀ (G : Heap) (c : Int) (_ : R = (x, c)) (tm : Ab.T), tm 5 = .int c → tm 4 = .ptr (H.length + 2) 0 0 → Q .ret tm ((X ++ G).set (H.length + 2) (some ⟨44, .wr, [[.i .i64 x.id, .i .i64 x.ports, .i .i64 x.reg.epoch, .i .i64 x.reg.owner, .i .i64 x.reg.pair, q0, q1, q2, q3, q4]]⟩)) := by
    intro G c h1 tm t5 t4
    obtain ⟨l', w1, -, -, -, -, -, w7⟩ := done (X ++ G) x c h1 (BoxTo.app b0 hI1 hid G)
    rw [blkAt_app b0] at w1
    injection w1 with w1
    simp only [Blk.mk.injEq, List.cons.injEq, and_true, true_and] at w1
    subst w1
    exact w7 tm t5 t4
  have same0 : ∀ (c : Int) (_ : R = (x, c)) (tm : Ab.T), tm 5 = .int c → tm 4 = .ptr (H.length + 2) 0 0 → Q .ret tm (X.set (H.length + 2) (some ⟨44, .wr, [[.i .i64 x.id, .i .i64 x.ports, .i .i64 x.reg.epoch, .i .i64 x.reg.owner, .i .i64 x.reg.pair, q0, q1, q2, q3, q4]]⟩)) := by
    intro c h1 tm t5 t4
    have := same [] c h1 tm t5 t4
    rwa [List.append_nil] at this
  have hI2 := hI1
  obtain ⟨p0, p1, p2, p3, p4, f0, f1, f2, f3, f4, hle, i0, ⟨a1, hp1, o1⟩, i2, ⟨a3, hp3, o3⟩, i4, rfl, hnd⟩ := hI2
  simp only [Box.enc, List.cons.injEq, and_true, true_and] at hle
  obtain ⟨rfl, rfl, rfl, rfl, rfl⟩ := hle
  subst hp1
  subst hp3
  have i3 : IsInS X (.sl a3 x.line.length) x.line f3 := ⟨a3, rfl, o3⟩
  have hs : s < x.two.length := by omega
  obtain ⟨bid, blo, r1, r2, r3, r4, row, fs, hl, hbne, hbl, hbb, hbe, hbm, hrow, hrd, hbfs, hidfs, hput⟩ := boxTwoOwn b0 hI1 hid hs
  simp only [Box.enc, List.cons.injEq, and_true, true_and] at hl
  obtain ⟨rfl, rfl, rfl, rfl, rfl⟩ := hl
  have hbH : bid < H.length := by
    have h1 := hI.rd
    obtain ⟨_, _, _, _, _, e1, ⟨a0, rws, e2, hss, hll, _⟩, -⟩ := h1
    simp only [Box.enc, List.cons.injEq, and_true, true_and] at e1
    obtain ⟨e1, -⟩ := e1
    rw [e2] at e1
    injection e1 with e1
    rw [← e1] at hss
    exact hss.len (by rintro rfl; simp at hll; omega)
  have b0s := b0
  rw [h2] at b0 same same0
  obtain ⟨m, hm⟩ : ∃ m, m = x.two[s] := ⟨_, rfl⟩
  rw [← hm] at hrd
  have hmx : m ∈ x.two := by rw [hm]; exact List.getElem_mem hs
  have hmlog := hok.log m hmx
  have hmsz : m.sz ≤ 1048576 := by unfold Minder.sz; omega
  have hmA : mAt x (s : Int) = m := by simp [mAt, List.getD, List.getElem?_eq_getElem hs, hm]
  have hrdR := hrd.rd
  obtain ⟨a, rfl, oa⟩ := hrd
  have hrow' := hrow
  simp only [Minder.enc] at hrow
  have hs0 : (0 : Int) ≤ s := by omega
  have hsl2 : (s : Int) < 2 := by omega
  have hrl : s < blo.rows.length := (List.getElem?_eq_some_iff.1 hrow).1
  have hse : ∀ (Y : Heap) (y : Option Blk) (k : Nat), blkAt (List.set Y bid y) (H.length + k) = blkAt Y (H.length + k) := fun Y y k => blkAt_set_ne (by omega)
  have hse0 : ∀ (Y : Heap) (y : Option Blk), blkAt (List.set Y bid y) H.length = blkAt Y H.length := fun Y y => blkAt_set_ne (by omega)
  have hmi : mindsAt x (s : Int) = minds x.reg s m := by
    rw [mindsAt_s h2 hs2]
    have := hmA
    simp only [mAt, Int.toNat_natCast] at this
    rw [this]
  have mok := (Box.right hxok).ok m hmx
  have b0A := fun G => blkAt_app b0 G
  have bzA := fun G => blkAt_app bz G
  have bDA := fun G => blkAt_app bD G
  have hbbA := fun G => blkAt_app hbb G
  have g1 : H.length < X.length + 1 := by omega
  have g2 : bid < X.length + 1 := by omega
  have g3 : H.length + 2 < X.length + 1 := by omega
  have g4 : H.length + 1 < X.length + 1 := by omega
  have put : ∀ (G : Heap) (l2 : List Lf) (m' : Minder), IsMinder (X ++ G) l2 m' [] → R = (setTwo x s m', 0) → ∀ tm : Ab.T, tm 5 = .int 0 → tm 4 = .ptr (H.length + 2) 0 0 → Q .ret tm (((X ++ G).set bid (some ⟨35, .wr, blo.rows.set s l2⟩)).set (H.length + 2) (some ⟨44, .wr, [[.i .i64 x.id, .i .i64 x.ports, .i .i64 x.reg.epoch, .i .i64 x.reg.owner, .i .i64 x.reg.pair, (.sl (some (bid, 0)) 2), (.sl a1 x.net.length), q2, (.sl a3 x.line.length), q4]]⟩)) := by
    intro G l2 m' hm' hr
    obtain ⟨g2', y1, y2, y3, y4, y5⟩ := hput (X ++ G) l2 m' [] (Keep.app [] X G) hm' (by simp)
    have y1' := y1
    simp only [Box.enc, h2] at y1'
    exact (doneL _ _ 0 _ hr y1' ⟨_, g2', y1, y2, y3, y4, y5⟩).2.2.2
  simp [b0, d0, bD, dD, hda, indexAddrV, elemIs, hbb, hbl, hbe, hs2, hs0, hsl2, hrow, h2, b0A, bzA, bDA, hbbA, g1, g2, g3, g4]
  have hD := onMinderD.eq_1 x d
  simp only [hda, hmA, Int.toNat_natCast] at hD
  rw [if_neg (by omega)] at hD
  rw [← hR] at hD
  have hal : I64 m.ackLife := by simp [Minder.ok] at mok; unfold I64; omega
  have regp : ∀ (G : Heap) (r : Reg), R = (setReg x r, 0) → ∀ tm : Ab.T, tm 5 = .int 0 → tm 4 = .ptr (H.length + 2) 0 0 →
      ∀ L, L = [.i .i64 x.id, .i .i64 x.ports, .i .i64 r.epoch, .i .i64 r.owner, .i .i64 r.pair, .sl (some (bid, 0)) 2, .sl a1 x.net.length, q2, .sl a3 x.line.length, q4] → Q .ret tm (((X ++ G).set H.length (some ⟨44, .wr, [L]⟩)).set (H.length + 2) (some ⟨44, .wr, [L]⟩)) := by
    intro G r hr tm t5 t4 L hL
    subst hL
    have hbr := boxReg d0 hI1 hid (Keep.app [] X G) r
    simp only [Box.enc, setReg, h2] at hbr
    exact (doneL _ _ 0 _ hr (blkAt_set (by simp; omega)) hbr).2.2.2 tm t5 t4
  have pr : ∀ p : Int, I64 p → R = pairD x s p → R = if (pairs x.reg s m p).2 = true then (setReg x (pairs x.reg s m p).1, 0) else (x, 3) := by
    intro p _ h
    rw [h, pairD, hmA]
  have e1 := fun G p hp => specPairs_is (hrdR.app G) hmsz x.reg s (by unfold I64; omega) p hp
  simp only [Reg.enc, Minder.enc] at e1
  have h00 : I64 0 := by unfold I64; omega
  have hsid : ∀ (G : Heap) (y : Blk), blkAt ((X ++ G).set H.length (some y)) H.length = some y := fun G y => blkAt_set (by simp; omega)
  have hsz2 : ∀ (G : Heap) (y : Option Blk), blkAt ((X ++ G).set H.length y) (H.length + 2) = blkAt (X ++ G) (H.length + 2) := fun G y => blkAt_set_ne (by omega)
  have j1 : H.length < X.length + (1 + 1) := by omega
  have j2 : H.length + 2 < X.length + (1 + 1) := by omega
  have j3 : H.length < X.length + 2 := by omega
  have j4 : H.length + 2 < X.length + 2 := by omega
  rcases hk with hk | hk | hk
  · rw [if_pos hk] at hD
    have hrun := fun G => specTake_is (hrdR.app G) hmsz x.reg s (by unfold I64; omega)
    simp only [Reg.enc, Minder.enc] at hrun
    obtain ⟨t, htt⟩ : ∃ t, t = takeR x.reg s m := ⟨_, rfl⟩
    have htD : R = if t.2.2 = false then (x, 3) else if t.2.1.log.length < x.line.length then (x, 4) else (setTwo (setReg x t.1) s ⟨t.2.1.up, t.2.1.life, t.2.1.epoch, t.2.1.log, x.line.length, t.2.1.acked, t.2.1.ackLife⟩, 0) := by rw [hD, takeD, hmA, ← htt]; rfl
    rw [← htt] at hrun
    simp [hk, hda, b0A, g1, bzA, g3, bDA, g4]
    refine stpL_runs (hrun _) ?_
    rintro _ _ ⟨l2, f2, rfl, o2, ⟨⟨G2, rfl⟩, hf2⟩⟩
    obtain ⟨a2, rfl, oa2⟩ := o2
    have j5 : H.length < X.length + (G2.length + (1 + (1 + 1))) := by omega
    have j6 : H.length + 2 < X.length + (G2.length + (1 + (1 + 1))) := by omega
    simp [Minder.enc, Reg.enc]
    cases htk : t.2.2
    · rw [if_pos htk] at htD
      simp [b0A, bzA, j5, j6]
      exact same _ 3 htD _ (by simp) (by simp)
    rw [if_neg (by simp [htk])] at htD
    simp [b0A, bzA, builtinV, pureB, lenV]
    refine selS_intro (fun hc => ?_) (fun hc => ?_)
    · simp at hc
      rw [if_pos hc] at htD
      simp [b0A, bzA, j5, j6]
      exact same _ 4 htD _ (by simp) (by simp)
    simp at hc
    rw [if_neg (by omega)] at htD
    have hsD : ∀ (G : Heap) (y : Option Blk), blkAt ((X ++ G).set H.length y) (H.length + 1) = blkAt (X ++ G) (H.length + 1) := fun G y => blkAt_set_ne (by omega)
    have hsb : ∀ (G : Heap) (y : Option Blk), blkAt ((X ++ G).set H.length y) bid = blkAt (X ++ G) bid := fun G y => blkAt_set_ne (by omega)
    have hsx : ∀ (G : Heap) (y : Option Blk) (k : Nat), blkAt ((X ++ G).set H.length y) (X.length + k) = blkAt (X ++ G) (X.length + k) := fun G y k => blkAt_set_ne (by omega)
    have hsx0 : ∀ (G : Heap) (y : Option Blk), blkAt ((X ++ G).set H.length y) X.length = blkAt (X ++ G) X.length := fun G y => blkAt_set_ne (by omega)
    have tkf : ∀ (G : Heap) (l2 : List Lf) (m2 : Minder) (r : Reg) (f2 : List Nat), IsMinder (X ++ G) l2 m2 f2 → (∀ i ∈ f2, X.length ≤ i) → R = (setTwo (setReg x r) s m2, 0) → ∀ tm : Ab.T, tm 5 = .int 0 → tm 4 = .ptr (H.length + 2) 0 0 →
        ∀ L, L = [.i .i64 x.id, .i .i64 x.ports, .i .i64 r.epoch, .i .i64 r.owner, .i .i64 r.pair, .sl (some (bid, 0)) 2, .sl a1 x.net.length, q2, .sl a3 x.line.length, q4] →
          Q .ret tm ((((X ++ G).set H.length (some ⟨44, .wr, [L]⟩)).set bid (some ⟨35, .wr, blo.rows.set s l2⟩)).set (H.length + 2) (some ⟨44, .wr, [L]⟩)) := by
      intro G l2 m2 r f2 hm2 hf2 hr tm t5 t4 L hL
      subst hL
      obtain ⟨fp', z1, z2, z3, z4, z5⟩ := hput (X ++ G) l2 m2 f2 (Keep.app [] X G) hm2 (fun i hi => .inr (hf2 i hi))
      have z2' : IsBox _ ((setTwo x s m2).enc (.sl (some (bid, 0)) x.two.length) (.sl a1 x.net.length) q2 (.sl a3 x.line.length) q4) _ fp' := z2
      have z := BoxTo.trans z4 z5 (boxReg (blkAt_len z1) z2' z3 (Keep.refl [] _) r)
      simp only [Box.enc, setReg, setTwo, h2] at z
      have hcomm : ∀ A C : Option Blk, ((X ++ G).set H.length A).set bid C = ((X ++ G).set bid C).set H.length A := fun A C => List.set_comm A C (Ne.symm hbne)
      rw [hcomm]
      have hlen := blkAt_len z1
      exact (doneL _ _ 0 _ hr (blkAt_set hlen) z).2.2.2 tm t5 t4
    have j7 : H.length < X.length + (G2.length + 3) := by omega
    have j8 : bid < X.length + (G2.length + (1 + (1 + 1))) := by omega
    have j9 : H.length + 1 < X.length + (G2.length + (1 + (1 + 1))) := by omega
    simp [b0A, bzA, bDA, hbbA, j5, j6, j7, j8, j9, hsid, hsz2, hsD, hsb, hsx, hsx0, builtinV, pureB, lenV, h2, indexAddrV, elemIs, hbe, hbm, hs2, hs0, hsl2, hrow, hda]
    simp [hse0, hse, hsid, hsz2, bzA, j5, j6, j7]
    have oa3 := oa2.app [some ⟨38, .wr, [[.i .i64 t.1.epoch, .i .i64 t.1.owner, .i .i64 t.1.pair]]⟩, some ⟨35, .wr, [[.b t.2.1.up, .i .i64 t.2.1.life, .i .i64 t.2.1.epoch, .sl a2 t.2.1.log.length, .i .i64 x.line.length, .i .i64 t.2.1.acked, .i .i64 t.2.1.ackLife]]⟩]
    simp only [List.append_assoc, List.cons_append, List.nil_append] at oa3
    exact tkf _ _ ⟨t.2.1.up, t.2.1.life, t.2.1.epoch, t.2.1.log, x.line.length, t.2.1.acked, t.2.1.ackLife⟩ t.1 f2 ⟨a2, rfl, oa3⟩ (fun i hi => by have := hf2 i hi; simp at this; omega) htD _ (by simp) (by simp) _ rfl
  · rw [if_neg (by omega), if_pos hk] at hD
    have hD2 := pr _ hal hD
    simp [hk, hda, b0A, g1, bzA, g3, bDA, g4, e1 _ _ hal]
    cases hp : (pairs x.reg s m m.ackLife).2
    · rw [if_neg (by simp [hp])] at hD2
      simp [b0A, bzA, j1, j2, j3, j4]
      exact same _ 3 hD2 _ (by simp) (by simp)
    · rw [if_pos hp] at hD2
      simp [b0A, bzA, j1, j2, j3, j4, hsid, hsz2]
      exact regp _ _ hD2 _ (by simp) (by simp) _ rfl
  · rw [if_neg (by omega), if_neg (by omega), if_pos hk] at hD
    have hD2 := pr _ h00 hD
    simp [hk, hda, b0A, g1, bzA, g3, bDA, g4, e1 _ _ h00]
    cases hp : (pairs x.reg s m 0).2
    · rw [if_neg (by simp [hp])] at hD2
      simp [b0A, bzA, j1, j2, j3, j4]
      exact same _ 3 hD2 _ (by simp) (by simp)
    · rw [if_pos hp] at hD2
      simp [b0A, bzA, j1, j2, j3, j4, hsid, hsz2]
      exact regp _ _ hD2 _ (by simp) (by simp) _ rfl

theorem l15Say {H : Heap} {l : List Lf} {x : Box} {fp : List Nat} (hI : IsBox H l x fp) (hok : Small x) (hxok : x.ok = true) :
    Runs env 83 [.agg l] H fun v H' => ∃ l', v = .tup [.agg l', .lf (.i .i64 (sayD x).2)] ∧ BoxVal H H' fp l' (sayD x).1 := by
  have hsz := hok.sz
  have h2 := hok.two
  have hlt := hI.lt
  have hid : H.length ∉ fp := fun h => by have := hlt _ h; omega
  obtain ⟨q0, q1, q2, q3, q4, rfl⟩ : ∃ q0 q1 q2 q3 q4, l = x.enc q0 q1 q2 q3 q4 := by
    obtain ⟨q0, q1, q2, q3, q4, _, _, _, _, _, rfl, -⟩ := hI
    exact ⟨q0, q1, q2, q3, q4, rfl⟩
  obtain ⟨R, hR⟩ : ∃ R, R = sayD x := ⟨_, rfl⟩
  rw [← hR]
  refine Runs.walk ok83 Tryz.func83 rfl (by simp [Tryz.f83]) fun Q hQ => ?_
  simp only [Tryz.f83, strip, stripL, stripI, stripG, chkT, tagsB, tagsL, tagD, addT, tagA, lookN, tagOp, elmT, ty22, ty29, ty33, ty39, ty40, ty41, ty42, ty69, ty71, ty95, Nat.reduceEqDiff, if_false, reduceIte, Option.getD_some, Option.getD_none, dstAt, dstOk, Nat.reduceLT, decide_true, if_true]
  have fin : ∀ (HX : Heap) (tm : Ab.T) (c : Int) (y : Box) (l' : List Lf), R = (y, c) → BoxVal H HX fp l' y → tm 3 = .int c → tm 2 = .ptr (H.length + 1) 0 0 → blkAt HX (H.length + 1) = some ⟨44, .wr, [l']⟩ → Q .ret tm HX := by
    intro HX tm c y l' h1 hv t5 t4 hb4
    have hL' := hv.len
    have hT' : l'.take l'.length = l' := List.take_length
    rw [hL'] at hT'
    refine hQ _ _ _ (by simp) ?_
    have hres : resT env.τ tm HX (Tryz.f83.results.toList) = some [W.agg l', W.lf (.i .i64 c)] := by simp [Tryz.f83, t4, t5, hb4, hL', hT']
    rw [hres, optK_some, h1]
    exact ⟨_, rfl, hv.leave (by simp)⟩
  simp [Box.enc, Deed.enc, Wire.enc]
  obtain ⟨X, hX⟩ : ∃ X : Heap, X = H ++ [some ⟨44, .wr, [[.i .i64 x.id, .i .i64 x.ports, .i .i64 x.reg.epoch, .i .i64 x.reg.owner, .i .i64 x.reg.pair, q0, q1, q2, q3, q4]]⟩, some ⟨44, .wr, [[.i .i64 0, .i .i64 0, .i .i64 0, .i .i64 0, .i .i64 0, .sl none 0, .sl none 0, .sl none 0, .sl none 0, .sl none 0]]⟩] := ⟨_, rfl⟩
  have b0 : blkAt X H.length = some ⟨44, .wr, [[.i .i64 x.id, .i .i64 x.ports, .i .i64 x.reg.epoch, .i .i64 x.reg.owner, .i .i64 x.reg.pair, q0, q1, q2, q3, q4]]⟩ := by rw [hX]; simp
  have d0 := blkAt_len b0
  have bz : blkAt X (H.length + 1) = some ⟨44, .wr, [[.i .i64 0, .i .i64 0, .i .i64 0, .i .i64 0, .i .i64 0, .sl none 0, .sl none 0, .sl none 0, .sl none 0, .sl none 0]]⟩ := by rw [hX]; simp
  have dz := blkAt_len bz
  rw [← hX]
  have kX : Keep [] H X := by rw [hX]; exact Keep.app _ _ _
  have hI1 : IsBox X (x.enc q0 q1 q2 q3 q4) x fp := hI.keep kX (by simp)
  have val : ∀ (HX : Heap) (y : Box), BoxTo X HX H.length fp y → ∃ l', blkAt HX H.length = some ⟨44, .wr, [l']⟩ ∧ l'.length = 10 ∧ l'.take 10 = l' ∧ BoxVal H (HX.set (H.length + 1) (some ⟨44, .wr, [l']⟩)) fp l' y ∧ Keep (H.length :: fp) X HX := by
    intro HX y h
    rw [hX] at h ⊢
    exact h.val hlt (by omega) (by simp)
  have off : ∀ k : Nat, 0 < k → H.length + k ∉ H.length :: fp := fun k hk h => by
    rcases List.mem_cons.1 h with h | h
    · omega
    · have := hlt _ h; omega
  have done : ∀ (HX : Heap) (y : Box) (c : Int) (_ : R = (y, c)) (_ : BoxTo X HX H.length fp y), ∃ l', blkAt HX H.length = some ⟨44, .wr, [l']⟩ ∧ l'.length = 10 ∧ l'.take 10 = l' ∧ H.length < HX.length ∧ H.length + 1 < HX.length ∧ blkAt HX (H.length + 1) = some ⟨44, .wr, [[.i .i64 0, .i .i64 0, .i .i64 0, .i .i64 0, .i .i64 0, .sl none 0, .sl none 0, .sl none 0, .sl none 0, .sl none 0]]⟩ ∧ ∀ tm : Ab.T, tm 3 = .int c → tm 2 = .ptr (H.length + 1) 0 0 → Q .ret tm (HX.set (H.length + 1) (some ⟨44, .wr, [l']⟩)) := by
    intro HX y c h1 h
    obtain ⟨l', v1, v2, v3, v4, v5⟩ := val HX y h
    have hz := v5.blk bz (off _ (by omega))
    have hzl := blkAt_len hz
    exact ⟨l', v1, v2, v3, blkAt_len v1, hzl, hz, fun tm t5 t4 => fin _ tm c y l' h1 v4 t5 t4 (blkAt_set hzl)⟩
  have doneL : ∀ (HX : Heap) (y : Box) (c : Int) (L : List Lf) (_ : R = (y, c)) (_ : blkAt HX H.length = some ⟨44, .wr, [L]⟩) (_ : BoxTo X HX H.length fp y), H.length < HX.length ∧ H.length + 1 < HX.length ∧ blkAt HX (H.length + 1) = some ⟨44, .wr, [[.i .i64 0, .i .i64 0, .i .i64 0, .i .i64 0, .i .i64 0, .sl none 0, .sl none 0, .sl none 0, .sl none 0, .sl none 0]]⟩ ∧ ∀ tm : Ab.T, tm 3 = .int c → tm 2 = .ptr (H.length + 1) 0 0 → Q .ret tm (HX.set (H.length + 1) (some ⟨44, .wr, [L]⟩)) := by
    intro HX y c L h1 hb h
    obtain ⟨l', w1, w2, w3, w4, w5, w6, w7⟩ := done HX y c h1 h
    rw [hb] at w1
    injection w1 with w1
    simp only [Blk.mk.injEq, List.cons.injEq, and_true, true_and] at w1
    subst w1
    exact ⟨w4, w5, w6, w7⟩
  have same : ∀ (G : Heap) (c : Int) (_ : R = (x, c)) (tm : Ab.T), tm 3 = .int c → tm 2 = .ptr (H.length + 1) 0 0 → Q .ret tm ((X ++ G).set (H.length + 1) (some ⟨44, .wr, [[.i .i64 x.id, .i .i64 x.ports, .i .i64 x.reg.epoch, .i .i64 x.reg.owner, .i .i64 x.reg.pair, q0, q1, q2, q3, q4]]⟩)) := by
    intro G c h1 tm t5 t4
    obtain ⟨l', w1, -, -, -, -, -, w7⟩ := done (X ++ G) x c h1 (BoxTo.app b0 hI1 hid G)
    rw [blkAt_app b0] at w1
    injection w1 with w1
    simp only [Blk.mk.injEq, List.cons.injEq, and_true, true_and] at w1
    subst w1
    exact w7 tm t5 t4
  have same0 : ∀ (c : Int) (_ : R = (x, c)) (tm : Ab.T), tm 3 = .int c → tm 2 = .ptr (H.length + 1) 0 0 → Q .ret tm (X.set (H.length + 1) (some ⟨44, .wr, [[.i .i64 x.id, .i .i64 x.ports, .i .i64 x.reg.epoch, .i .i64 x.reg.owner, .i .i64 x.reg.pair, q0, q1, q2, q3, q4]]⟩)) := by
    intro c h1 tm t5 t4
    have := same [] c h1 tm t5 t4
    rwa [List.append_nil] at this
  have hI2 := hI1
  obtain ⟨p0, p1, p2, p3, p4, f0, f1, f2, f3, f4, hle, i0, ⟨a1, hp1, o1⟩, i2, ⟨a3, hp3, o3⟩, i4, rfl, hnd⟩ := hI2
  simp only [Box.enc, List.cons.injEq, and_true, true_and] at hle
  obtain ⟨rfl, rfl, rfl, rfl, rfl⟩ := hle
  subst hp1
  subst hp3
  have i3 : IsInS X (.sl a3 x.line.length) x.line f3 := ⟨a3, rfl, o3⟩
  have e1 := l15Who (hI1.rd) h2 (by omega)
  simp only [Box.enc] at e1
  simp [e1]
  by_cases hneg : whoM x < 0
  · simp [hneg, b0, d0, bz, dz]
    exact same0 3 (by rw [hR, sayD, if_pos (.inl hneg)]) _ (by simp) (by simp)
  obtain ⟨s, hs2, hw⟩ : ∃ s : Nat, s < 2 ∧ whoM x = (s : Int) := by
    rcases whoM_cases x with ⟨h, -⟩ | ⟨h, -⟩ | ⟨h, -⟩
    · exact ⟨0, by omega, h⟩
    · exact ⟨1, by omega, h⟩
    · omega
  have hs : s < x.two.length := by omega
  rw [hw] at hneg ⊢
  obtain ⟨bid, blo, r1, r2, r3, r4, row, fs, hl, hbne, hbl, hbb, hbe, hbm, hrow, hrd, hbfs, hidfs, hput⟩ := boxTwoOwn b0 hI1 hid hs
  simp only [Box.enc, List.cons.injEq, and_true, true_and] at hl
  obtain ⟨rfl, rfl, rfl, rfl, rfl⟩ := hl
  have hbH : bid < H.length := by
    have h1 := hI.rd
    obtain ⟨_, _, _, _, _, e1, ⟨a0, rws, e2, hss, hll, _⟩, -⟩ := h1
    simp only [Box.enc, List.cons.injEq, and_true, true_and] at e1
    obtain ⟨e1, -⟩ := e1
    rw [e2] at e1
    injection e1 with e1
    rw [← e1] at hss
    exact hss.len (by rintro rfl; simp at hll; omega)
  have b0s := b0
  rw [h2] at b0 same same0
  obtain ⟨m, hm⟩ : ∃ m, m = x.two[s] := ⟨_, rfl⟩
  rw [← hm] at hrd
  have hmx : m ∈ x.two := by rw [hm]; exact List.getElem_mem hs
  have hmlog := hok.log m hmx
  have hmsz : m.sz ≤ 1048576 := by unfold Minder.sz; omega
  have hmA : mAt x (s : Int) = m := by simp [mAt, List.getD, List.getElem?_eq_getElem hs, hm]
  have hrdR := hrd.rd
  obtain ⟨a, rfl, oa⟩ := hrd
  have hrow' := hrow
  simp only [Minder.enc] at hrow
  have hs0 : (0 : Int) ≤ s := by omega
  have hsl2 : (s : Int) < 2 := by omega
  have hrl : s < blo.rows.length := (List.getElem?_eq_some_iff.1 hrow).1
  have hse : ∀ (Y : Heap) (y : Option Blk) (k : Nat), blkAt (List.set Y bid y) (H.length + k) = blkAt Y (H.length + k) := fun Y y k => blkAt_set_ne (by omega)
  have hse0 : ∀ (Y : Heap) (y : Option Blk), blkAt (List.set Y bid y) H.length = blkAt Y H.length := fun Y y => blkAt_set_ne (by omega)
  have hmi : mindsAt x (s : Int) = minds x.reg s m := by
    rw [mindsAt_s h2 hs2]
    have := hmA
    simp only [mAt, Int.toNat_natCast] at this
    rw [this]
  have hrok : x.reg.ok = true := by simp only [Box.ok, Bool.and_eq_true] at hxok; exact hxok.1.1.1.1.1.1.1.2
  have hp64 : I64 x.reg.pair := by simp [Reg.ok] at hrok; unfold I64; omega
  have mok := (Box.right hxok).ok m hmx
  have e2 := specReady_is hrdR hmsz x.reg.pair hp64
  simp only [Minder.enc] at e2
  simp [hneg, b0, d0, indexAddrV, elemIs, hbb, hbl, hbe, hs2, hs0, hsl2, hrow, h2, e2]
  cases hrdy : ready m x.reg.pair
  · simp [b0, d0, bz, dz]
    exact same0 3 (by rw [hR, sayD, hw, if_pos (.inr (by rw [hmA]; exact hrdy))]) _ (by simp) (by simp)
  obtain ⟨k, hk⟩ : ∃ k : Nat, m.said = (k : Int) := ⟨m.said.toNat, by simp [Minder.ok] at mok; omega⟩
  have hkl : k < m.log.length := by simp [ready] at hrdy; omega
  have hm64 : I64 m.said := by unfold I64; rw [hk]; unfold Minder.sz at hmsz; omega
  have hbr : (bridgeNew x.id x.ports).2 = true := by simp only [Box.ok, Bool.and_eq_true] at hxok; exact hxok.1.1.1.1.1.1.1.1
  have hbn := bridgeNew_yes hbr
  simp [b0, d0, indexAddrV, elemIs, hbb, hbl, hbe, hs2, hs0, hsl2, hrow, h2]
  refine stpL_runs_f (specSaying_is (log := m.log) ⟨a, rfl, oa.sl⟩ hmsz x.id (by unfold I64; omega) x.ports (by unfold I64; omega) m.said hm64) (by rintro _ _ ⟨_, _, _, _, hf⟩; exact hf.1) ?_
  rintro _ _ ⟨_, fq, rfl, oq, ⟨⟨G2, rfl⟩, hfq⟩⟩
  have hsl8 := saying_len x.id x.ports m.log m.said
  obtain ⟨L, hL⟩ : ∃ L, L = saying x.id x.ports m.log m.said := ⟨_, rfl⟩
  rw [← hL] at oq hsl8
  simp
  have hacc := specAccept_is (hI1.app G2).rd (by omega) oq.rd (by omega) (s : Int) (by unfold I64; omega)
  simp only [Box.enc, h2] at hacc
  refine stpL_runs_f hacc (by rintro _ _ ⟨_, _, _, _, hf⟩; exact hf.1) ?_
  rintro _ _ ⟨l3, f3', rfl, o4, ⟨⟨G3, rfl⟩, hf4⟩⟩
  have hax : accept x (s : Int) L = acceptB x L := by
    have := whoM_cases x
    rw [accept, if_pos]
    rw [hmi]
    have hc : minds x.reg s m = true := by
      rcases whoM_cases x with ⟨h, hh⟩ | ⟨h, hh⟩ | ⟨h, -⟩
      · obtain rfl : s = 0 := by omega
        have := mindsAt_s h2 (s := 0) (by omega)
        rw [hmi] at this
        rw [this]; exact hh
      · obtain rfl : s = 1 := by omega
        have := mindsAt_s h2 (s := 1) (by omega)
        rw [hmi] at this
        rw [this]; exact hh
      · omega
    exact hc
  rw [hax] at o4
  have hL3 := o4.len
  have hT3 : l3.take l3.length = l3 := List.take_length
  rw [hL3] at hT3
  have valF : ∀ (Y3 : Heap) (y : Box) (l6 : List Lf) (g7 : List Nat), IsBox Y3 l6 y g7 → (∀ i ∈ g7, X.length ≤ i) → Keep [] X Y3 → R = (y, 0) → ∀ tm : Ab.T, tm 3 = .int 0 → tm 2 = .ptr (H.length + 1) 0 0 → Q .ret tm (Y3.set (H.length + 1) (some ⟨44, .wr, [l6]⟩)) := by
    intro Y3 y l6 g7 ho hg hk hr tm t5 t4
    have hlX := hk.1
    refine fin _ tm 0 y l6 hr ⟨g7, ho.keep (Keep.set _ _) (fun i hi hj => by have := hg i hi; simp at hj; omega), ?_, fun i hi => .inr (by have := hg i hi; omega)⟩ t5 t4 (blkAt_set (by omega))
    exact ((kX.next hk (by simp)).next (Keep.set _ _) (by simp)).more (by simp)
  have o4' := o4.app [some ⟨44, .wr, [l3]⟩]
  simp only [List.append_assoc] at o4'
  have hlt4 := o4.lt
  simp [hL3, hT3]
  obtain ⟨K6, hK6⟩ : ∃ K6, K6 = X.length + (G2.length + G3.length) := ⟨_, rfl⟩
  obtain ⟨Y, hY⟩ : ∃ Y : Heap, Y = X ++ (G2 ++ (G3 ++ [some ⟨44, .wr, [l3]⟩])) := ⟨_, rfl⟩
  have y6 : blkAt Y K6 = some ⟨44, .wr, [l3]⟩ := by rw [hY, hK6]; simp
  have kXY : Keep [] X Y := by rw [hY]; exact Keep.app _ _ _
  have o6 : IsBox Y l3 (acceptB x L) f3' := by rw [hY]; exact o4'
  have hgX : ∀ i ∈ f3', X.length ≤ i := fun i hi => by have := hf4 i hi; simp at this; omega
  have hK6f : K6 ∉ f3' := fun h => by have := hlt4 _ h; simp at this; omega
  have hK6X : X.length ≤ K6 := by omega
  rw [← hY, ← hK6]
  have hsD0 : sayD x = (if (x.line.length : Int) < m.said + 1 then setLine (setTwo (acceptB x L) s ⟨m.up, m.life, m.epoch, m.log, k + 1, m.acked, m.ackLife⟩) (x.line ++ [m.log.getD m.said.toNat default]) else setTwo (acceptB x L) s ⟨m.up, m.life, m.epoch, m.log, k + 1, m.acked, m.ackLife⟩, 0) := by
    rw [sayD, if_neg (by rw [hw, hmA, hrdy]; simp)]
    have hL' : saying x.id x.ports m.log k = L := by rw [hL, hk]
    simp only [hw, hmA, hk, hL', Int.toNat_natCast]
  rw [← hR] at hsD0
  have b0Y := kXY.blk b0 (by simp)
  have hbbY := kXY.blk hbb (by simp)
  have dbY := blkAt_len hbbY
  have d0Y := blkAt_len b0Y
  clear hY hK6 o4 o4' hlt4
  have hl3 : ∃ (a8 : Option (Nat × Nat)), List.take 1 (List.drop 8 l3) = [.sl a8 x.line.length] := by
    obtain ⟨_, _, _, _, _, _, _, _, _, _, rfl, _, _, _, ⟨a8, rfl, _⟩, _⟩ := o6
    exact ⟨a8, rfl⟩
  obtain ⟨a8, hl8⟩ := hl3
  simp [hl8, builtinV, pureB, lenV, hk]
  refine selS_intro (fun hc => ?_) (fun hc => ?_)
  · simp at hc
    have hgd : m.log.getD m.said.toNat default = m.log[k] := by rw [hk, Int.toNat_natCast]; simp [List.getD, List.getElem?_eq_getElem hkl]
    rw [if_pos (by rw [hk]; omega), hgd] at hsD0
    obtain ⟨n0, n1, n2, n3, n4, e0, e1', e2', e3, e4, rfl, v0, v1, v2, ⟨a9, rfl, v3⟩, v4, rfl, hndv⟩ := o6
    simp only [Box.enc] at y6 hl8
    have hln9 : (acceptB x L).line = x.line := rfl
    rw [hln9] at v3
    have hbe9 : (acceptB x L).two.length = 2 := h2
    have dK9 := blkAt_len y6
    obtain ⟨id3, r3, bl3, rfl, hb3, hbe4, hrw3⟩ := (oa.keep kXY (by simp)).sl k _ (by simp [hkl]; rfl)
    have hid3 := blkAt_len hb3
    have hgl : (k : Int) < m.log.length := by omega
    simp [y6, dK9, hln9, b0Y, d0Y, hbbY, dbY, hbe, hs2, hs0, hsl2, hrow, h2, builtinV, pureB, lenV, indexAddrV, elemIs, hb3, hbe4, hid3, hrw3, hkl, hgl, In.enc]
    have hline60 : x.line.length ≤ 61 := hok.line
    refine stpL_append (e := 78) (rows := x.line.map In.enc) (ys := [m.log[k].enc]) (v3.app _) (Sl.of (by simp [In.enc])) rfl rfl rfl (by simp) (by simp; omega) (by simp) rfl fun a'' H'' fp'' ho'' hk'' hf'' => ?_
    have k2 : Keep e3 Y H'' := hk''.base
    have hi3 : K6 ∉ e3 := fun h => hK6f (by simp [h])
    have b2 := k2.blk y6 hi3
    have d2 := blkAt_len b2
    have hf9 : ∀ i ∈ fp'', i ∈ e3 ∨ Y.length ≤ i := fun i hi => (hf'' i hi).imp (fun h => h) (fun h => by rw [List.length_append] at h; omega)
    have hq : IsInS H'' (.sl a'' (x.line.length + 1)) (x.line ++ [m.log[k]]) fp'' := ⟨a'', by simp, by simpa using ho''⟩
    have hbx := boxLine (x := acceptB x L) dK9 hK6f v0 v1 v2 v4 hndv k2 hq hf9
    simp [b2, d2]
    simp only [Box.enc] at hbx
    obtain ⟨Y1, hY1⟩ : ∃ Y1 : Heap, Y1 = H''.set K6 (some ⟨44, .wr, [[.i .i64 (acceptB x L).id, .i .i64 (acceptB x L).ports, .i .i64 (acceptB x L).reg.epoch, .i .i64 (acceptB x L).reg.owner, .i .i64 (acceptB x L).reg.pair, n0, n1, n2, .sl a'' (x.line.length + 1), n4]]⟩) := ⟨_, rfl⟩
    rw [← hY1] at hbx ⊢
    clear hY1
    obtain ⟨l3, g3, y7, o7, hK7f, kYY, hg3⟩ := hbx
    have kXY1 := kXY.next kYY (fun i hi => by
      rcases List.mem_cons.1 hi with rfl | hi
      · exact hK6X
      · exact hgX i hi)
    have hgX1 : ∀ i ∈ g3, X.length ≤ i := fun i hi => by
      rcases hg3 i hi with h | h
      · exact hgX i h
      · have := kXY.1; omega
    clear y6 dK9 hi3 b2 v0 v1 v2 v3 v4 k2 hq hgX hK6f kXY hb3 hid3 b0Y hbbY dbY d0Y kYY hg3 hf9 hf'' hk'' ho'' hrw3 hndv d2
    have hsD : R = (setTwo (setLine (acceptB x L) (x.line ++ [m.log[k]])) s ⟨m.up, m.life, m.epoch, m.log, k + 1, m.acked, m.ackLife⟩, 0) := hsD0
    have dK := blkAt_len y7
    obtain ⟨bid6, blo7, u1, u2, u3, u4, row6, fs6, hl6, hbne6, hbl6, hbb6, hbe6, hbm6, hrow6, hrd6, hbfs6, hidfs6, hput6⟩ := boxTwoOwn y7 o7 hK7f (s := s) hs
    subst hl6
    have hm6 : (setLine (acceptB x L) (x.line ++ [m.log[k]])).two[s]'(by exact hs) = m := hm.symm
    rw [hm6] at hrd6
    obtain ⟨a6, rfl, oa6⟩ := hrd6
    have hbe3 : (setLine (acceptB x L) (x.line ++ [m.log[k]])).two.length = 2 := h2
    have y7' := y7
    simp only [Box.enc, hbe3] at y7'
    simp only [Minder.enc] at hrow6
    have hrl6 : s < blo7.rows.length := (List.getElem?_eq_some_iff.1 hrow6).1
    have hw1 : IntKind.i64.wrap ((k : Int) + 1) = (k : Int) + 1 := wrap64 (by omega) (by unfold Minder.sz at hmsz; omega)
    obtain ⟨g7, z1, z2, z3, z4, z5⟩ := hput6 Y1 [.b m.up, .i .i64 m.life, .i .i64 m.epoch, .sl a6 m.log.length, .i .i64 (k + 1), .i .i64 m.acked, .i .i64 m.ackLife] ⟨m.up, m.life, m.epoch, m.log, k + 1, m.acked, m.ackLife⟩ fs6 (Keep.refl _ _) ⟨a6, rfl, oa6⟩ (fun i hi => .inl hi)
    have z1' := z1
    simp only [Box.enc, hbe3] at z1' z2
    have dz1 := blkAt_len z1
    have kz := kXY1.next z4 (fun i hi => by
      rcases List.mem_cons.1 hi with rfl | hi
      · exact hK6X
      · exact hgX1 i hi)
    have bz7 := kz.blk bz (by simp)
    have dz7 := blkAt_len bz7
    simp [y7', dK, indexAddrV, elemIs, hbb6, hbl6, hbe6, hbm6, hs2, hs0, hsl2, hrow6, hw1]
    simp [z1', dz1, bz7, dz7]
    refine valF _ _ _ g7 z2 (fun i hi => by
      rcases z5 i hi with h | h
      · exact hgX1 i h
      · have := kXY1.1; omega) kz hsD _ ?_ ?_
    · simp
    · simp

  · simp at hc
    rw [if_neg (by rw [hk]; omega)] at hsD0
    have hsD := hsD0
    simp
    have dK := blkAt_len y6
    obtain ⟨bid6, blo6, u1, u2, u3, u4, row6, fs6, hl6, hbne6, hbl6, hbb6, hbe6, hbm6, hrow6, hrd6, hbfs6, hidfs6, hput6⟩ := boxTwoOwn y6 o6 hK6f (s := s) hs
    subst hl6
    have hm6 : (acceptB x L).two[s]'(by exact hs) = m := hm.symm
    rw [hm6] at hrd6
    obtain ⟨a6, rfl, oa6⟩ := hrd6
    have hbe3 : (acceptB x L).two.length = 2 := h2
    have y6' := y6
    simp only [Box.enc, hbe3] at y6'
    simp only [Minder.enc] at hrow6
    have hrl6 : s < blo6.rows.length := (List.getElem?_eq_some_iff.1 hrow6).1
    have hw1 : IntKind.i64.wrap ((k : Int) + 1) = (k : Int) + 1 := wrap64 (by omega) (by unfold Minder.sz at hmsz; omega)
    obtain ⟨g7, z1, z2, z3, z4, z5⟩ := hput6 Y [.b m.up, .i .i64 m.life, .i .i64 m.epoch, .sl a6 m.log.length, .i .i64 (k + 1), .i .i64 m.acked, .i .i64 m.ackLife] ⟨m.up, m.life, m.epoch, m.log, k + 1, m.acked, m.ackLife⟩ fs6 (Keep.refl _ _) ⟨a6, rfl, oa6⟩ (fun i hi => .inl hi)
    have z1' := z1
    simp only [Box.enc, hbe3] at z1' z2
    have dz1 := blkAt_len z1
    have kz := kXY.next z4 (fun i hi => by
      rcases List.mem_cons.1 hi with rfl | hi
      · exact hK6X
      · exact hgX i hi)
    have bz7 := kz.blk bz (by simp)
    have dz7 := blkAt_len bz7
    simp [y6', dK, indexAddrV, elemIs, hbb6, hbl6, hbe6, hbm6, hs2, hs0, hsl2, hrow6, hw1]
    simp [z1', dz1, bz7, dz7]
    refine valF _ _ _ g7 z2 (fun i hi => by
      rcases z5 i hi with h | h
      · exact hgX i h
      · have := kXY.1; omega) kz hsD _ ?_ ?_
    · simp
    · simp

theorem l15One {H : Heap} {l : List Lf} {x : Box} {fp : List Nat} (hI : IsBox H l x fp) (hok : Small x) (hxok : x.ok = true) (d : Deed) (hkd : 1 ≤ d.kind ∧ d.kind ≤ 12) :
    Runs env 73 [.agg l, .agg d.enc] H fun v H' => ∃ l', v = .tup [.agg l', .lf (.i .i64 (deedD x d).2)] ∧ BoxVal H H' fp l' (deedD x d).1 := by
  have hsz := hok.sz
  have h2 := hok.two
  have hlt := hI.lt
  have hid : H.length ∉ fp := fun h => by have := hlt _ h; omega
  obtain ⟨q0, q1, q2, q3, q4, rfl⟩ : ∃ q0 q1 q2 q3 q4, l = x.enc q0 q1 q2 q3 q4 := by
    obtain ⟨q0, q1, q2, q3, q4, _, _, _, _, _, rfl, -⟩ := hI
    exact ⟨q0, q1, q2, q3, q4, rfl⟩
  obtain ⟨R, hR⟩ : ∃ R, R = deedD x d := ⟨_, rfl⟩
  rw [← hR]
  refine Runs.walk ok73 Tryz.func73 rfl (by simp [Tryz.f73]) fun Q hQ => ?_
  simp only [Tryz.f73, strip, stripL, stripI, stripG, chkT, tagsB, tagsL, tagD, addT, tagA, lookN, tagOp, elmT, ty22, ty29, ty33, ty39, ty40, ty41, ty42, ty69, ty71, ty95, Nat.reduceEqDiff, if_false, reduceIte, Option.getD_some, Option.getD_none, dstAt, dstOk, Nat.reduceLT, decide_true, if_true]
  have fin : ∀ (HX : Heap) (tm : Ab.T) (c : Int) (y : Box) (l' : List Lf), R = (y, c) → BoxVal H HX fp l' y → tm 5 = .int c → tm 4 = .ptr (H.length + 2) 0 0 → blkAt HX (H.length + 2) = some ⟨44, .wr, [l']⟩ → Q .ret tm HX := by
    intro HX tm c y l' h1 hv t5 t4 hb4
    have hL' := hv.len
    have hT' : l'.take l'.length = l' := List.take_length
    rw [hL'] at hT'
    refine hQ _ _ _ (by simp) ?_
    have hres : resT env.τ tm HX (Tryz.f73.results.toList) = some [W.agg l', W.lf (.i .i64 c)] := by simp [Tryz.f73, t4, t5, hb4, hL', hT']
    rw [hres, optK_some, h1]
    exact ⟨_, rfl, hv.leave (by simp)⟩
  simp [Box.enc, Deed.enc, Wire.enc]
  obtain ⟨X, hX⟩ : ∃ X : Heap, X = H ++ [some ⟨44, .wr, [[.i .i64 x.id, .i .i64 x.ports, .i .i64 x.reg.epoch, .i .i64 x.reg.owner, .i .i64 x.reg.pair, q0, q1, q2, q3, q4]]⟩, some ⟨117, .wr, [[.i .i64 d.kind, .i .i64 d.a, .i .i64 d.inn.kind, .i .i64 d.inn.port, .i .i64 d.inn.vec.root, .i .i64 d.inn.vec.cost, .i .i64 d.inn.vec.bridge, .i .i64 d.inn.vec.port, .i .i64 d.inn.hops, .b d.inn.up]]⟩, some ⟨44, .wr, [[.i .i64 0, .i .i64 0, .i .i64 0, .i .i64 0, .i .i64 0, .sl none 0, .sl none 0, .sl none 0, .sl none 0, .sl none 0]]⟩] := ⟨_, rfl⟩
  have b0 : blkAt X H.length = some ⟨44, .wr, [[.i .i64 x.id, .i .i64 x.ports, .i .i64 x.reg.epoch, .i .i64 x.reg.owner, .i .i64 x.reg.pair, q0, q1, q2, q3, q4]]⟩ := by rw [hX]; simp
  have d0 := blkAt_len b0
  have bz : blkAt X (H.length + 2) = some ⟨44, .wr, [[.i .i64 0, .i .i64 0, .i .i64 0, .i .i64 0, .i .i64 0, .sl none 0, .sl none 0, .sl none 0, .sl none 0, .sl none 0]]⟩ := by rw [hX]; simp
  have dz := blkAt_len bz
  have bD : blkAt X (H.length + 1) = some ⟨117, .wr, [[.i .i64 d.kind, .i .i64 d.a, .i .i64 d.inn.kind, .i .i64 d.inn.port, .i .i64 d.inn.vec.root, .i .i64 d.inn.vec.cost, .i .i64 d.inn.vec.bridge, .i .i64 d.inn.vec.port, .i .i64 d.inn.hops, .b d.inn.up]]⟩ := by rw [hX]; simp
  have dD := blkAt_len bD
  rw [← hX]
  have kX : Keep [] H X := by rw [hX]; exact Keep.app _ _ _
  have hI1 : IsBox X (x.enc q0 q1 q2 q3 q4) x fp := hI.keep kX (by simp)
  have val : ∀ (HX : Heap) (y : Box), BoxTo X HX H.length fp y → ∃ l', blkAt HX H.length = some ⟨44, .wr, [l']⟩ ∧ l'.length = 10 ∧ l'.take 10 = l' ∧ BoxVal H (HX.set (H.length + 2) (some ⟨44, .wr, [l']⟩)) fp l' y ∧ Keep (H.length :: fp) X HX := by
    intro HX y h
    rw [hX] at h ⊢
    exact h.val hlt (by omega) (by simp)
  have off : ∀ k : Nat, 0 < k → H.length + k ∉ H.length :: fp := fun k hk h => by
    rcases List.mem_cons.1 h with h | h
    · omega
    · have := hlt _ h; omega
  have done : ∀ (HX : Heap) (y : Box) (c : Int) (_ : R = (y, c)) (_ : BoxTo X HX H.length fp y), ∃ l', blkAt HX H.length = some ⟨44, .wr, [l']⟩ ∧ l'.length = 10 ∧ l'.take 10 = l' ∧ H.length < HX.length ∧ H.length + 2 < HX.length ∧ blkAt HX (H.length + 2) = some ⟨44, .wr, [[.i .i64 0, .i .i64 0, .i .i64 0, .i .i64 0, .i .i64 0, .sl none 0, .sl none 0, .sl none 0, .sl none 0, .sl none 0]]⟩ ∧ ∀ tm : Ab.T, tm 5 = .int c → tm 4 = .ptr (H.length + 2) 0 0 → Q .ret tm (HX.set (H.length + 2) (some ⟨44, .wr, [l']⟩)) := by
    intro HX y c h1 h
    obtain ⟨l', v1, v2, v3, v4, v5⟩ := val HX y h
    have hz := v5.blk bz (off _ (by omega))
    have hzl := blkAt_len hz
    exact ⟨l', v1, v2, v3, blkAt_len v1, hzl, hz, fun tm t5 t4 => fin _ tm c y l' h1 v4 t5 t4 (blkAt_set hzl)⟩
  have doneL : ∀ (HX : Heap) (y : Box) (c : Int) (L : List Lf) (_ : R = (y, c)) (_ : blkAt HX H.length = some ⟨44, .wr, [L]⟩) (_ : BoxTo X HX H.length fp y), H.length < HX.length ∧ H.length + 2 < HX.length ∧ blkAt HX (H.length + 2) = some ⟨44, .wr, [[.i .i64 0, .i .i64 0, .i .i64 0, .i .i64 0, .i .i64 0, .sl none 0, .sl none 0, .sl none 0, .sl none 0, .sl none 0]]⟩ ∧ ∀ tm : Ab.T, tm 5 = .int c → tm 4 = .ptr (H.length + 2) 0 0 → Q .ret tm (HX.set (H.length + 2) (some ⟨44, .wr, [L]⟩)) := by
    intro HX y c L h1 hb h
    obtain ⟨l', w1, w2, w3, w4, w5, w6, w7⟩ := done HX y c h1 h
    rw [hb] at w1
    injection w1 with w1
    simp only [Blk.mk.injEq, List.cons.injEq, and_true, true_and] at w1
    subst w1
    exact ⟨w4, w5, w6, w7⟩
  have same : ∀ (G : Heap) (c : Int) (_ : R = (x, c)) (tm : Ab.T), tm 5 = .int c → tm 4 = .ptr (H.length + 2) 0 0 → Q .ret tm ((X ++ G).set (H.length + 2) (some ⟨44, .wr, [[.i .i64 x.id, .i .i64 x.ports, .i .i64 x.reg.epoch, .i .i64 x.reg.owner, .i .i64 x.reg.pair, q0, q1, q2, q3, q4]]⟩)) := by
    intro G c h1 tm t5 t4
    obtain ⟨l', w1, -, -, -, -, -, w7⟩ := done (X ++ G) x c h1 (BoxTo.app b0 hI1 hid G)
    rw [blkAt_app b0] at w1
    injection w1 with w1
    simp only [Blk.mk.injEq, List.cons.injEq, and_true, true_and] at w1
    subst w1
    exact w7 tm t5 t4
  have same0 : ∀ (c : Int) (_ : R = (x, c)) (tm : Ab.T), tm 5 = .int c → tm 4 = .ptr (H.length + 2) 0 0 → Q .ret tm (X.set (H.length + 2) (some ⟨44, .wr, [[.i .i64 x.id, .i .i64 x.ports, .i .i64 x.reg.epoch, .i .i64 x.reg.owner, .i .i64 x.reg.pair, q0, q1, q2, q3, q4]]⟩)) := by
    intro c h1 tm t5 t4
    have := same [] c h1 tm t5 t4
    rwa [List.append_nil] at this
  have sub : ∀ (HZ : Heap) (lz : List Lf) (y : Box), BoxVal X HZ fp lz y → lz.length = 10 ∧ lz.take 10 = lz ∧ blkAt HZ (H.length + 2) = some ⟨44, .wr, [[.i .i64 0, .i .i64 0, .i .i64 0, .i .i64 0, .i .i64 0, .sl none 0, .sl none 0, .sl none 0, .sl none 0, .sl none 0]]⟩ ∧ H.length + 2 < HZ.length ∧ True ∧ ∀ (G : Heap) (c : Int), R = (y, c) → ∀ tm : Ab.T, tm 5 = .int c → tm 4 = .ptr (H.length + 2) 0 0 → Q .ret tm (HZ.set (H.length + 2) (some ⟨44, .wr, [lz]⟩) ++ G) := by
    intro HZ lz y bv
    have hl := bv.len
    obtain ⟨fp', z1, z2, z3⟩ := bv
    have hzz := z2.blk bz (fun h => off 2 (by omega) (by simp [h]))
    have dzz := blkAt_len hzz
    refine ⟨hl, by rw [← hl]; exact List.take_length, hzz, dzz, trivial, fun G c hr tm t5 t4 => ?_⟩
    have hnf : ∀ i ∈ fp', i ∉ [H.length + 2] := fun i hi hj => by
      simp at hj
      rcases z3 i hi with h | h
      · have := hlt i h; omega
      · omega
    refine fin _ tm c y lz hr ⟨fp', (z1.keep (Keep.set _ _) hnf).app G, ?_, fun i hi => ?_⟩ t5 t4 (blkAt_app (blkAt_set dzz) G)
    · exact (((kX.trans z2 (by simp) (fun _ h _ => h)).trans (Keep.set _ _) (fun _ h _ => h) (fun i hi hlt => by simp at hi; omega))).trans (Keep.app [] _ G) (fun _ h _ => h) (by simp)
    · rcases z3 i hi with h | h
      · exact .inl h
      · exact .inr (by have := kX.1; omega)
  have hD := deedD.eq_1 x d
  rw [← hR] at hD
  have hIn := l15In hI1 hok d
  have hSay := l15Say hI1 hok hxok
  have hNet := l15Net hI1 hok hxok d
  simp only [Box.enc, Deed.enc] at hIn hSay hNet
  by_cases c1 : d.kind = 1
  · rw [if_pos c1] at hD
    simp [c1, b0, d0, bD, dD] at hIn ⊢
    refine stpL_runs (hIn) ?_
    rintro _ HZ ⟨lz, rfl, bv⟩
    obtain ⟨x1, x2, x3, x4, x5, x6⟩ := sub HZ lz _ bv
    simp [x1, x2, x3, x4]
    exact x6 _ (inD x d.inn).2 hD _ (by simp) (by simp)
  rw [if_neg c1] at hD
  by_cases c6 : d.kind = 6
  · rw [if_pos c6] at hD
    simp [c6, b0, d0, bD, dD]
    refine stpL_runs (hSay) ?_
    rintro _ HZ ⟨lz, rfl, bv⟩
    obtain ⟨x1, x2, x3, x4, x5, x6⟩ := sub HZ lz _ bv
    simp [x1, x2, x3, x4]
    exact x6 _ (sayD x).2 hD _ (by simp) (by simp)
  rw [if_neg c6] at hD
  by_cases c345 : d.kind = 3 ∨ d.kind = 4 ∨ d.kind = 5
  · rw [if_pos c345] at hD
    have hNet := hNet c345
    rcases c345 with c | c | c
    all_goals
      rw [c] at hNet
      simp [c, b0, d0, bD, dD]
      refine stpL_runs (hNet) ?_
      rintro _ HZ ⟨lz, rfl, bv⟩
      obtain ⟨x1, x2, x3, x4, x5, x6⟩ := sub HZ lz _ bv
      simp [x1, x2, x3, x4]
      exact x6 _ (onWireD x d).2 hD _ (by simp) (by simp)
  rw [if_neg c345] at hD
  have c3 : ¬ d.kind = 3 := fun h => c345 (.inl h)
  have c4 : ¬ d.kind = 4 := fun h => c345 (.inr (.inl h))
  have c5 : ¬ d.kind = 5 := fun h => c345 (.inr (.inr h))
  simp [c1, c6, c3, c4, c5, l1In, bD, dD]
  by_cases hs01 : 0 ≤ d.a ∧ d.a ≤ 1
  · rw [if_neg (by simpa using hs01)] at hD
    obtain ⟨s, hs2, hda⟩ : ∃ s : Nat, s < 2 ∧ d.a = (s : Int) := ⟨d.a.toNat, by omega, by omega⟩
    have h01 : (!decide (0 ≤ d.a) || !decide (d.a ≤ 1)) = false := by simp [hs01]
    rw [h01]
    have hShip := l15Ship hI1 hok hxok s hs2
    have hFall := l15Fall hI1 hok hxok d hs2 hda
    have hReg := l15Reg hI1 hok hxok d hs2 hda
    simp only [Box.enc, Deed.enc] at hShip hFall hReg
    have hD2 := onMinderD.eq_1 x d
    by_cases c2 : d.kind = 2
    · rw [hD2, if_pos c2, hda] at hD
      simp [c2, b0, d0, bD, dD, hda]
      refine stpL_runs (hShip) ?_
      rintro _ HZ ⟨lz, rfl, bv⟩
      obtain ⟨x1, x2, x3, x4, x5, x6⟩ := sub HZ lz _ bv
      simp [x1, x2, x3, x4]
      exact x6 _ (shipD x s).2 hD _ (by simp) (by simp)
    by_cases c7 : d.kind = 7 ∨ d.kind = 8 ∨ d.kind = 12
    · have hFall := hFall c7
      rcases c7 with c | c | c
      all_goals
        rw [c] at hFall
        simp [c, b0, d0, bD, dD]
        refine stpL_runs (hFall) ?_
        rintro _ HZ ⟨lz, rfl, bv⟩
        obtain ⟨x1, x2, x3, x4, x5, x6⟩ := sub HZ lz _ bv
        simp [x1, x2, x3, x4]
        exact x6 _ (onMinderD x d).2 hD _ (by simp) (by simp)
    have c9 : d.kind = 9 ∨ d.kind = 10 ∨ d.kind = 11 := by omega
    have hReg := hReg c9
    rcases c9 with c | c | c
    all_goals
      rw [c] at hReg
      simp [c, b0, d0, bD, dD]
      refine stpL_runs (hReg) ?_
      rintro _ HZ ⟨lz, rfl, bv⟩
      obtain ⟨x1, x2, x3, x4, x5, x6⟩ := sub HZ lz _ bv
      simp [x1, x2, x3, x4]
      exact x6 _ (onMinderD x d).2 hD _ (by simp) (by simp)
  · rw [if_pos hs01] at hD
    have h01 : (!decide (0 ≤ d.a) || !decide (d.a ≤ 1)) = true := by
      rcases Int.lt_or_le d.a 0 with h | h
      · simp [show ¬ 0 ≤ d.a by omega]
      · simp [show ¬ d.a ≤ 1 by omega]
    rw [h01]
    simp [b0, d0, bz, dz]
    exact same0 2 hD _ (by simp) (by simp)

theorem bigL {H : Heap} {a : Option (Nat × Nat)} {n : Nat} : run env 4 [.w (.lf (.sl a n))] H = some (.bool (decide ((1048576 : Int) < n)), H) := by
  refine run_walk ok4 Tryz.func4 rfl (by simp [Tryz.f4]) fun Q hQ => ?_
  simp only [Tryz.f4, strip, stripL, stripI, stripG, chkT, tagsB, tagsL, tagD, addT, tagA, lookN, tagOp, elmT, ty22, ty29, ty33, ty39, ty40, ty41, ty42, ty69, ty71, ty95, Nat.reduceEqDiff, if_false, reduceIte, Option.getD_some, Option.getD_none, dstAt, dstOk, Nat.reduceLT, decide_true, if_true]
  simp [builtinV, pureB, lenV]
  refine hQ _ _ _ (by simp) ?_
  simp [Tryz.f4]
end W
end Go.Proofs.YtdojljjiekgapaaGreatDoor
