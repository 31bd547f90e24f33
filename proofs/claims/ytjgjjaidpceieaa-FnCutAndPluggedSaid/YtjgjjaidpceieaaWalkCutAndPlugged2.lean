/- The functions that this law reaches: what each computes. Conditions: those that each theorem names. -/
import Derived.Test.YtjgjjaidpceieaaWalkCutAndPlugged1
set_option maxRecDepth 100000
set_option maxHeartbeats 4000000
set_option linter.unusedSimpArgs false
set_option linter.unusedVariables false
set_option linter.unnecessarySimpa false
namespace Go.Proofs.Ytjgjjaidpceieaa
open Go Go.Ab Go.ChangeShapes Go.WideShapes Go.ChangeAt Go.RowKit
namespace W
theorem l10RoundM {H : Heap} {l : List Lf} {n : Net} {fp : List Nat} (hI : IsNet H l n fp) (hw : NetW n) :
    Runs env 72 [.agg l] H fun v H' => v = .agg l ∧ ∃ fp', IsNet H' l (roundN n) fp' ∧ Keep fp H H' ∧ ∀ i ∈ fp', i ∈ fp ∨ H.length ≤ i := by
  have hlt := hI.lt
  obtain ⟨_, _, _, f1, rfl, ⟨a, rows, fp0, fps, rfl, ho, hp, rfl, hnd0⟩, ⟨a1, rfl, o1⟩, rfl, hnd⟩ := hI
  have hdis : ∀ i ∈ fp0, i ∉ fps.flatten := fun i hi hj => (List.nodup_append.1 hnd0).2.2 i hi i hj rfl
  have x01 : ∀ i ∈ f1, i ∉ fp0 := fun i hi hj => (List.nodup_append.1 hnd).2.2 i (by simp only [List.mem_append]; exact .inl hj) i hi rfl
  have x11 : ∀ i ∈ f1, i ∉ fps.flatten := fun i hi hj => (List.nodup_append.1 hnd).2.2 i (by simp only [List.mem_append]; exact .inr hj) i hi rfl
  have lt0 : ∀ i ∈ fp0, i < H.length := ho.lt
  have lt1 : ∀ i ∈ f1, i < H.length := o1.lt
  obtain ⟨hl5, hl6⟩ := hw.len
  refine Runs.walk ok72 Try.func72 rfl (by simp [Try.f72]) fun Q hQ => ?_
  simp only [Try.f72, strip, stripL, stripI, stripG, chkT, tagsB, tagsL, tagD, addT, tagA, lookN, tagOp, elmT, ty22, ty24, ty25, ty33, ty54, ty58, ty95, ty122, Nat.reduceEqDiff, if_false, reduceIte, Option.getD_some, Option.getD_none, dstAt, dstOk, Nat.reduceLT, decide_true, if_true]
  simp [Net.enc]
  obtain ⟨H3, hH3⟩ : ∃ H3 : Heap, H3 = H ++ [some ⟨27, .wr, [[.sl a n.bridges.length, .sl a1 n.links.length]]⟩, some ⟨27, .wr, [[.sl none 0, .sl none 0]]⟩] := ⟨_, rfl⟩
  have b1 : blkAt H3 H.length = some ⟨27, .wr, [[.sl a n.bridges.length, .sl a1 n.links.length]]⟩ := by rw [hH3]; simp
  have b2 : blkAt H3 (H.length + 1) = some ⟨27, .wr, [[.sl none 0, .sl none 0]]⟩ := by rw [hH3]; simp
  have k03 : Keep [] H H3 := by rw [hH3]; exact Keep.app _ _ _
  have hl3 : H3.length = H.length + 2 := by rw [hH3]; simp
  rw [← hH3]
  clear hH3
  have ho3 := ho.keep k03 (by simp)
  have hp3 := hp.keep okBridge k03 (by simp)
  have o13 := o1.keep k03 (by simp)
  clear ho hp o1
  -- what holds all along
  obtain ⟨St, hSt⟩ : ∃ St : Heap → Net → List (List Lf) → List (List Nat) → Prop, St = fun H' m rws fs => Own H' 56 a rws fp0 ∧ Part IsBridge H' rws m.bridges fs ∧ Keep fp0 H3 H' ∧ ∀ k ∈ fs.flatten, k ∈ fps.flatten ∨ H3.length ≤ k := ⟨_, rfl⟩
  have s0 : St H3 n rows fps := by rw [hSt]; exact ⟨ho3, hp3, Keep.refl _ _, fun k hk => .inl hk⟩
  have sdis : ∀ {H' m rws fs}, St H' m rws fs → ∀ i ∈ fp0, i ∉ fs.flatten := by
    intro H' m rws fs h i hi hj
    rw [hSt] at h
    rcases h.2.2.2 i hj with h | h
    · exact hdis i hi h
    · have := lt0 i hi; omega
  have sk : ∀ {H' m rws fs H''}, St H' m rws fs → Keep [] H' H'' → St H'' m rws fs := by
    intro H' m rws fs H'' h hk
    rw [hSt] at h ⊢
    exact ⟨h.1.keep hk (by simp), h.2.1.keep okBridge hk (by simp), h.2.2.1.trans hk (fun _ h _ => h) (by simp), h.2.2.2⟩
  have sb1 : ∀ {H' m rws fs}, St H' m rws fs → blkAt H' H.length = some ⟨27, .wr, [[.sl a n.bridges.length, .sl a1 n.links.length]]⟩ := by
    intro H' m rws fs h
    rw [hSt] at h
    exact h.2.2.1.blk b1 (fun h => by have := lt0 _ h; omega)
  have sb2 : ∀ {H' m rws fs}, St H' m rws fs → blkAt H' (H.length + 1) = some ⟨27, .wr, [[.sl none 0, .sl none 0]]⟩ := by
    intro H' m rws fs h
    rw [hSt] at h
    exact h.2.2.1.blk b2 (fun h => by have := lt0 _ h; omega)
  have sget : ∀ {H' m rws fs}, St H' m rws fs → NetW m → ∀ t, t < m.bridges.length → ∃ bid blo l0, a = some (bid, 0) ∧ bid < H'.length ∧ blkAt H' bid = some blo ∧ blo.elem = 56 ∧ blo.md = .wr ∧ blo.rows[t]? = some l0 ∧ RdBridge H' l0 (bAt m t) := by
    intro H' m rws fs h hwm t ht
    rw [hSt] at h
    obtain ⟨h1, h2, h3⟩ := h.2.1.get ht
    obtain ⟨bid, blo, ha, hf, hb, hbe, hm, hpre⟩ := h.1.blk (by rintro rfl; simp at h1)
    obtain ⟨tl, htl⟩ := hpre
    refine ⟨bid, blo, rws[t], ha, blkAt_len hb, hb, hbe, hm, ?_, ?_⟩
    · rw [← htl, List.getElem?_append_left h1, List.getElem?_eq_getElem h1]
    · rw [bAt_eq ht]; exact h3.rd
  have sset : ∀ {H' m rws fs}, St H' m rws fs → ∀ {t bid : Nat} {blo : Blk} {H1 : Heap} {l2 : List Lf} {b : Bridge} {f2 : List Nat}, t < m.bridges.length → a = some (bid, 0) → Keep [] H' H1 → IsBridge H1 l2 b f2 → (∀ i ∈ f2, H'.length ≤ i) → blkAt H1 bid = some blo → ∃ rws' fs', St (H1.set bid (some { blo with rows := blo.rows.set t l2 })) (setBr m t b) rws' fs' := by
    intro H' m rws fs h t bid blo H1 l2 b f2 ht ha hk hr hf2 hb
    have hd := sdis h
    rw [hSt] at h ⊢
    rw [ha] at h ⊢
    obtain ⟨p1, p2, p3, p4⟩ := placeAt h.1 h.2.1 hd ht hk hr hf2 hb
    refine ⟨_, _, p1, p2, h.2.2.1.trans p3 (fun _ h _ => h) (fun _ h _ => h), fun k hk => ?_⟩
    rcases p4 k hk with hh | hh
    · exact h.2.2.2 k hh
    · have := h.2.2.1.1; exact .inr (by omega)
  have srd : ∀ {H' m rws fs}, St H' m rws fs → m.bridges.length = n.bridges.length → m.links = n.links → RdNet H' [.sl a n.bridges.length, .sl a1 n.links.length] m := by
    intro H' m rws fs h hml hmk
    rw [hSt] at h
    refine ⟨.sl a n.bridges.length, .sl a1 n.links.length, rfl, ⟨a, rws, by rw [hml], h.1.sl, h.2.1.len, fun i row x h1 h2 => ?_⟩, ⟨a1, by rw [hmk], by rw [hmk]; exact (o13.keep h.2.2.1 x01).sl⟩⟩
    have hi := (List.getElem?_eq_some_iff.1 h2).1
    have h3 : i < fs.length := by rw [h.2.1.len2]; exact hi
    exact (h.2.1.at_ i row x _ h1 h2 (List.getElem?_eq_getElem h3)).rd
  have e3 := fun {H' : Heap} {m rws fs} (h : St H' m rws fs) (h1 : m.bridges.length = n.bridges.length) (h2 : m.links = n.links) (c p : Int) => l10Other (srd h h1 h2) (by rw [h2]; omega) c p
  refine wpS_loop (fun j tm H' => ∃ i rws fs, i + j = n.bridges.length ∧ tm 1 = .ptr H.length 0 0 ∧ tm 2 = .ptr (H.length + 1) 0 0 ∧ tm 3 = .int i ∧ St H' (roundU n i) rws fs) n.bridges.length (by rw [env_K]; omega) ⟨0, rows, fps, by simp, by simp, by simp, by simp, s0⟩ ?_
  rintro j tm H1 hj ⟨i, rws, fs, hij, t1, t2, t3, s1⟩ Q2 hn2 he2 hr2
  have c1 := sb1 s1
  have d1 := blkAt_len c1
  simp [t1, t3, c1, d1, builtinV, pureB, lenV]
  refine selS_intro (fun hc => ?_) (fun hc => ?_)
  · simp at hc
    obtain ⟨hwi, hli, hki⟩ := roundU_w hw i (by omega)
    have hci : i < (roundU n i).bridges.length := by omega
    obtain ⟨bid, blo, l0, rfl, hid, hbl, hbe, hbm, hrow, hrd⟩ := sget s1 hwi i hci
    have hL := hrd.len
    have hT : l0.take l0.length = l0 := List.take_length
    rw [hL] at hT
    have hbok := bAt_ok hwi hci
    have hb4 := (Bridge.ok_all hbok).2.2.2.2
    have hrun := specReact hrd (by unfold Bridge.sz; omega) tickIn
    simp only [In.enc] at hrun
    simp only [show tickIn.kind = 2 from rfl, show tickIn.port = 0 from rfl, show tickIn.vec = ⟨0, 0, 0, 0⟩ from rfl, show tickIn.hops = 0 from rfl, show tickIn.up = false from rfl] at hrun
    have g4 : IntKind.i64.wrap ((i : Int) + 1) = (i : Int) + 1 := wrap64 (by omega) (by omega)
    simp [t1, t3, c1, d1, indexAddrV, elemIs, hid, hbl, hbe, hc, hrow, hL, hT]
    refine stpL_runs hrun ?_
    rintro _ _ ⟨l2, f2, q, fq, rfl, o2, oq, ⟨⟨G2, rfl⟩, hf2⟩, hdj⟩
    obtain ⟨c2, hc2⟩ : ∃ c2, c2 = (reactB (bAt (roundU n i) i) tickIn).1 := ⟨_, rfl⟩
    obtain ⟨os, hos⟩ : ∃ os, os = (reactB (bAt (roundU n i) i) tickIn).2 := ⟨_, rfl⟩
    rw [← hos] at oq
    rw [← hc2] at o2
    have hoc := fun o (h : o ∈ os) (hk : o.kind = 1) (p : Int) (h0 : 0 ≤ p) (h3 : p ≤ 3) => claimIn_ok hbok (x := tickIn) (by rw [← hos]; exact h) hk h0 h3
    have hol : os.length ≤ 8 := by
      have := reactB_outs (bAt (roundU n i) i) tickIn
      rw [hos]; omega
    obtain ⟨m1, hm1⟩ : ∃ m1, m1 = setBr (roundU n i) i c2 := ⟨_, rfl⟩
    have hw1 : NetW m1 := by rw [hm1, hc2]; exact hwi.set hci (reactB_ok _ hbok) (reactB_len _ _)
    have hl1 : m1.bridges.length = n.bridges.length := by rw [hm1]; simp [setBr]; omega
    have hk1' : m1.links = n.links := by rw [hm1]; exact hki
    have hra : roundAt (roundU n i) i = os.foldl (sendTo i) m1 := by rw [hm1, hos, hc2]; rfl
    obtain ⟨a2, rfl, o2'⟩ := id o2
    obtain ⟨a3, rfl, oq'⟩ := id oq
    clear hos hc2 hrun hrd
    simp [Bridge.enc, t1, t3]
    obtain ⟨H4, hH4⟩ : ∃ H4 : Heap, H4 = H1 ++ (G2 ++ [some ⟨56, .wr, [[.i .i64 c2.id, .sl a2 c2.ports.length]]⟩]) := ⟨_, rfl⟩
    have k14 : Keep [] H1 H4 := by rw [hH4]; exact Keep.app _ _ _
    have b4 : blkAt H4 (H1.length + G2.length) = some ⟨56, .wr, [[.i .i64 c2.id, .sl a2 c2.ports.length]]⟩ := by rw [hH4]; simp
    have o24 : IsBridge H4 [.i .i64 c2.id, .sl a2 c2.ports.length] c2 f2 := by rw [hH4, ← List.append_assoc]; exact o2.app _
    have oq4 : IsOutS H4 (.sl a3 os.length) os fq := by rw [hH4, ← List.append_assoc]; exact oq.app _
    have hbl4 := k14.blk hbl (by simp)
    have c14 := k14.blk c1 (by simp)
    have d4 := blkAt_len b4
    have d14 := blkAt_len c14
    have hid4 := blkAt_len hbl4
    rw [← hH4]
    clear hH4 o2' oq'
    have hD : l0.drop 2 = [] := by rw [← hL]; exact List.drop_length
    simp [t1, t3, c14, d14, b4, d4, indexAddrV, elemIs, hbl4, hbe, hid4, hc, hbm, hrow, hL, hD]
    obtain ⟨rws', fs', s5⟩ := sset s1 hci rfl k14 o24 (fun k hk => hf2 k (List.mem_append.2 (.inl hk))) hbl4
    rw [← hm1] at s5
    have oq5 := oq4.keep (Keep.set (id := bid) H4 (some { blo with rows := blo.rows.set i [.i .i64 c2.id, .sl a2 c2.ports.length] })) (fun k hk hj => by have := hf2 k (List.mem_append.2 (.inr hk)); simp at hj; omega)
    have hbf : bid ∈ fp0 := ho3.ids bid 0 rfl
    have l3 : H3.length ≤ H1.length := by rw [hSt] at s1; exact s1.2.2.1.1
    have hfq : ∀ k ∈ fq, H3.length ≤ k := fun k hk => by have := hf2 k (List.mem_append.2 (.inr hk)); omega
    obtain ⟨H5, hH5⟩ : ∃ H5 : Heap, H5 = H4.set bid (some { blo with rows := blo.rows.set i [.i .i64 c2.id, .sl a2 c2.ports.length] }) := ⟨_, rfl⟩
    rw [← hH5] at s5 oq5
    have hset : H4.set bid (some ⟨56, .wr, blo.rows.set i [.i .i64 c2.id, .sl a2 c2.ports.length]⟩) = H5 := by rw [hH5, ← hbe, ← hbm]
    rw [hset]
    clear hset hH5 hm1 oq oq4 hbl4 c14 b4 o24 o2 k14
    have l5 : H3.length ≤ H5.length := by rw [hSt] at s5; exact s5.2.2.1.1
    obtain ⟨_, hq3, oq6⟩ := oq5
    cases hq3
    refine wpS_loop (fun j2 tm H' => ∃ k rws fs, k + j2 = os.length ∧ tm 1 = .ptr H.length 0 0 ∧ tm 2 = .ptr (H.length + 1) 0 0 ∧ tm 3 = .int i ∧ tm 5 = .w (.lf (.sl a3 os.length)) ∧ tm 6 = .int k ∧ St H' ((os.take k).foldl (sendTo i) m1) rws fs ∧ Keep fp0 H5 H') os.length (by rw [env_K]; omega) ⟨0, rws', fs', by simp, by simp [t1], by simp [t2], by simp [t3], by simp, by simp, s5, Keep.refl _ _⟩ ?_
    rintro j2 tm H6 hj2 ⟨k, rws6, fs6, hkj, t1, t2, t3, t5, t6, s6, hk6⟩ Q3 hn3 he3 hr3
    simp [t5, t6, builtinV, pureB, lenV]
    refine selS_intro (fun hc2 => ?_) (fun hc2 => ?_)
    · simp at hc2
      obtain ⟨id2, r, bl, rfl, hbl2, hbe2, hrow2⟩ := (oq6.sl.keep hk6 (fun i r h hj => by have := hfq i (oq6.ids i r h); have := lt0 i hj; omega)) k _ (by simp [hc2]; rfl)
      have hid2 := blkAt_len hbl2
      have g5 : IntKind.i64.wrap ((k : Int) + 1) = (k : Int) + 1 := wrap64 (by omega) (by omega)
      have hstep : (os.take (k + 1)).foldl (sendTo i) m1 = sendTo i ((os.take k).foldl (sendTo i) m1) os[k] := by
        rw [List.take_add_one, List.getElem?_eq_getElem hc2, List.foldl_append]; rfl
      obtain ⟨hwm, hlm, hkm⟩ := fold_w hw1 i (os.take k) hw1 rfl rfl
      have hmem := List.getElem_mem hc2
      obtain ⟨o, hoo⟩ : ∃ o, o = os[k] := ⟨_, rfl⟩
      rw [← hoo] at hstep hrow2 hmem
      obtain ⟨m, hmm⟩ : ∃ m, m = (os.take k).foldl (sendTo i) m1 := ⟨_, rfl⟩
      rw [← hmm] at hstep s6 hwm hlm hkm
      have next : ∀ (tm' : Ab.T) (H' : Heap) rws fs, tm' 1 = .ptr H.length 0 0 → tm' 2 = .ptr (H.length + 1) 0 0 → tm' 3 = .int i → tm' 5 = .w (.lf (.sl (some (id2, r)) os.length)) → tm' 6 = .int ((k : Int) + 1) → St H' (sendTo i m o) rws fs → Keep fp0 H6 H' → Q3 .normal tm' H' := by
        intro tm' H' rws fs a1 a2 a3 a5 a6 hs hk
        exact hn3 (j2 - 1) _ _ (by omega) ⟨k + 1, rws, fs, by omega, a1, a2, a3, a5, by simpa using a6, by rw [hstep]; exact hs, hk6.trans hk (fun _ h _ => h) (fun _ h _ => h)⟩
      have s7 := fun T => sk s6 (Keep.app [] H6 T)
      have c7 := fun T => sb1 (s7 T)
      have d7 := fun T => blkAt_len (c7 T)
      have e7 := fun T => e3 (s7 T) (by omega) (by rw [hkm, hk1']) (i : Int) o.port
      simp [t1, t3, t5, t6, indexAddrV, elemIs, hid2, hbl2, hbe2, hc2, hrow2, Out.enc, c7, d7, e7]
      by_cases hk1 : o.kind = 1
      case neg =>
        have hst : sendTo i m o = m := by unfold sendTo; rw [if_neg hk1]
        simp [hk1, t1, t2, t3, t5, t6, g5]
        exact next _ _ rws6 fs6 (by simp [t1]) (by simp [t2]) (by simp [t3]) (by simp [t5]) (by simp) (by rw [hst]; exact s7 _) (Keep.app _ _ _)
      cases hoth : otherL m.links (i : Int) o.port with
      | none =>
        have hst : sendTo i m o = m := by unfold sendTo; rw [if_pos hk1, hoth]
        simp [hk1, hoth, t1, t2, t3, t5, t6, g5]
        exact next _ _ rws6 fs6 (by simp [t1]) (by simp [t2]) (by simp [t3]) (by simp [t5]) (by simp) (by rw [hst]; exact s7 _) (Keep.app _ _ _)
      | some e =>
        have hst : sendTo i m o = setBr m e.1.toNat (reactB (bAt m e.1.toNat) (claimIn e.2 o)).1 := by unfold sendTo; rw [if_pos hk1, hoth]
        obtain ⟨ea0, ea1, ea2, ea3⟩ := otherL_at hwm hoth
        obtain ⟨H7, hH7⟩ : ∃ H7 : Heap, H7 = H6 ++ [some ⟨108, .wr, [[.i .i64 o.kind, .i .i64 o.port, .i .i64 o.vec.root, .i .i64 o.vec.cost, .i .i64 o.vec.bridge, .i .i64 o.vec.port, .i .i64 o.hops, .b o.on]]⟩] := ⟨_, rfl⟩
        have s77 := s7 [some ⟨108, .wr, [[.i .i64 o.kind, .i .i64 o.port, .i .i64 o.vec.root, .i .i64 o.vec.cost, .i .i64 o.vec.bridge, .i .i64 o.vec.port, .i .i64 o.hops, .b o.on]]⟩]
        have bo : blkAt H7 H6.length = some ⟨108, .wr, [[.i .i64 o.kind, .i .i64 o.port, .i .i64 o.vec.root, .i .i64 o.vec.cost, .i .i64 o.vec.bridge, .i .i64 o.vec.port, .i .i64 o.hops, .b o.on]]⟩ := by rw [hH7]; simp
        have do' := blkAt_len bo
        have k67 : Keep [] H6 H7 := by rw [hH7]; exact Keep.app _ _ _
        rw [← hH7] at s77 ⊢
        clear hH7 s7 c7 d7 e7
        have c7 := sb1 s77
        have d7 := blkAt_len c7
        obtain ⟨bid', blo', l0', ha', hid', hbl', hbe', hbm', hrow', hrd'⟩ := sget s77 hwm e.1.toNat ea1
        cases ha'
        have hL' := hrd'.len
        have hT' : l0'.take l0'.length = l0' := List.take_length
        have hD' : l0'.drop 2 = [] := by rw [← hL']; exact List.drop_length
        rw [hL'] at hT'
        have hbok' := bAt_ok hwm ea1
        have hb4' := (Bridge.ok_all hbok').2.2.2.2
        have hrun' := specReact hrd' (by unfold Bridge.sz; omega) (claimIn e.2 o)
        simp only [In.enc] at hrun'
        simp only [show (claimIn e.2 o).kind = 1 from rfl, show (claimIn e.2 o).port = e.2 from rfl, show (claimIn e.2 o).vec = o.vec from rfl, show (claimIn e.2 o).hops = o.hops from rfl, show (claimIn e.2 o).up = false from rfl] at hrun'
        have ea4 : e.1 < (n.bridges.length : Int) := by omega
        have ea5 : e.1.toNat < n.bridges.length := by omega
        simp [hk1, hoth, t1, t3, c7, d7, bo, do', indexAddrV, elemIs, hid', hbl', hbe', hrow', hL', hT', ea0, ea4, ea5]
        refine stpL_runs_f hrun' (by rintro _ _ ⟨_, _, _, _, _, _, _, hf, _⟩; exact hf.1) ?_
        rintro _ _ ⟨l3, f3, q3, fq3, rfl, o3, oq3, ⟨⟨G3, rfl⟩, hf3⟩, -⟩
        obtain ⟨c3, hc3⟩ : ∃ c3, c3 = (reactB (bAt m e.1.toNat) (claimIn e.2 o)).1 := ⟨_, rfl⟩
        rw [← hc3] at o3 hst
        clear hc3 hrun' oq3
        obtain ⟨a4, rfl, -⟩ := id o3
        simp [Bridge.enc, t1, t3]
        obtain ⟨H8, hH8⟩ : ∃ H8 : Heap, H8 = H7 ++ (G3 ++ [some ⟨56, .wr, [[.i .i64 c3.id, .sl a4 c3.ports.length]]⟩]) := ⟨_, rfl⟩
        have k78 : Keep [] H7 H8 := by rw [hH8]; exact Keep.app _ _ _
        have b8 : blkAt H8 (H7.length + G3.length) = some ⟨56, .wr, [[.i .i64 c3.id, .sl a4 c3.ports.length]]⟩ := by rw [hH8]; simp
        have o8 : IsBridge H8 [.i .i64 c3.id, .sl a4 c3.ports.length] c3 f3 := by rw [hH8, ← List.append_assoc]; exact o3.app _
        have hbl8 := k78.blk hbl' (by simp)
        have c8 := k78.blk c7 (by simp)
        have d8 := blkAt_len b8
        have dc8 := blkAt_len c8
        have hid8 := blkAt_len hbl8
        rw [← hH8]
        clear hH8
        simp [t1, t3, c8, dc8, b8, d8, indexAddrV, elemIs, hbl8, hbe', hid8, ea0, ea4, ea5, hbm', hrow', hL', hD', t2, t5, t6, g5]
        obtain ⟨rws'', fs'', s9⟩ := sset s77 ea1 rfl k78 o8 (fun k hk => hf3 k (List.mem_append.2 (.inl hk))) hbl8
        rw [← hst, hbe', hbm'] at s9
        have k68 : Keep [] H6 H8 := k67.trans k78 (by simp) (by simp)
        have ks8 := Keep.set (id := bid) H8 (some ⟨56, .wr, blo'.rows.set e.1.toNat [.i .i64 c3.id, .sl a4 c3.ports.length]⟩)
        refine next _ _ rws'' fs'' (by simp [t1]) (by simp [t2]) (by simp [t3]) (by simp [t5]) (by simp) s9 (Keep.trans (h := fp0) k68 ks8 (fun _ h _ => absurd h (by simp)) (fun k hk _ => by rw [List.mem_singleton] at hk; rw [hk]; exact hbf))
    · simp at hc2
      obtain rfl : k = os.length := by omega
      rw [List.take_length, ← hra] at s6
      simp [t5, t6]
      refine he3 _ _ _ ?_
      simp [t3, g4]
      exact hn2 (j - 1) _ _ (by omega) ⟨i + 1, rws6, fs6, by omega, by simp [t1], by simp [t2], by simp, s6⟩
  · simp at hc
    obtain rfl : i = n.bridges.length := by omega
    simp [t1, t3]
    refine he2 _ _ _ ?_
    have c2 := sb2 s1
    have d2 := blkAt_len c2
    simp [t1, t2, c1, d1, c2, d2]
    refine hQ _ _ _ (by simp) ?_
    obtain ⟨-, hli, hki⟩ := roundU_w hw n.bridges.length (Nat.le_refl _)
    have hd := sdis s1
    rw [hSt] at s1
    obtain ⟨p1, p2, p3, p4⟩ := s1
    have ks := Keep.set (id := H.length + 1) H1 (some ⟨27, .wr, [[.sl a n.bridges.length, .sl a1 n.links.length]]⟩)
    obtain ⟨Hf, hHf⟩ : ∃ Hf : Heap, Hf = H1.set (H.length + 1) (some ⟨27, .wr, [[.sl a n.bridges.length, .sl a1 n.links.length]]⟩) := ⟨_, rfl⟩
    have hfc : ∀ k ∈ fs.flatten, k ∈ fps.flatten ∨ H.length + 2 ≤ k := fun k hk => (p4 k hk).imp id (by omega)
    have o0 : IsBridgeS Hf (.sl a n.bridges.length) (roundN n).bridges (fp0 ++ fs.flatten) := ⟨a, rws, fp0, fs, by rw [roundN, hli], by rw [hHf]; exact p1.keep ks (fun i hi hj => by have := lt0 i hi; simp at hj; omega), by rw [hHf]; exact p2.keep okBridge ks (fun i hi hj => by
      simp at hj
      rcases hfc i hi with h | h
      · have := hlt i (by simp only [List.mem_append]; exact .inl (.inr h)); omega
      · omega), rfl, nodup_app p1.nodup p2.nodup hd⟩
    have q1 : IsLinkS Hf (.sl a1 n.links.length) (roundN n).links f1 := ⟨a1, by rw [roundN, hki], by rw [roundN, hki, hHf]; exact (o13.keep p3 x01).keep ks (fun i hi hj => by have := lt1 i hi; simp at hj; omega)⟩
    have hnd2 : ((fp0 ++ fs.flatten) ++ f1).Nodup := nodup_app (nodup_app p1.nodup p2.nodup hd) o13.nodup (fun i hi hj => by
      rcases List.mem_append.1 hi with hi | hi
      · exact x01 i hj hi
      · rcases hfc i hi with h | h
        · exact x11 i hj h
        · have := lt1 i hj; omega)
    have hKf : Keep fp0 H Hf := by
      have h1 : Keep fp0 H H1 := k03.trans p3 (by simp) (fun _ h _ => h)
      rw [hHf]
      exact h1.trans ks (fun _ h _ => h) (fun k hk hl => by simp at hk; omega)
    have hres : ∀ tm' : Ab.T, tm' 2 = .ptr (H.length + 1) 0 0 → resT env.τ tm' Hf (Try.f72.results.toList) = some [W.agg [.sl a n.bridges.length, .sl a1 n.links.length]] := by intro tm' t2; rw [hHf]; simp [Try.f72, t2, blkAt_set d2]
    have hI : IsNet Hf [.sl a n.bridges.length, .sl a1 n.links.length] (roundN n) ((fp0 ++ fs.flatten) ++ f1) := ⟨_, _, _, f1, rfl, o0, q1, rfl, hnd2⟩
    rw [← hHf, hres _ (by simp [t2]), optK_some]
    refine ⟨rfl, ?_⟩
    rcases leave_both H Hf [W.agg [.sl a n.bridges.length, .sl a1 n.links.length]] with e | ⟨e, hfr, -⟩ <;> rw [e]
    · refine ⟨_, hI, hKf.more (fun i hi _ => by simp only [List.mem_append]; exact .inl (.inl hi)), fun i hi => ?_⟩
      simp only [List.mem_append] at hi ⊢
      rcases hi with (h | h) | h
      · exact .inl (.inl (.inl h))
      · rcases hfc i h with h | h
        · exact .inl (.inl (.inr h))
        · exact .inr (by omega)
      · exact .inl (.inr h)
    · simp at hfr
      exact ⟨[], hI.free (by simp [hfr]) H, Keep.refl _ _, by simp⟩

noncomputable def settle (n : Net) (k : Int) : Net := if n.ok = true then Nat.repeat roundN (min k 100).toNat n else n
theorem roundN_w {n : Net} (hw : NetW n) : NetW (roundN n) ∧ (roundN n).bridges.length = n.bridges.length ∧ (roundN n).links = n.links := roundU_w hw _ (Nat.le_refl _)
theorem settleR_w {n : Net} (hw : NetW n) : ∀ k, NetW (Nat.repeat roundN k n) ∧ (Nat.repeat roundN k n).bridges.length = n.bridges.length ∧ (Nat.repeat roundN k n).links = n.links
  | 0 => ⟨hw, rfl, rfl⟩
  | k + 1 => by
    obtain ⟨h1, h2, h3⟩ := settleR_w hw k
    obtain ⟨h4, h5, h6⟩ := roundN_w h1
    exact ⟨h4, by rw [Nat.repeat, h5, h2], by rw [Nat.repeat, h6, h3]⟩
theorem NetW.ofOk {n : Net} (h : n.ok = true) : NetW n := NetW.of (by simpa [Net.ok] using h)
theorem NetW.sz {n : Net} (hw : NetW n) : n.sz ≤ 1048576 := by
  have key : ∀ bs : List Bridge, (∀ b ∈ bs, b.ok = true) → (bs.map Bridge.sz).sum ≤ 4 * bs.length := by
    intro bs
    induction bs with
    | nil => simp
    | cons b bs ih =>
      intro h
      have h1 := (Bridge.ok_all (h b (by simp))).2.2.2.2
      have h2 := ih (fun c hc => h c (by simp [hc]))
      simp only [List.map_cons, List.sum_cons, List.length_cons]
      unfold Bridge.sz at h2 ⊢
      omega
  have h1 := key _ hw.ok
  have h2 := hw.len
  unfold Net.sz BridgeS.sz
  omega
theorem settle_sz0 {n : Net} (hn : n.sz ≤ 1048576) {k : Int} : (settle n k).sz ≤ 1048576 := by
  unfold settle
  split
  · rename_i h; exact (settleR_w (NetW.ofOk h) _).1.sz
  · exact hn
theorem round_sz0 {n : Net} (hn : n.sz ≤ 1048576) : (settle n 1).sz ≤ 1048576 := settle_sz0 hn

theorem implSettle_is {H : Heap} {l : List Lf} {n : Net} (h : RdNet H l n) (hn : n.sz ≤ 1048576) (r : Int) (_ : I64 r) : Runs env 13 [.agg l, .int r] H fun v H' => ∃ l' fp, v = .agg l' ∧ IsNet H' l' (settle n r) fp ∧ Fresh H H' fp := by
  have hR := h
  have hL := h.len
  have hT : l.take l.length = l := List.take_length
  rw [hL] at hT
  have e1 := fun G => implNetOk_is (hR.app G) hn
  refine Runs.walk ok13 Try.func13 rfl (by simp [Try.f13]) fun Q hQ => ?_
  simp only [Try.f13, strip, stripL, stripI, stripG, chkT, tagsB, tagsL, tagD, addT, tagA, lookN, tagOp, elmT, ty22, ty24, ty25, ty33, ty54, ty58, ty95, ty122, Nat.reduceEqDiff, if_false, reduceIte, Option.getD_some, Option.getD_none, dstAt, dstOk, Nat.reduceLT, decide_true, if_true]
  simp [hL, hT]
  refine stpL_runs (copyNet (hR.app _) hn) ?_
  rintro _ _ ⟨l1, f1, rfl, o1, ⟨⟨G1, rfl⟩, hf1⟩⟩
  have hL1 := o1.len
  have hT1 : l1.take l1.length = l1 := List.take_length
  rw [hL1] at hT1
  simp [hL1, hT1]
  obtain ⟨H3, hH3⟩ : ∃ H3 : Heap, H3 = H ++ some ⟨27, .wr, [l]⟩ :: some ⟨27, .wr, [[.sl none 0, .sl none 0]]⟩ :: (G1 ++ [some ⟨27, .wr, [l1]⟩]) := ⟨_, rfl⟩
  obtain ⟨K5, hK5⟩ : ∃ K5, K5 = H.length + (G1.length + 2) := ⟨_, rfl⟩
  have b1 : blkAt H3 H.length = some ⟨27, .wr, [l]⟩ := by rw [hH3]; simp
  have b2 : blkAt H3 (H.length + 1) = some ⟨27, .wr, [[.sl none 0, .sl none 0]]⟩ := by rw [hH3]; simp
  have b5 : blkAt H3 K5 = some ⟨27, .wr, [l1]⟩ := by rw [hH3, hK5]; simp
  have lt1 := o1.lt
  have n5 : ∀ i ∈ f1, H.length + 2 ≤ i ∧ i < K5 := fun i hi => by have h1 := hf1 _ hi; have h2 := lt1 _ hi; simp only [List.length_append, List.length_cons, List.length_nil] at h1 h2; omega
  have o3 : IsNet H3 l1 n f1 := by
    have h1 := o1.app [some ⟨27, .wr, [l1]⟩]
    simp only [List.append_assoc, List.cons_append, List.nil_append] at h1
    rw [hH3]; exact h1
  have k03 : Keep [] H H3 := by rw [hH3]; exact Keep.app _ _ _
  have e2 : run env 23 [.agg l] H3 = some (.bool n.ok, H3) := by rw [hH3]; exact e1 _
  have d1 := blkAt_len b1
  have d2 := blkAt_len b2
  have d5 := blkAt_len b5
  have hd5 : H.length + 2 ≤ K5 := by omega
  have fin : ∀ (Hf : Heap) (tm : Ab.T) (l2 : List Lf) (m : Net) (f2 : List Nat), tm 4 = .ptr (H.length + 1) 0 0 → blkAt Hf (H.length + 1) = some ⟨27, .wr, [l2]⟩ → IsNet Hf l2 m f2 → (∀ i ∈ f2, H.length ≤ i) → m = settle n r → Keep [] H Hf → Q .ret tm Hf := by
    intro Hf tm l2 m f2 t4 hb hI hge hm hK
    refine hQ _ _ _ (by simp) ?_
    have hL2 := hI.len
    have hT2 : l2.take l2.length = l2 := List.take_length
    rw [hL2] at hT2
    have hres : resT env.τ tm Hf (Try.f13.results.toList) = some [W.agg l2] := by simp [Try.f13, t4, hb, hL2, hT2]
    rw [hres, optK_some, ← hm]
    rcases leave_both H Hf [W.agg l2] with e | ⟨e, hfr, G, rfl⟩ <;> rw [e]
    · exact ⟨l2, f2, rfl, hI, ⟨hK.ext, hge⟩⟩
    · simp at hfr
      exact ⟨l2, [], rfl, hI.free (by simpa using hfr) H, Fresh.refl H⟩
  rw [← hH3, ← hK5]
  clear hH3 o1 lt1 hf1 e1
  have h3l : K5 < H3.length := d5
  cases hno : n.ok
  · rw [hno] at e2
    simp [b1, d1, hL, hT, e2, b5, d5, hL1, hT1, b2, d2]
    have ks := Keep.set (id := H.length + 1) H3 (some ⟨27, .wr, [l1]⟩)
    exact fin _ _ l1 n f1 (by simp) (blkAt_set d2) (o3.keep ks (fun i hi hj => by have := n5 i hi; simp at hj; omega)) (fun i hi => by have := n5 i hi; omega) (by simp [settle, hno]) (k03.next ks (by simp))
  · rw [hno] at e2
    have hw := NetW.ofOk hno
    have hs : settle n r = Nat.repeat roundN (min r 100).toNat n := by rw [settle, if_pos hno]
    simp [b1, d1, hL, hT, e2, builtinV, pureB, foldI]
    obtain ⟨c, hc⟩ : ∃ c, c = (min r 100).toNat := ⟨_, rfl⟩
    have hX : (if 0 < if 100 < r then 100 else r then if 100 < r then 100 else r else 0) = (c : Int) := by rw [hc]; split <;> split <;> omega
    have hc1 : c ≤ 100 := by omega
    rw [← hc] at hs
    rw [hX]
    refine wpS_loop (fun j tm H' => ∃ i, i + j = c ∧ tm 4 = .ptr (H.length + 1) 0 0 ∧ tm 5 = .ptr K5 0 0 ∧ tm 14 = .int c ∧ tm 15 = .int i ∧ blkAt H' K5 = some ⟨27, .wr, [l1]⟩ ∧ IsNet H' l1 (Nat.repeat roundN i n) f1 ∧ Keep f1 H3 H') c (by rw [env_K]; omega) ⟨0, by simp, by simp, by simp, by simp, by simp, b5, o3, Keep.refl _ _⟩ ?_
    rintro j tm H1 hj ⟨i, hij, t4, t5, t14, t15, c5, o5, hK⟩ Q2 hn2 he2 hr2
    have dc5 := blkAt_len c5
    have hn5 : K5 ∉ f1 := fun h => by have := n5 _ h; omega
    have hwi := (settleR_w hw i).1
    have g4 : IntKind.i64.wrap ((i : Int) + 1) = (i : Int) + 1 := wrap64 (by omega) (by omega)
    simp [t14, t15]
    refine selS_intro (fun hcc => ?_) (fun hcc => ?_)
    · simp at hcc
      simp [t5]
      refine stpL_runs (roundM c5 o5 hn5 hwi) ?_
      rintro _ H2 ⟨rfl, o6, k6⟩
      simp [t15, g4]
      exact hn2 (j - 1) _ _ (by omega) ⟨i + 1, by omega, by simp [t4], by simp [t5], by simp [t14], by simp, k6.blk c5 hn5, o6, hK.trans k6 (fun _ h _ => h) (fun _ h _ => h)⟩
    · simp at hcc
      obtain rfl : i = c := by omega
      have c2 := hK.blk b2 (fun h => by have := n5 _ h; omega)
      have dc2 := blkAt_len c2
      simp [t14, t15]
      refine he2 _ _ _ ?_
      simp [t4, t5, c5, dc5, c2, dc2, hL1, hT1]
      have ks := Keep.set (id := H.length + 1) H1 (some ⟨27, .wr, [l1]⟩)
      exact fin _ _ l1 (Nat.repeat roundN i n) f1 (by simp [t4]) (blkAt_set dc2) (o5.keep ks (fun i hi hj => by have := n5 i hi; simp at hj; omega)) (fun i hi => by have := n5 i hi; omega) hs.symm ((k03.next hK (fun i hi => by have := n5 i hi; omega)).next ks (by simp))

theorem specSettle_is {H : Heap} {l : List Lf} {n : Net} (h : RdNet H l n) (hn : n.sz ≤ 1048576) (r : Int) (_ : I64 r) : Runs env 21 [.agg l, .int r] H fun v H' => ∃ l' fp, v = .agg l' ∧ IsNet H' l' (settle n r) fp ∧ Fresh H H' fp := by
  have hR := h
  have hL := h.len
  have hT : l.take l.length = l := List.take_length
  rw [hL] at hT
  have e1 := fun G => specNetOk_is (hR.app G) hn
  refine Runs.walk ok21 Try.func21 rfl (by simp [Try.f21]) fun Q hQ => ?_
  simp only [Try.f21, strip, stripL, stripI, stripG, chkT, tagsB, tagsL, tagD, addT, tagA, lookN, tagOp, elmT, ty22, ty24, ty25, ty33, ty54, ty58, ty95, ty122, Nat.reduceEqDiff, if_false, reduceIte, Option.getD_some, Option.getD_none, dstAt, dstOk, Nat.reduceLT, decide_true, if_true]
  simp [hL, hT]
  refine stpL_runs (specCopyNet (hR.app _) hn) ?_
  rintro _ _ ⟨l1, f1, rfl, o1, ⟨⟨G1, rfl⟩, hf1⟩⟩
  have hL1 := o1.len
  have hT1 : l1.take l1.length = l1 := List.take_length
  rw [hL1] at hT1
  simp [hL1, hT1]
  obtain ⟨H3, hH3⟩ : ∃ H3 : Heap, H3 = H ++ some ⟨27, .wr, [l]⟩ :: some ⟨27, .wr, [[.sl none 0, .sl none 0]]⟩ :: (G1 ++ [some ⟨27, .wr, [l1]⟩]) := ⟨_, rfl⟩
  obtain ⟨K5, hK5⟩ : ∃ K5, K5 = H.length + (G1.length + 2) := ⟨_, rfl⟩
  have b1 : blkAt H3 H.length = some ⟨27, .wr, [l]⟩ := by rw [hH3]; simp
  have b2 : blkAt H3 (H.length + 1) = some ⟨27, .wr, [[.sl none 0, .sl none 0]]⟩ := by rw [hH3]; simp
  have b5 : blkAt H3 K5 = some ⟨27, .wr, [l1]⟩ := by rw [hH3, hK5]; simp
  have lt1 := o1.lt
  have n5 : ∀ i ∈ f1, H.length + 2 ≤ i ∧ i < K5 := fun i hi => by have h1 := hf1 _ hi; have h2 := lt1 _ hi; simp only [List.length_append, List.length_cons, List.length_nil] at h1 h2; omega
  have o3 : IsNet H3 l1 n f1 := by
    have h1 := o1.app [some ⟨27, .wr, [l1]⟩]
    simp only [List.append_assoc, List.cons_append, List.nil_append] at h1
    rw [hH3]; exact h1
  have k03 : Keep [] H H3 := by rw [hH3]; exact Keep.app _ _ _
  have e2 : run env 24 [.agg l] H3 = some (.bool n.ok, H3) := by rw [hH3]; exact e1 _
  have d1 := blkAt_len b1
  have d2 := blkAt_len b2
  have d5 := blkAt_len b5
  have hd5 : H.length + 2 ≤ K5 := by omega
  have fin : ∀ (Hf : Heap) (tm : Ab.T) (l2 : List Lf) (m : Net) (f2 : List Nat), tm 4 = .ptr (H.length + 1) 0 0 → blkAt Hf (H.length + 1) = some ⟨27, .wr, [l2]⟩ → IsNet Hf l2 m f2 → (∀ i ∈ f2, H.length ≤ i) → m = settle n r → Keep [] H Hf → Q .ret tm Hf := by
    intro Hf tm l2 m f2 t4 hb hI hge hm hK
    refine hQ _ _ _ (by simp) ?_
    have hL2 := hI.len
    have hT2 : l2.take l2.length = l2 := List.take_length
    rw [hL2] at hT2
    have hres : resT env.τ tm Hf (Try.f21.results.toList) = some [W.agg l2] := by simp [Try.f21, t4, hb, hL2, hT2]
    rw [hres, optK_some, ← hm]
    rcases leave_both H Hf [W.agg l2] with e | ⟨e, hfr, G, rfl⟩ <;> rw [e]
    · exact ⟨l2, f2, rfl, hI, ⟨hK.ext, hge⟩⟩
    · simp at hfr
      exact ⟨l2, [], rfl, hI.free (by simpa using hfr) H, Fresh.refl H⟩
  rw [← hH3, ← hK5]
  clear hH3 o1 lt1 hf1 e1
  have h3l : K5 < H3.length := d5
  cases hno : n.ok
  · rw [hno] at e2
    simp [b1, d1, hL, hT, e2, b5, d5, hL1, hT1, b2, d2]
    have ks := Keep.set (id := H.length + 1) H3 (some ⟨27, .wr, [l1]⟩)
    exact fin _ _ l1 n f1 (by simp) (blkAt_set d2) (o3.keep ks (fun i hi hj => by have := n5 i hi; simp at hj; omega)) (fun i hi => by have := n5 i hi; omega) (by simp [settle, hno]) (k03.next ks (by simp))
  · rw [hno] at e2
    have hw := NetW.ofOk hno
    have hs : settle n r = Nat.repeat roundN (min r 100).toNat n := by rw [settle, if_pos hno]
    simp [b1, d1, hL, hT, e2, builtinV, pureB, foldI]
    obtain ⟨c, hc⟩ : ∃ c, c = (min r 100).toNat := ⟨_, rfl⟩
    have hc1 : c ≤ 100 := by omega
    rw [← hc] at hs
    refine wpS_loop (fun j tm H' => ∃ i fp, i + j = c ∧ tm 1 = .int r ∧ tm 4 = .ptr (H.length + 1) 0 0 ∧ tm 5 = .ptr K5 0 0 ∧ tm 6 = .int i ∧ blkAt H' K5 = some ⟨27, .wr, [l1]⟩ ∧ blkAt H' (H.length + 1) = some ⟨27, .wr, [[.sl none 0, .sl none 0]]⟩ ∧ IsNet H' l1 (Nat.repeat roundN i n) fp ∧ Keep [] H H' ∧ H3.length ≤ H'.length ∧ (∀ i ∈ fp, H.length + 2 ≤ i ∧ i ≠ K5)) c (by rw [env_K]; omega) ⟨0, f1, by simp, by simp, by simp, by simp, by simp, b5, b2, o3, k03, Nat.le_refl _, fun i hi => by have := n5 i hi; omega⟩ ?_
    rintro j tm H1 hj ⟨i, fp, hij, t1, t4, t5, t6, c5, c2, o5, hK, h31, nf⟩ Q2 hn2 he2 hr2
    have dc5 := blkAt_len c5
    have dc2 := blkAt_len c2
    have hwi := (settleR_w hw i).1
    have g4 : IntKind.i64.wrap ((i : Int) + 1) = (i : Int) + 1 := wrap64 (by omega) (by omega)
    have e3 := fun H => l1Min H r 100
    simp [t1, t6, e3]
    refine selS_intro (fun hcc => ?_) (fun hcc => ?_)
    · simp at hcc
      have hcc' : i < c := by split at hcc <;> omega
      simp [t5, c5, dc5, hL1, hT1]
      refine stpL_runs (l10RoundM o5 hwi) ?_
      rintro _ H2 ⟨rfl, f2, o6, k6, hf2⟩
      have c56 := k6.blk c5 (fun h => (nf _ h).2 rfl)
      have c26 := k6.blk c2 (fun h => by have := (nf _ h).1; omega)
      have dc56 := blkAt_len c56
      have nf2 : ∀ i ∈ f2, H.length + 2 ≤ i ∧ i ≠ K5 := fun i hi => by
        rcases hf2 i hi with h | h
        · exact nf i h
        · exact ⟨by omega, by omega⟩
      have ks := Keep.set (id := K5) H2 (some ⟨27, .wr, [l1]⟩)
      have hk12 := k6.1
      have hD1 : l1.drop 2 = [] := by rw [← hL1]; exact List.drop_length
      simp [t5, t6, g4, c56, dc56, hL1, hT1, hD1]
      refine hn2 (j - 1) _ _ (by omega) ⟨i + 1, f2, by omega, by simp [t1], by simp [t4], by simp [t5], by simp, blkAt_set dc56, ks.blk c26 (by simp; omega), o6.keep ks (fun i hi hj => by have := nf2 i hi; simp at hj; omega), (hK.next k6 (fun i hi => by have := nf i hi; omega)).next ks (by simp; omega), by simp; omega, nf2⟩
    · simp at hcc
      have hcc' : c ≤ i := by split at hcc <;> omega
      obtain rfl : i = c := by omega
      simp [t1, t6]
      refine he2 _ _ _ ?_
      simp [t4, t5, c5, dc5, c2, dc2, hL1, hT1]
      have ks := Keep.set (id := H.length + 1) H1 (some ⟨27, .wr, [l1]⟩)
      exact fin _ _ l1 (Nat.repeat roundN i n) fp (by simp [t4]) (blkAt_set dc2) (o5.keep ks (fun i hi hj => by have := nf i hi; simp at hj; omega)) (fun i hi => by have := nf i hi; omega) hs.symm (hK.next ks (by simp))

def desP : Port := ⟨true, false, ⟨0, 0, 0, 0⟩, 0, 0, 2, 4, false⟩
def pq (b : Bool) : Port := if b = true then desP else Port.zv
def upB (id : Int) (S : Nat → Bool) : Bridge := ⟨id, [pq (S 0), pq (S 1), pq (S 2), pq (S 3)]⟩
def upIn (k : Int) : In := ⟨3, k, ⟨0, 0, 0, 0⟩, 0, true⟩
theorem pq_ok (b : Bool) : (pq b).ok = true := by cases b <;> decide
theorem pq_up (b : Bool) : (pq b).up = b := by cases b <;> rfl
theorem upB_ok {id : Int} (h : 1 ≤ id ∧ id ≤ 9) (S : Nat → Bool) : (upB id S).ok = true := by
  simp [upB, Bridge.ok, pq_ok, h]
theorem upIn_ok {k : Nat} (h : k < 4) : (upIn k).ok = true := by
  match k, h with
  | 0, _ => rfl
  | 1, _ => rfl
  | 2, _ => rfl
  | 3, _ => rfl
theorem rootNone {b : Bridge} (h : ∀ p ∈ b.ports, p.has = false) : rootAt b = -1 := by
  have key : ∀ i, rootUpto b i = -1 := by
    intro i
    induction i with
    | zero => rfl
    | succ i ih =>
      rw [rootUpto]
      cases hp : b.ports[i]? with
      | none => exact ih
      | some p =>
        have hm := h p (List.mem_of_getElem? hp)
        simp only [ih, rootStep, rootSkip, hm]
        simp
  exact key _
theorem decP_pq {b : Bridge} (hr : rootAt b = -1) (i : Nat) (c : Bool) : decP b i (pq c) = pq c := by
  have hi : ¬ (i : Int) = -1 := by omega
  cases c <;> simp [pq, decP, Port.zv, Vec.zv, desP, roleB, hr, hi, turnP, turnW, openBy] <;> simp [Port.ok, openBy]
theorem decP_up {b : Bridge} (hr : rootAt b = -1) (i : Nat) : decP b i upPort = pq true := by
  have hi : ¬ (i : Int) = -1 := by omega
  simp [pq, decP, desP, upPort, roleB, hr, hi, turnP, turnW, openBy, Port.ok]
theorem upStep {id : Int} (h : 1 ≤ id ∧ id ≤ 9) (S : Nat → Bool) {k : Nat} (hk : k < 4) : (reactB (upB id S) (upIn k)).1 = upB id (fun p => S p || decide (p = k)) := by
  have hok := upB_ok h S
  rw [reactB_yes hok (upIn_ok hk) (by simp [upIn, upB]; omega)]
  have hh : ∀ c : Bool, (pq c).has = false := by intro c; cases c <;> rfl
  have hu : upPort.has = false := rfl
  have hq : (upB id S).ports.getD k default = pq (S k) := by
    match k, hk with
    | 0, _ => rfl
    | 1, _ => rfl
    | 2, _ => rfl
    | 3, _ => rfl
  simp only [nextB]
  split
  · rename_i hqt
    have hs : S k = true := by
      have := hqt.2
      simp only [upIn, Int.toNat_natCast] at this
      rw [hq, pq_up] at this
      exact this
    have e : ∀ p, (S p || decide (p = k)) = S p := by
      intro p
      by_cases hp : p = k
      · rw [hp, hs]; simp
      · simp [hp]
    simp only [upB, e]
  · rename_i hqt
    have hr : rootAt (inB (upB id S) (upIn k)) = -1 := by
      refine rootNone fun p hp => ?_
      simp [inB, upIn] at hp
      rcases List.mem_or_eq_of_mem_set hp with hp | rfl
      · simp [upB] at hp
        rcases hp with rfl | rfl | rfl | rfl <;> exact hh _
      · rfl
    have d1 := fun i c => decP_pq hr i c
    have d2 := fun i => decP_up hr i
    unfold decideB
    obtain ⟨f, hf⟩ : ∃ f, f = decP (inB (upB id S) (upIn k)) := ⟨_, rfl⟩
    rw [← hf] at d1 d2 ⊢
    match k, hk with
    | 0, _ => simp [inB, upIn, upB, d1, d2]
    | 1, _ => simp [inB, upIn, upB, d1, d2]
    | 2, _ => simp [inB, upIn, upB, d1, d2]
    | 3, _ => simp [inB, upIn, upB, d1, d2]
def upAt (es : List (Int × Int)) (i : Nat) (p : Nat) : Bool := decide (((i : Int), (p : Int)) ∈ es)
def newB (es : List (Int × Int)) (i : Nat) (id : Int) : Bridge := if 1 ≤ id ∧ id ≤ 9 then upB id (upAt es i) else ⟨0, []⟩
def newBs (es : List (Int × Int)) (ids : List Int) : List Bridge := (ids.take 6).mapIdx fun i id => newB es i id
noncomputable def netNew (ids : List Int) (links : List Link) : Net × Bool := if (⟨newBs (endsOf links) ids, links⟩ : Net).ok = true then (⟨newBs (endsOf links) ids, links⟩, true) else (⟨[], []⟩, false)
theorem bridgeNew4 (id : Int) : (bridgeNew id 4).1 = newB [] 0 id ∧ ((bridgeNew id 4).2 = true ↔ 1 ≤ id ∧ id ≤ 9) := by
  unfold bridgeNew newB
  by_cases h : 1 ≤ id ∧ id ≤ 9
  · simp [h, upB, pq, upAt, List.replicate]
  · have h' : (decide (1 ≤ id) && decide (id ≤ 9)) = false := andD h
    simp [h, h']
theorem upStepAt {id : Int} (h : 1 ≤ id ∧ id ≤ 9) (es : List (Int × Int)) (i : Nat) {k : Nat} (hk : k < 4) : (reactB (upB id (upAt es i)) (upIn k)).1 = upB id (upAt (es ++ [((i : Int), (k : Int))]) i) := by
  rw [upStep h _ hk]
  have : (fun p => upAt es i p || decide (p = k)) = upAt (es ++ [((i : Int), (k : Int))]) i := by
    funext p
    simp [upAt, Int.natCast_inj]
  rw [this]
def bsOf (es : List (Int × Int)) (ids : List Int) : List Bridge := ids.mapIdx fun i id => newB es i id
theorem bsOf_len (es : List (Int × Int)) (ids : List Int) : (bsOf es ids).length = ids.length := by simp [bsOf]
theorem bsOf_at (es : List (Int × Int)) (ids : List Int) (i : Nat) : (bsOf es ids)[i]? = (ids[i]?).map (newB es i) := by simp [bsOf, List.getElem?_mapIdx]
theorem bsOf_take (es : List (Int × Int)) (ids : List Int) {i : Nat} (h : i < ids.length) : bsOf es (ids.take (i + 1)) = bsOf es (ids.take i) ++ [newB es i ids[i]] := by
  have hm : (ids.take i).length = i := by simp; omega
  unfold bsOf
  rw [List.take_add_one, List.getElem?_eq_getElem h, Option.toList_some, List.mapIdx_append]
  simp only [List.mapIdx_cons, List.mapIdx_nil, hm, Nat.zero_add]
theorem newBs_eq (es : List (Int × Int)) (ids : List Int) : newBs es ids = bsOf es (ids.take 6) := rfl
theorem newB_nil (i : Nat) (id : Int) : newB [] i id = (bridgeNew id 4).1 := (bridgeNew4 id).1.symm
theorem newB_yes {es : List (Int × Int)} {i : Nat} {id : Int} (h : 1 ≤ id ∧ id ≤ 9) : newB es i id = upB id (upAt es i) := by rw [newB, if_pos h]
theorem newB_bad {es : List (Int × Int)} {i : Nat} {id : Int} (h : ¬ (1 ≤ id ∧ id ≤ 9)) : (newB es i id).ok = false := by rw [newB, if_neg h]; rfl
theorem newB_len (es : List (Int × Int)) (i : Nat) (id : Int) : (newB es i id).ports.length ≤ 4 := by unfold newB; split <;> simp [upB]
theorem isEnd_of {es : List (Int × Int)} {ids : List Int} (hall : ∀ id ∈ ids, 1 ≤ id ∧ id ≤ 9) (L : List Link) (a p : Int) : isEndP ⟨bsOf es ids, L⟩ a p ↔ (0 ≤ a ∧ a < ids.length) ∧ (0 ≤ p ∧ p < 4) := by
  constructor
  · rintro ⟨i, k, b, rfl, rfl, h1, h2⟩
    rw [bsOf_at] at h1
    cases hi : ids[i]? with
    | none => simp [hi] at h1
    | some id =>
      rw [hi] at h1
      injection h1 with h1
      subst h1
      have h3 := newB_len es i id
      have h4 := (List.getElem?_eq_some_iff.1 hi).1
      omega
  · rintro ⟨⟨h1, h2⟩, h3, h4⟩
    have hi : a.toNat < ids.length := by omega
    refine ⟨a.toNat, p.toNat, newB es a.toNat ids[a.toNat], by omega, by omega, by simp [bsOf_at, hi], ?_⟩
    rw [newB_yes (hall _ (List.getElem_mem hi))]
    simp [upB]; omega
theorem newW {es : List (Int × Int)} {ids : List Int} (hall : ∀ id ∈ ids, 1 ≤ id ∧ id ≤ 9) (hl : ids.length ≤ 5) : NetW ⟨bsOf es ids, []⟩ := by
  refine ⟨fun b hb => ?_, by simp, by simp [bsOf_len]; omega⟩
  obtain ⟨i, hi⟩ := List.mem_iff_getElem?.1 hb
  simp only [bsOf_at] at hi
  cases h : ids[i]? with
  | none => simp [h] at hi
  | some id =>
    rw [h] at hi
    injection hi with hi
    subst hi
    have := hall id (List.mem_of_getElem? h)
    rw [newB_yes this]
    exact upB_ok this _
theorem newStep {es : List (Int × Int)} {ids : List Int} (hall : ∀ id ∈ ids, 1 ≤ id ∧ id ≤ 9) {t k : Nat} (ht : t < ids.length) (hk : k < 4) : setBr ⟨bsOf es ids, []⟩ t (reactB (bAt ⟨bsOf es ids, []⟩ t) (upIn k)).1 = ⟨bsOf (es ++ [((t : Int), (k : Int))]) ids, []⟩ := by
  have hb : bAt ⟨bsOf es ids, []⟩ t = upB ids[t] (upAt es t) := by
    simp only [bAt, List.getD, bsOf_at, List.getElem?_eq_getElem ht, Option.map_some, Option.getD_some]
    exact newB_yes (hall _ (List.getElem_mem ht))
  rw [hb, upStepAt (hall _ (List.getElem_mem ht)) es t hk]
  simp only [setBr, Net.mk.injEq, and_true]
  refine List.ext_getElem? fun j => ?_
  by_cases hj : t = j
  · subst hj
    rw [List.getElem?_set_self (by rw [bsOf_len]; exact ht), bsOf_at, List.getElem?_eq_getElem ht, Option.map_some, newB_yes (hall _ (List.getElem_mem ht))]
  · rw [List.getElem?_set_ne hj, bsOf_at, bsOf_at]
    have : newB es j = newB (es ++ [((t : Int), (k : Int))]) j := by
      funext id
      unfold newB
      have : upAt es j = upAt (es ++ [((t : Int), (k : Int))]) j := by
        funext p
        simp [upAt]
        omega
      rw [this]
    rw [this]
theorem netNew_no {ids : List Int} {links : List Link} (h : (⟨newBs (endsOf links) ids, links⟩ : Net).ok = false) : netNew ids links = (⟨[], []⟩, false) := by rw [netNew, if_neg (by simp [h])]
theorem net_no {n : Net} (h : ¬ n.P) : n.ok = false := by simp [Net.ok, h]
theorem endsOf_tk (links : List Link) {k : Nat} (h : k < links.length) : endsOf (links.take (k + 1)) = (endsOf (links.take k) ++ [(links[k].a, links[k].p)]) ++ [(links[k].b, links[k].q)] := by
  unfold endsOf
  rw [List.take_add_one, List.getElem?_eq_getElem h, Option.toList_some, List.flatMap_append]
  simp only [List.flatMap_cons, List.flatMap_nil, List.append_nil, List.append_assoc]
  rfl
theorem bs_sz (es : List (Int × Int)) (ids : List Int) (links : List Link) (h : ids.length ≤ 6) (hl : links.length ≤ 1048546) : (⟨bsOf es ids, links⟩ : Net).sz ≤ 1048576 := by
  have key : ∀ bs : List Bridge, (∀ b ∈ bs, b.ports.length ≤ 4) → (bs.map Bridge.sz).sum ≤ 4 * bs.length := by
    intro bs
    induction bs with
    | nil => simp
    | cons b bs ih =>
      intro h
      have h1 := h b (by simp)
      have h2 := ih (fun c hc => h c (by simp [hc]))
      simp only [List.map_cons, List.sum_cons, List.length_cons]
      unfold Bridge.sz at h2 ⊢
      omega
  have h1 := key (bsOf es ids) (fun b hb => by
    obtain ⟨i, hi⟩ := List.mem_iff_getElem?.1 hb
    rw [bsOf_at] at hi
    cases h : ids[i]? with
    | none => simp [h] at hi
    | some id => rw [h] at hi; injection hi with hi; subst hi; exact newB_len _ _ _)
  have h2 := bsOf_len es ids
  unfold Net.sz BridgeS.sz
  simp only [h2] at h1 ⊢
  omega
theorem netNew_sz0 {ids : List Int} {links : List Link} (_ : ids.length ≤ 1048576) (_ : links.length ≤ 1048576) : (netNew ids links).1.sz ≤ 1048576 := by
  unfold netNew
  split
  · rename_i h; exact (NetW.ofOk h).sz
  · simp [Net.sz, BridgeS.sz]

theorem specNetBig {H : Heap} {l : List Lf} {n : Net} (h : RdNet H l n) (hn : n.bridges.length ≤ 6) (hl : 6 < n.links.length) (hl2 : n.links.length ≤ 1048576) : run env 24 [.agg l] H = some (.bool false, H) := by
  obtain ⟨_, _, rfl, ⟨a0, rws, rfl, hs, hlen, hat⟩, ⟨c, rfl, hc1⟩⟩ := h
  refine run_walk ok24 Try.func24 rfl (by simp [Try.f24]) fun Q hQ => ?_
  simp only [Try.f24, strip, stripL, stripI, stripG, chkT, tagsB, tagsL, tagD, addT, tagA, lookN, tagOp, elmT, ty22, ty24, ty25, ty33, ty54, ty58, ty95, ty122, Nat.reduceEqDiff, if_false, reduceIte, Option.getD_some, Option.getD_none, dstAt, dstOk, Nat.reduceLT, decide_true, if_true]
  simp [Net.enc, builtinV, pureB, lenV, l1In]
  refine gdL_f (fun hd => ?_) (fun hd => ?_)
  · simp [hd]
    refine hQ _ _ _ (by simp) ?_
    simp [Try.f24]
  have hl' : 6 < (n.links.length : Int) := by omega
  simp [hd, builtinV, pureB, lenV, hl']
  refine hQ _ _ _ (by simp) ?_
  simp [Try.f24]

def newBp (es : List (Int × Int)) (i : Nat) (id : Int) (p : Nat) : Bridge := if 1 ≤ id ∧ id ≤ 9 then upB id (fun q => upAt es i q && decide (q < p)) else ⟨0, []⟩
theorem newBp_zero (es : List (Int × Int)) (i : Nat) (id : Int) : newBp es i id 0 = (bridgeNew id 4).1 := by
  rw [← newB_nil i]
  unfold newBp newB
  simp [upB, upAt]
theorem newBp_len (es : List (Int × Int)) (i : Nat) (id : Int) (p : Nat) : (newBp es i id p).ports.length = (newB es i id).ports.length := by
  unfold newBp newB
  split <;> simp [upB]
theorem newBp_full (es : List (Int × Int)) (i : Nat) (id : Int) : newBp es i id (newB es i id).ports.length = newB es i id := by
  unfold newBp newB
  split
  · simp [upB]
  · rfl
theorem newBp_good {es : List (Int × Int)} {i : Nat} {id : Int} {p : Nat} (h : p < (newB es i id).ports.length) : (1 ≤ id ∧ id ≤ 9) ∧ p < 4 := by
  unfold newB at h
  split at h
  · rename_i h1; exact ⟨h1, by simpa [upB] using h⟩
  · simp at h
theorem newBp_yes {es : List (Int × Int)} {i : Nat} {id : Int} {p : Nat} (h : 1 ≤ id ∧ id ≤ 9) (hp : p < 4) (hu : upAt es i p = true) : (reactB (newBp es i id p) (upIn p)).1 = newBp es i id (p + 1) := by
  unfold newBp
  rw [if_pos h, if_pos h, upStep h _ hp]
  have : (fun q => upAt es i q && decide (q < p) || decide (q = p)) = fun q => upAt es i q && decide (q < p + 1) := by
    funext q
    by_cases hq : q = p
    · subst hq; simp [hu]
    · have : decide (q < p + 1) = decide (q < p) := by rw [decide_eq_decide]; omega
      simp [hq, this]
  rw [this]
theorem newBp_no {es : List (Int × Int)} {i : Nat} {id : Int} {p : Nat} (hu : upAt es i p = false) : newBp es i id p = newBp es i id (p + 1) := by
  unfold newBp
  have : (fun q => upAt es i q && decide (q < p)) = fun q => upAt es i q && decide (q < p + 1) := by
    funext q
    by_cases hq : q = p
    · subst hq; simp [hu]
    · have : decide (q < p + 1) = decide (q < p) := by rw [decide_eq_decide]; omega
      simp [this]
  rw [this]
theorem newBp_ok {es : List (Int × Int)} {i : Nat} {id : Int} {p : Nat} (h : 1 ≤ id ∧ id ≤ 9) : (newBp es i id p).ok = true := by
  unfold newBp
  rw [if_pos h]
  exact upB_ok h _
theorem upAt_count (es : List (Int × Int)) (i p : Nat) : upAt es i p = decide (0 < es.count ((i : Int), (p : Int))) := by
  unfold upAt
  rw [decide_eq_decide, List.count_pos_iff]

theorem specNetNew_is {H : Heap} {q : Lf} {ids : List Int} (h : RdIntS H q ids) (hn : ids.length ≤ 1048576) {q2 : Lf} {links : List Link} (h2 : RdLinkS H q2 links) (hn2 : links.length ≤ 1048576) :
    Runs env 16 [.w (.lf q), .w (.lf q2)] H fun v H' => ∃ l fp, v = .tup [.agg l, .lf (.b (netNew ids links).2)] ∧ IsNet H' l (netNew ids links).1 fp ∧ Fresh H H' fp := by
  obtain ⟨ai, rfl, r1⟩ := h
  obtain ⟨al, rfl, r2⟩ := h2
  refine Runs.walk ok16 Try.func16 rfl (by simp [Try.f16]) fun Q hQ => ?_
  simp only [Try.f16, strip, stripL, stripI, stripG, chkT, tagsB, tagsL, tagD, addT, tagA, lookN, tagOp, elmT, ty22, ty24, ty25, ty33, ty54, ty58, ty95, ty122, Nat.reduceEqDiff, if_false, reduceIte, Option.getD_some, Option.getD_none, dstAt, dstOk, Nat.reduceLT, decide_true, if_true]
  simp
  obtain ⟨HX0, hH0⟩ : ∃ H3 : Heap, H3 = H ++ [some ⟨27, .wr, [[.sl none 0, .sl none 0]]⟩] := ⟨_, rfl⟩
  have c2_0 : blkAt HX0 H.length = some ⟨27, .wr, [[.sl none 0, .sl none 0]]⟩ := by rw [hH0]; simp
  have k0_0 : Keep [] H HX0 := by rw [hH0]; exact Keep.app _ _ _
  have lx0 : HX0.length = H.length + 1 := by rw [hH0]; simp
  have hT : ∀ tmp : Option Blk, H ++ [some ⟨27, .wr, [[.sl none 0, .sl none 0]]⟩, tmp] = HX0 ++ [tmp] := by intro tmp; rw [hH0]; simp
  rw [hT]
  rw [show H.length + 1 = HX0.length from lx0.symm]
  clear hT hH0
  refine stpL_append (rows := []) (ys := links.map Link.enc) (Own.of (by simp)) ((r2.keep k0_0 (by simp)).app _) rfl rfl rfl (by simp) (by simp; omega) rfl (by simp) fun q1 HX4 f1 o1 kt1 ft1 => ?_
  rw [List.nil_append] at o1
  have kx1 : Keep [] HX0 HX4 := (Keep.app [] _ _).next kt1 (by simp)
  have lx1' := kx1.1
  have lt1 := o1.lt
  have ge1 : ∀ i ∈ f1, HX0.length ≤ i := fun i hi => by
    rcases ft1 i hi with h | h
    · simp at h; omega
    · rw [List.length_append] at h; omega
  have c2_4 := kx1.blk c2_0 (by simp)
  simp
  obtain ⟨H3, hH3⟩ : ∃ H3 : Heap, H3 = HX4 ++ [some ⟨27, .wr, [[.sl none 0, .sl q1 links.length]]⟩] := ⟨_, rfl⟩
  have b3 : blkAt H3 HX4.length = some ⟨27, .wr, [[.sl none 0, .sl q1 links.length]]⟩ := by rw [hH3]; simp
  have k43 : Keep [] HX4 H3 := by rw [hH3]; exact Keep.app _ _ _
  have hl3 : H3.length = HX4.length + 1 := by rw [hH3]; simp
  rw [← hH3]
  clear hH3
  have b2 := k43.blk c2_4 (by simp)
  have o1 := o1.keep k43 (by simp)
  have kx3 : Keep [] HX0 H3 := kx1.trans k43 (by simp) (by simp)
  have k03 : Keep [] H H3 := k0_0.trans kx3 (by simp) (by simp)
  obtain ⟨es, hes⟩ : ∃ es, es = endsOf links := ⟨_, rfl⟩
  obtain ⟨N, hN⟩ : ∃ N, N = min 6 ids.length := ⟨_, rfl⟩
  refine wpS_loop (fun j tm H' => ∃ i a' rows fp0 fps, i + j = N ∧ tm 0 = .w (.lf (.sl ai ids.length)) ∧ tm 4 = .ptr H.length 0 0 ∧ tm 5 = .bool false ∧ tm 6 = .ptr HX4.length 0 0 ∧ tm 7 = .int i ∧ blkAt H' HX4.length = some ⟨27, .wr, [[.sl a' i, .sl q1 links.length]]⟩ ∧ Own H' 56 a' rows fp0 ∧ Part IsBridge H' rows (bsOf es (ids.take i)) fps ∧ (fp0 ++ fps.flatten).Nodup ∧ (∀ k ∈ fp0 ++ fps.flatten, H3.length ≤ k) ∧ Keep [HX4.length] H3 H') N (by rw [env_K]; omega)
    ⟨0, none, [], [], [], by simp, by simp, by simp, by simp, by simp, by simp, b3, Own.nil _ _, by simpa [bsOf] using Part.nil _ _, by simp, by simp, Keep.refl _ _⟩ ?_
  rintro j tm H1 hj ⟨i, a', rows, fp0, fps, hij, t0, t4, t5, t6, t7, c3', ho, hp, hnd, hge, hK3⟩ Q2 hn2' he2 hr2
  have c2' := hK3.blk b2 (by simp; omega)
  have d2 := blkAt_len c2'
  have d3 := blkAt_len c3'
  have hK : Keep [] H H1 := k03.next hK3 (by simp; omega)
  have h31 := hK3.1
  have hmin : N = min 6 ids.length := hN
  have hmm : i < N ∨ i = N := by omega
  rcases hmm with hc | hc
  · have hci : i < ids.length := by omega
    have hc5 : (i : Int) ≤ 5 := by omega
    obtain ⟨id2, r, bl, rfl, hbl, hbe, hrow⟩ := (r1.keep hK (by simp)) i _ (by simp [hci]; rfl)
    have hid := blkAt_len hbl
    have g4 : IntKind.i64.wrap ((i : Int) + 1) = (i : Int) + 1 := wrap64 (by omega) (by omega)
    have hrl : rows.length = i := by rw [hp.len, bsOf_len]; simp; omega
    simp [t0, t7, builtinV, pureB, lenV, hci, hc5, indexAddrV, elemIs, hid, hbl, hbe, hrow, encI]
    refine stpL_runs (specBridgeNew _ ids[i] 4) ?_
    rintro _ _ ⟨l2, f2, rfl, o2', ⟨⟨G2, rfl⟩, hf2⟩⟩
    have hl2 := o2'.len
    have hT2 : l2.take l2.length = l2 := List.take_length
    rw [hl2] at hT2
    rw [← newBp_zero es i] at o2'
    simp [hl2, hT2]
    obtain ⟨K8, hK8⟩ : ∃ K8, K8 = H1.length + G2.length := ⟨_, rfl⟩
    obtain ⟨H5, hH5⟩ : ∃ H5 : Heap, H5 = H1 ++ (G2 ++ [some ⟨56, .wr, [l2]⟩]) := ⟨_, rfl⟩
    have b8 : blkAt H5 K8 = some ⟨56, .wr, [l2]⟩ := by rw [hH5, hK8]; simp
    have k15 : Keep [] H1 H5 := by rw [hH5]; exact Keep.app _ _ _
    have o25 : IsBridge H5 l2 (newBp es i ids[i] 0) f2 := by rw [hH5, ← List.append_assoc]; exact o2'.app _
    have hlt2 := o2'.lt
    have n8 : ∀ x ∈ f2, H1.length ≤ x ∧ x ≠ K8 := fun x hx => by have h1 := hf2 x hx; have h2 := hlt2 x hx; rw [List.length_append] at h2; omega
    have hl5 : H5.length = K8 + 1 := by rw [hH5, hK8]; simp [Nat.add_assoc]
    rw [← hK8, ← hH5]
    clear hH5
    obtain ⟨bi, hbi⟩ : ∃ bi, bi = ids[i] := ⟨_, rfl⟩
    rw [← hbi] at o25 ⊢
    obtain ⟨c, hcl⟩ : ∃ c, c = (newB es i bi).ports.length := ⟨_, rfl⟩
    have hc4 : c ≤ 4 := by rw [hcl]; exact newB_len _ _ _
    refine wpS_loop (fun j tm H' => ∃ p l' f, p + j = c ∧ tm 0 = .w (.lf (.sl (some (id2, r)) ids.length)) ∧ tm 4 = .ptr H.length 0 0 ∧ tm 5 = .bool false ∧ tm 6 = .ptr HX4.length 0 0 ∧ tm 7 = .int i ∧ tm 8 = .ptr K8 0 0 ∧ tm 10 = .int p ∧ blkAt H' K8 = some ⟨56, .wr, [l']⟩ ∧ IsBridge H' l' (newBp es i bi p) f ∧ (∀ x ∈ f, H1.length ≤ x ∧ x ≠ K8) ∧ Keep [] H1 H' ∧ K8 < H'.length) c (by rw [env_K]; omega)
      ⟨0, l2, f2, by simp, by simp [t0], by simp [t4], by simp [t5], by simp [t6], by simp [t7], by simp, by simp, b8, o25, n8, k15, by omega⟩ ?_
    rintro j2 tm H6 hj2 ⟨p, l6, f6, hpj, t0, t4, t5, t6, t7, t8, t10, c8, o6, n6, k6, hk8⟩ Q3 hn3 he3 hr3
    have d8 := blkAt_len c8
    have c36 := k6.blk c3' (by simp)
    have d36 := blkAt_len c36
    have hl6 := o6.len
    have hT6 : l6.take l6.length = l6 := List.take_length
    have hD6 : l6.drop l6.length = [] := List.drop_length
    rw [hl6] at hT6 hD6
    obtain ⟨a6, he6, o6'⟩ := id o6
    have hpl : (newBp es i bi p).ports.length = c := by rw [newBp_len, hcl]
    have g5 : IntKind.i64.wrap ((p : Int) + 1) = (p : Int) + 1 := wrap64 (by omega) (by omega)
    have c8e : blkAt H6 K8 = some ⟨56, .wr, [[.i .i64 (newBp es i bi p).id, .sl a6 (newBp es i bi p).ports.length]]⟩ := by rw [c8, he6]; rfl
    simp [t8, t10, c8e, d8, builtinV, pureB, lenV, hpl]
    refine selS_intro (fun hc2 => ?_) (fun hc2 => ?_)
    · simp at hc2
      have ho6 := ho.keep k6 (by simp)
      have hp6 := hp.keep okBridge k6 (by simp)
      have hrd : RdNet H6 [.sl a' i, .sl q1 links.length] ⟨bsOf es (ids.take i), links⟩ := by
        refine ⟨.sl a' i, .sl q1 links.length, rfl, ⟨a', rows, by rw [bsOf_len]; simp; omega, ho6.sl, hp6.len, fun i row x h1 h2 => ?_⟩, ⟨q1, rfl, ?_⟩⟩
        · have hi := (List.getElem?_eq_some_iff.1 h2).1
          have h3 : i < fps.length := by rw [hp6.len2]; exact hi
          exact (hp6.at_ i row x _ h1 h2 (List.getElem?_eq_getElem h3)).rd
        · exact ((o1.keep hK3 (fun i hi hj => by have := lt1 i hi; simp at hj; omega)).keep k6 (by simp)).sl
      have eO := l10Once hrd hn2 (i : Int) (p : Int)
      simp [t6, t7, t10, c36, d36, eO]
      have hgood := newBp_good (es := es) (i := i) (id := bi) (p := p) (by omega)
      refine selS_intro (fun hd => ?_) (fun hd => ?_)
      · have hu : upAt es i p = true := by rw [upAt, hes]; simpa using hd
        have hrun := specReact o6.rd (by unfold Bridge.sz; omega) (upIn p)
        rw [newBp_yes hgood.1 hgood.2 hu] at hrun
        simp only [In.enc] at hrun
        simp only [show (upIn (p : Int)).kind = 3 from rfl, show (upIn (p : Int)).port = p from rfl, show (upIn (p : Int)).vec = ⟨0, 0, 0, 0⟩ from rfl, show (upIn (p : Int)).hops = 0 from rfl, show (upIn (p : Int)).up = true from rfl] at hrun
        simp [t8, t10, c8, d8, hl6, hT6]
        refine stpL_runs hrun ?_
        rintro _ H7 ⟨l7, f7, q7, fq7, rfl, o7, -, fr7, -⟩
        have hl7 := o7.len
        have hT7 : l7.take l7.length = l7 := List.take_length
        rw [hl7] at hT7
        have k67 : Keep [] H6 H7 := fr7.kp
        have c87 := k67.blk c8 (by simp)
        have d87 := blkAt_len c87
        have n7 : ∀ x ∈ f7, H6.length ≤ x := fun x hx => fr7.2 x (List.mem_append.2 (.inl hx))
        have k61 := k6.1
        have k671 := k67.1
        simp [t8, t10, c87, d87, hl7, hT7, g5, hl6, hD6]
        have ks := Keep.set (id := K8) H7 (some ⟨56, .wr, [l7]⟩)
        refine hn3 (j2 - 1) _ _ (by omega) ⟨p + 1, l7, f7, by omega, by simp [t0], by simp [t4], by simp [t5], by simp [t6], by simp [t7], by simp [t8], by simp, blkAt_set d87, o7.keep ks (fun x hx hj => by have := n7 x hx; simp at hj; omega), fun x hx => by have := n7 x hx; omega, (k6.trans k67 (by simp) (by simp)).next ks (by simp; omega), by simp; omega⟩
      · have hu : upAt es i p = false := by rw [upAt, hes]; simpa using hd
        rw [newBp_no hu] at o6
        simp [t10, g5]
        exact hn3 (j2 - 1) _ _ (by omega) ⟨p + 1, l6, f6, by omega, by simp [t0], by simp [t4], by simp [t5], by simp [t6], by simp [t7], by simp [t8], by simp, c8, o6, n6, k6, hk8⟩
    · simp at hc2
      obtain rfl : p = c := by omega
      simp [t8, t10]
      refine he3 _ _ _ ?_
      rw [hcl, newBp_full] at o6
      have hlt0 := ho.lt
      simp [t6, t8, c8, d8, c36, d36, hl6, hT6]
      refine stpL_append (e := 56) (rows := rows) (ys := [l6]) ((ho.keep k6 (by simp)).app _) (Sl.of (by simp)) rfl rfl rfl (by simp) (by simp; omega) (by omega) rfl fun a'' H'' fp'' ho'' hk'' hf'' => ?_
      have k12 : Keep [] H1 (H6 ++ [some ⟨56, .wr, [l6]⟩]) := k6.trans (Keep.app [] _ _) (by simp) (by simp)
      have o2'' := o6.app [some ⟨56, .wr, [l6]⟩]
      have hf2' : ∀ k ∈ f6, H1.length ≤ k := fun k hk => (n6 k hk).1
      obtain ⟨hp2, hnd2⟩ := isL_snoc okBridge hp hnd hlt0 k12 o2'' hf2' hk'' ho'' hf''
      have c3b := (hk''.blk (k12.blk c3' (by simp)) (fun h => by have := hge _ (List.mem_append.2 (.inl h)); omega))
      have d3b := blkAt_len c3b
      have hk1 : Keep [HX4.length] H3 H'' := Keep.trans (h := [HX4.length]) (Keep.trans (h := [HX4.length]) hK3 k12 (by simp) (by simp)) hk'' (by simp) (fun k hk hl => by have := hge k (List.mem_append.2 (.inl hk)); omega)
      have k121 := k12.1
      have hge2 : ∀ k ∈ fp'' ++ (fps ++ [f6]).flatten, H3.length ≤ k := fun k hk => by
        rcases List.mem_append.1 hk with hk | hk
        · rcases hf'' k hk with h | h
          · exact hge k (List.mem_append.2 (.inl h))
          · omega
        · rw [List.flatten_append] at hk
          rcases List.mem_append.1 hk with hk | hk
          · exact hge k (List.mem_append.2 (.inr hk))
          · simp at hk
            have := hf2' k hk; omega
      have ks := fun y => Keep.set (id := HX4.length) H'' y
      have hno : ∀ k ∈ fp'' ++ (fps ++ [f6]).flatten, k ∉ [HX4.length] := fun k hk => by have := hge2 k hk; simp; omega
      simp [t0, t4, t5, t6, t7, c3b, d3b, g4]
      refine hn2' (j - 1) _ _ (by omega) ⟨i + 1, a'', rows ++ [l6], fp'', fps ++ [f6], by omega, by simp [t0], by simp [t4], by simp [t5], by simp [t6], by simp, by rw [blkAt_set d3b], ho''.keep (ks _) (fun k hk => hno k (List.mem_append.2 (.inl hk))), ?_, hnd2, hge2, hk1.trans (h := [HX4.length]) (ks _) (by simp) (by simp)⟩
      rw [bsOf_take _ _ hci, ← hbi]
      exact hp2.keep okBridge (ks _) (fun k hk => hno k (List.mem_append.2 (.inr hk)))
  · subst hc
    have htk : ids.take i = ids.take 6 := by
      by_cases h6 : ids.length ≤ 6
      · rw [List.take_of_length_le (by omega), List.take_of_length_le (by omega)]
      · have : i = 6 := by omega
        rw [this]
    rw [htk] at hp
    have hbl : (bsOf es (ids.take 6)).length = i := by rw [bsOf_len, List.length_take]; omega
    have hrd : RdNet H1 [.sl a' i, .sl q1 links.length] ⟨bsOf es (ids.take 6), links⟩ := by
      refine ⟨.sl a' i, .sl q1 links.length, rfl, ⟨a', rows, by rw [hbl], ho.sl, hp.len, fun i row x h1 h2 => ?_⟩, ⟨q1, rfl, ?_⟩⟩
      · have hi := (List.getElem?_eq_some_iff.1 h2).1
        have h3 : i < fps.length := by rw [hp.len2]; exact hi
        exact (hp.at_ i row x _ h1 h2 (List.getElem?_eq_getElem h3)).rd
      · exact (o1.keep hK3 (fun i hi hj => by have := lt1 i hi; simp at hj; omega)).sl
    have eN : run env 24 [.agg [.sl a' i, .sl q1 links.length]] H1 = some (.bool (⟨bsOf es (ids.take 6), links⟩ : Net).ok, H1) := by
      by_cases hl6 : links.length ≤ 6
      · exact specNetOk_is hrd (bs_sz es _ links (by rw [List.length_take]; omega) (by omega))
      · rw [net_no (fun hP => hl6 hP.2.1)]
        exact specNetBig hrd (by simp only [hbl]; omega) (by simp only; omega) hn2
    have hNN : (⟨newBs (endsOf links) ids, links⟩ : Net) = ⟨bsOf es (ids.take 6), links⟩ := by rw [newBs_eq, hes]
    have key : ∀ tm' : Ab.T, tm' 4 = .ptr H.length 0 0 → tm' 5 = .bool false → tm' 6 = .ptr HX4.length 0 0 → Q2 (.exit 0) tm' H1 := by
      intro tm' t4 t5 t6
      refine he2 _ _ _ ?_
      simp [t6, c3', d3, eN]
      cases hno : (⟨bsOf es (ids.take 6), links⟩ : Net).ok
      · simp [t4, c2']
        obtain ⟨HF, hHF⟩ : ∃ HF : Heap, HF = H1.set H.length (some ⟨27, .wr, [[.sl none 0, .sl none 0]]⟩) := ⟨_, rfl⟩
        rw [← hHF]
        have kF : Keep [H.length] H1 HF := by rw [hHF]; exact Keep.set _ _
        have cF : blkAt HF H.length = some ⟨27, .wr, [[.sl none 0, .sl none 0]]⟩ := by rw [hHF]; exact blkAt_set d2
        clear hHF
        refine hQ _ _ _ (by simp) ?_
        simp [Try.f16, t4, cF, netNew_no (ids := ids) (links := links) (by rw [hNN]; exact hno)]
        have hI : ∀ G, IsNet G [.sl none 0, .sl none 0] ⟨[], []⟩ [] := fun G => ⟨.sl none 0, .sl none 0, [], [], rfl, IsL.emp _ _ _, ⟨none, rfl, Own.nil _ _⟩, rfl, by simp⟩
        exact (hI HF).leave ⟨(hK.next kF (by simp)).ext, by simp⟩ (by simp)
      · simp [t4, t6, c3', d3, c2']
        obtain ⟨HF, hHF⟩ : ∃ HF : Heap, HF = H1.set H.length (some ⟨27, .wr, [[.sl a' i, .sl q1 links.length]]⟩) := ⟨_, rfl⟩
        rw [← hHF]
        have kF : Keep [H.length] H1 HF := by rw [hHF]; exact Keep.set _ _
        have cF : blkAt HF H.length = some ⟨27, .wr, [[.sl a' i, .sl q1 links.length]]⟩ := by rw [hHF]; exact blkAt_set d2
        clear hHF
        refine hQ _ _ _ (by simp) ?_
        have hnn : netNew ids links = (⟨bsOf es (ids.take 6), links⟩, true) := by rw [netNew, hNN, if_pos hno]
        simp [Try.f16, t4, cF, hnn]
        have hnd2 : ((fp0 ++ fps.flatten) ++ f1).Nodup := nodup_app hnd o1.nodup fun i hi hj => by have := hge i hi; have := lt1 i hj; omega
        have o1F := (o1.keep hK3 (fun i hi hj => by have := lt1 i hi; simp at hj; omega)).keep kF (fun i hi hj => by have := ge1 i hi; simp at hj; omega)
        have oF := ho.keep kF (fun i hi hj => by have := hge i (List.mem_append.2 (.inl hi)); simp at hj; omega)
        have pF := hp.keep okBridge kF (fun i hi hj => by have := hge i (List.mem_append.2 (.inr hi)); simp at hj; omega)
        have hI : IsNet HF [.sl a' i, .sl q1 links.length] ⟨bsOf es (ids.take 6), links⟩ ((fp0 ++ fps.flatten) ++ f1) := ⟨.sl a' i, .sl q1 links.length, _, f1, rfl, ⟨a', rows, fp0, fps, by rw [hbl], oF, pF, rfl, hnd⟩, ⟨q1, rfl, o1F⟩, rfl, hnd2⟩
        have hfr : Fresh H HF ((fp0 ++ fps.flatten) ++ f1) := ⟨(hK.next kF (by simp)).ext, fun i hi => by
          rcases List.mem_append.1 hi with hi | hi
          · have := hge i hi; omega
          · have := ge1 i hi; omega⟩
        exact hI.leave hfr (by simp)
    by_cases h6 : i < ids.length
    · have : ¬ (i : Int) ≤ 5 := by omega
      simp [t0, t7, builtinV, pureB, lenV, h6, this]
      exact key _ (by simp [t4]) (by simp [t5]) (by simp [t6])
    · simp [t0, t7, builtinV, pureB, lenV, h6]
      exact key _ (by simp [t4]) (by simp [t5]) (by simp [t6])

theorem bigL {H : Heap} {a : Option (Nat × Nat)} {n : Nat} : run env 9 [.w (.lf (.sl a n))] H = some (.bool (decide ((1048576 : Int) < n)), H) := by
  refine run_walk ok9 Try.func9 rfl (by simp [Try.f9]) fun Q hQ => ?_
  simp only [Try.f9, strip, stripL, stripI, stripG, chkT, tagsB, tagsL, tagD, addT, tagA, lookN, tagOp, elmT, ty22, ty24, ty25, ty33, ty54, ty58, ty95, ty122, Nat.reduceEqDiff, if_false, reduceIte, Option.getD_some, Option.getD_none, dstAt, dstOk, Nat.reduceLT, decide_true, if_true]
  simp [builtinV, pureB, lenV]
  refine hQ _ _ _ (by simp) ?_
  simp [Try.f9]

def encU (x : Int) : List Lf := [.i .u8 x]
/-- A cursor over n bytes. -/
def Cur (H : Heap) (c n : Nat) : Prop := ∃ (a : Option (Nat × Nat)) (i h : Int) (bs : List Int), blkAt H c = some ⟨105, .wr, [[.sl a n, .i .i64 i, .i .i64 h]]⟩ ∧ 0 ≤ i ∧ i ≤ n ∧ bs.length = n ∧ n ≤ 1048576 ∧ (∀ id r, a = some (id, r) → bs ≠ [] → id < c) ∧ Sl H 5 a (bs.map encU)
theorem Cur.lt {H : Heap} {c n : Nat} (h : Cur H c n) : c < H.length := let ⟨_, _, _, _, h1, _⟩ := h; blkAt_len h1
theorem Cur.keep {H H' : Heap} {c n : Nat} {f : List Nat} (h : Cur H c n) (hk : Keep f H H') (hf : ∀ i ∈ f, c < i) : Cur H' c n := by
  obtain ⟨a, i, h, bs, h1, h2, h3, h4, h5, h6, h7⟩ := h
  have hlt := blkAt_len h1
  refine ⟨a, i, h, bs, hk.blk h1 (fun hc => by have := hf c hc; omega), h2, h3, h4, h5, h6, ?_⟩
  by_cases hb : bs = []
  · subst hb; exact Sl.nil _ _ _
  · exact h7.keep hk (fun id r he hi => by have := hf id hi; have := h6 id r he hb; omega)
theorem Cur.app {H : Heap} {c n : Nat} (h : Cur H c n) (G : Heap) : Cur (H ++ G) c n := h.keep (Keep.app [] H G) (by simp)
theorem Cur.ne {H : Heap} {c n id : Nat} {b : Blk} (h : Cur H c n) (hb : blkAt H id = some b) (he : b.elem ≠ 105) : id ≠ c := by
  obtain ⟨a, i, h, bs, h1, -⟩ := h
  rintro rfl
  rw [h1] at hb
  injection hb with hb
  rw [← hb] at he
  exact he rfl
/-- From H to H' the cursor may have gone on, nothing else that was has turned. -/
def CurTo (H H' : Heap) (c n : Nat) : Prop := Keep [c] H H' ∧ Cur H' c n
theorem CurTo.refl {H : Heap} {c n : Nat} (h : Cur H c n) : CurTo H H c n := ⟨Keep.refl _ _, h⟩
theorem CurTo.app {H H' : Heap} {c n : Nat} (h : CurTo H H' c n) (G : Heap) : CurTo H (H' ++ G) c n := ⟨h.1.trans (Keep.app [] _ G) (fun _ h _ => h) (by simp), h.2.app G⟩
theorem CurTo.next {H H1 H2 : Heap} {c n : Nat} (h : CurTo H H1 c n) (h2 : CurTo H1 H2 c n) : CurTo H H2 c n := ⟨h.1.trans h2.1 (fun _ h _ => h) (fun _ h _ => h), h2.2⟩
theorem CurTo.base {H G H' : Heap} {c n : Nat} (h : CurTo (H ++ G) H' c n) : CurTo H H' c n := ⟨h.1.base, h.2⟩
theorem CurTo.set {H H' : Heap} {c n : Nat} (h : CurTo H H' c n) {id : Nat} (hid : H.length ≤ id) (hc : c < id) (y : Option Blk) : CurTo H (H'.set id y) c n :=
  ⟨h.1.trans (Keep.set _ _) (fun _ h _ => h) (fun i hi hlt => by simp at hi; omega), h.2.keep (Keep.set _ _) (by simpa using hc)⟩
theorem CurTo.own {H H' H2 : Heap} {c n : Nat} (h : CurTo H H' c n) {f : List Nat} (hk : Keep f H' H2) (hf : ∀ i ∈ f, H.length ≤ i) (hc : c < H.length) : CurTo H H2 c n :=
  ⟨h.1.trans hk (fun _ h _ => h) (fun i hi hlt => by have := hf i hi; omega), h.2.keep hk (fun i hi => by have := hf i hi; omega)⟩
theorem CurTo.leave {H H' : Heap} {c n : Nat} (h : CurTo H H' c n) (hc : Cur H c n) (ws : List W) : CurTo H (Go.Ab.leave H H' ws) c n := by
  rcases leave_or H H' ws with e | ⟨e, -⟩ <;> rw [e]
  · exact h
  · exact CurTo.refl hc
theorem CurTo.len {H H' : Heap} {c n : Nat} (h : CurTo H H' c n) : H.length ≤ H'.length := h.1.1
/-- Of what was there only the cursor's block turned. -/
theorem CurTo.only {H H' : Heap} {c n : Nat} (h : CurTo H H' c n) (hc : Cur H c n) : onlyT (some 105) H H' = true := by
  unfold onlyT
  simp only [List.all_eq_true, List.mem_range, Bool.or_eq_true, decide_eq_true_eq]
  intro id hid
  by_cases he : id = c
  · subst he
    obtain ⟨a, i, h0, bs, h1, -⟩ := hc
    obtain ⟨a', i', h0', bs', h1', -⟩ := h.2
    have e1 := blkAt_some h1
    have e2 := blkAt_some h1'
    right
    rw [e1, e2]
    rfl
  · exact .inl (h.1.2 id hid (by simpa using he))

/-- A call of a function that draws. -/
theorem stpL_cur {call : Fun} {draw : Bool} {tm : Ab.T} {H : Heap} {Q : Ex → Ab.T → Heap → Prop} {fr : List Fr} {is : List I2} {f : Nat} {args : List V} {d : Option Nat} {K : V → Heap → Prop} {x y : List (Nat × Nat × Nat)} {c n : Nat} (h : Runs env f args H K) (hc : Cur H c n) (hto : ∀ v H', K v H' → CurTo H H' c n)
    (hk : ∀ v H', K v H' → stpL env call (some (v, H')) d draw is fr tm Q) (hw : env.wr f = true := by rfl) (hn : env.wt f = some 105 := by rfl) : stpL env call (guardCall env draw (.w (.lf (.fn f x y))) H (run env f args H)) d draw is fr tm Q := by
  obtain ⟨v, H', hr, hK⟩ := h
  have : guardCall env draw (.w (.lf (.fn f x y))) H (run env f args H) = some (v, H') := by
    rw [hr]
    unfold guardCall
    split
    · rfl
    · have h1 := hto v H' hK
      simp [hw, hn, h1.len, h1.only hc]
  rw [this]
  exact hk v H' hK

theorem and255 (a : Int) : 0 ≤ IntKind.i64.wrap ((BitVec.ofInt 64 a &&& 255#64).toNat : Nat) ∧ IntKind.i64.wrap ((BitVec.ofInt 64 a &&& 255#64).toNat : Nat) ≤ 255 := by
  have h : (BitVec.ofInt 64 a &&& 255#64).toNat ≤ 255 := by
    rw [BitVec.toNat_and]
    exact Nat.le_trans Nat.and_le_right (by decide)
  rw [wrap64 (by omega) (by omega)]
  omega
theorem l1Byte {H : Heap} {c n : Nat} (hc : Cur H c n) : Runs env 95 [.ptr c 0 0] H fun v H' => (∃ x : Int, v = .int x ∧ 0 ≤ x ∧ x ≤ 255) ∧ CurTo H H' c n := by
  have hc0 := hc
  obtain ⟨a, i, h, bs, h1, h2, h3, h4, h5, h6, h7⟩ := hc
  have hl := blkAt_len h1
  refine Runs.walk ok95 Try.func95 rfl (by simp [Try.f95]) fun Q hQ => ?_
  simp only [Try.f95, strip, stripL, stripI, stripG, chkT, tagsB, tagsL, tagD, addT, tagA, lookN, tagOp, elmT, ty22, ty24, ty25, ty33, ty54, ty58, ty95, ty122, Nat.reduceEqDiff, if_false, reduceIte, Option.getD_some, Option.getD_none, dstAt, dstOk, Nat.reduceLT, decide_true, if_true]
  have hset : ∀ y : Blk, blkAt (H.set c (some y)) c = some y := fun y => blkAt_set hl
  have hto : ∀ (i' h' : Int), 0 ≤ i' → i' ≤ n → CurTo H (H.set c (some ⟨105, .wr, [[.sl a n, .i .i64 i', .i .i64 h']]⟩)) c n := fun i' h' g1 g2 =>
    ⟨Keep.set _ _, a, i', h', bs, hset _, g1, g2, h4, h5, h6, by
      by_cases hb : bs = []
      · subst hb; exact Sl.nil _ _ _
      · exact h7.keep (Keep.set _ _) (fun id r he hi => by have := h6 id r he hb; simp at hi; omega)⟩
  simp [h1, hl, hset, builtinV, pureB, lenV, binV, binInt, cmpI, arI, IntKind.bits]
  refine selS_intro (fun hc1 => ?_) (fun hc1 => ?_)
  · simp at hc1
    obtain ⟨k, rfl⟩ : ∃ k : Nat, i = (k : Int) := ⟨i.toNat, by omega⟩
    have hk : k < bs.length := by omega
    obtain ⟨id3, r3, bl3, rfl, hb3, hbe3, hrow3⟩ := h7 k _ (by rw [List.getElem?_map, List.getElem?_eq_getElem hk]; rfl)
    have hid3 := blkAt_len hb3
    have hlt3 : id3 < c := h6 id3 r3 rfl (by rintro rfl; simp at hk)
    have hse : ∀ y : Option Blk, blkAt (H.set c y) id3 = some bl3 := fun y => by rw [blkAt_set_ne (by omega)]; exact hb3
    have hkn : k < n := by omega
    have hkI : (k : Int) < n := by omega
    have hw : IntKind.i64.wrap ((k : Int) + 1) = (k : Int) + 1 := wrap64 (by omega) (by omega)
    simp [hset, hl, hse, hid3, hbe3, hrow3, indexAddrV, elemIs, hkn, hkI, encU, binV, binInt, cmpI, arI, IntKind.bits, convV, hw]
    refine hQ _ _ _ (by simp) ?_
    simp [Try.f95]
    exact ⟨and255 _, (hto _ _ (by omega) (by omega)).leave hc0 _⟩
  · simp at hc1
    simp
    refine hQ _ _ _ (by simp) ?_
    simp [Try.f95]
    exact ⟨and255 _, (hto _ _ h2 h3).leave hc0 _⟩

theorem tmod_le {s k : Int} (hs : 0 ≤ s) (hk : 0 < k) : s.tmod k ≤ s := by
  rw [Int.tmod_eq_emod_of_nonneg hs]
  obtain ⟨a, rfl⟩ := Int.eq_ofNat_of_zero_le hs
  obtain ⟨b, rfl⟩ := Int.eq_ofNat_of_zero_le (show 0 ≤ k by omega)
  have := Nat.mod_le a b
  omega
theorem l1Below {H : Heap} {c n : Nat} (hc : Cur H c n) (k : Int) : Runs env 56 [.ptr c 0 0, .int k] H fun v H' => (∃ x : Int, v = .int x ∧ 0 ≤ x ∧ (0 < k → x < k) ∧ x ≤ 4294967295) ∧ CurTo H H' c n := by
  refine Runs.walk ok56 Try.func56 rfl (by simp [Try.f56]) fun Q hQ => ?_
  simp only [Try.f56, strip, stripL, stripI, stripG, chkT, tagsB, tagsL, tagD, addT, tagA, lookN, tagOp, elmT, ty22, ty24, ty25, ty33, ty54, ty58, ty95, ty122, Nat.reduceEqDiff, if_false, reduceIte, Option.getD_some, Option.getD_none, dstAt, dstOk, Nat.reduceLT, decide_true, if_true]
  have fin : ∀ (HF : Heap) (tm : Ab.T) (x : Int), tm 4 = .int x → 0 ≤ x → (0 < k → x < k) → x ≤ 4294967295 → CurTo H HF c n → Q .ret tm HF := by
    intro HF tm x t4 h1 h2 h3 hto
    refine hQ _ _ _ (by simp) ?_
    simp [Try.f56, t4]
    exact ⟨⟨h1, h2, h3⟩, hto.leave hc _⟩
  simp
  by_cases hk : k ≤ 0
  · simp [hk]
    exact fin _ _ 0 (by simp) (by omega) (by omega) (by omega) (CurTo.refl hc)
  have hk0 : ¬ k = 0 := by omega
  simp [hk]
  by_cases hk2 : k ≤ 256
  · simp [hk2]
    refine stpL_runs (l1Byte hc) ?_
    rintro _ H1 ⟨⟨x, rfl, hx1, hx2⟩, hto⟩
    simp [hk0]
    have h1 := Int.tmod_nonneg k hx1
    have h2 := Int.tmod_lt_of_pos x (show 0 < k by omega)
    exact fin _ _ (x.tmod k) (by simp) h1 (fun _ => h2) (by omega) hto
  · simp [hk2]
    refine stpL_runs (l1Byte hc) ?_
    rintro _ H1 ⟨⟨x, rfl, hx1, hx2⟩, hto1⟩
    simp
    refine stpL_runs (l1Byte hto1.2) ?_
    rintro _ H2 ⟨⟨y, rfl, hy1, hy2⟩, hto2⟩
    simp
    refine stpL_runs (l1Byte hto2.2) ?_
    rintro _ H3 ⟨⟨z, rfl, hz1, hz2⟩, hto3⟩
    simp
    refine stpL_runs (l1Byte hto3.2) ?_
    rintro _ H4 ⟨⟨w, rfl, hw1, hw2⟩, hto4⟩
    have g1 : IntKind.i64.wrap (x * 16777216) = x * 16777216 := wrap64 (by omega) (by omega)
    have g2 : IntKind.i64.wrap (y * 65536) = y * 65536 := wrap64 (by omega) (by omega)
    have g3 : IntKind.i64.wrap (x * 16777216 + y * 65536) = x * 16777216 + y * 65536 := wrap64 (by omega) (by omega)
    have g4 : IntKind.i64.wrap (z * 256) = z * 256 := wrap64 (by omega) (by omega)
    have g5 : IntKind.i64.wrap (x * 16777216 + y * 65536 + z * 256) = x * 16777216 + y * 65536 + z * 256 := wrap64 (by omega) (by omega)
    have g6 : IntKind.i64.wrap (x * 16777216 + y * 65536 + z * 256 + w) = x * 16777216 + y * 65536 + z * 256 + w := wrap64 (by omega) (by omega)
    simp [hk0, g1, g2, g3, g4, g5, g6]
    obtain ⟨s, hs⟩ : ∃ s, s = x * 16777216 + y * 65536 + z * 256 + w := ⟨_, rfl⟩
    have hs0 : 0 ≤ s := by omega
    have h1 := Int.tmod_nonneg k hs0
    have h2 := Int.tmod_lt_of_pos s (show 0 < k by omega)
    have h3 : s.tmod k ≤ s := tmod_le hs0 (by omega)
    refine fin _ _ (s.tmod k) ?_ h1 (fun _ => h2) (by omega) (((hto1.next hto2).next hto3).next hto4)
    simp [hs]

theorem l1Once {H : Heap} {c n : Nat} (hc : Cur H c n) (k : Int) : Runs env 66 [.ptr c 0 0, .int k] H fun v H' => (∃ b : Bool, v = .bool b) ∧ CurTo H H' c n := by
  refine Runs.walk ok66 Try.func66 rfl (by simp [Try.f66]) fun Q hQ => ?_
  simp only [Try.f66, strip, stripL, stripI, stripG, chkT, tagsB, tagsL, tagD, addT, tagA, lookN, tagOp, elmT, ty22, ty24, ty25, ty33, ty54, ty58, ty95, ty122, Nat.reduceEqDiff, if_false, reduceIte, Option.getD_some, Option.getD_none, dstAt, dstOk, Nat.reduceLT, decide_true, if_true]
  simp
  refine stpL_runs (l1Below hc k) ?_
  rintro _ H1 ⟨⟨x, rfl, hx1, hx2⟩, hto⟩
  simp
  refine hQ _ _ _ (by simp) ?_
  simp [Try.f66]
  exact ⟨by omega, hto.leave hc _⟩

theorem l1PickInt {H : Heap} {c n : Nat} (hc : Cur H c n) {a : Option (Nat × Nat)} {xs : List Int} (hs : Sl H 3 a (xs.map encI)) (hx : xs ≠ []) (hlen : xs.length ≤ 1048576) :
    Runs env 51 [.ptr c 0 0, .w (.lf (.sl a xs.length))] H fun v H' => (∃ x : Int, v = .int x ∧ x ∈ xs) ∧ CurTo H H' c n := by
  have hpos : 0 < xs.length := List.length_pos_iff.2 hx
  refine Runs.walk ok51 Try.func51 rfl (by simp [Try.f51]) fun Q hQ => ?_
  simp only [Try.f51, strip, stripL, stripI, stripG, chkT, tagsB, tagsL, tagD, addT, tagA, lookN, tagOp, elmT, ty22, ty24, ty25, ty33, ty54, ty58, ty95, ty122, Nat.reduceEqDiff, if_false, reduceIte, Option.getD_some, Option.getD_none, dstAt, dstOk, Nat.reduceLT, decide_true, if_true]
  simp [builtinV, pureB, lenV]
  refine stpL_runs (l1Below hc xs.length) ?_
  rintro _ H1 ⟨⟨x, rfl, hx1, hx2, -⟩, hto⟩
  have hxl := hx2 (by omega)
  obtain ⟨k, rfl⟩ : ∃ k : Nat, x = (k : Int) := ⟨x.toNat, by omega⟩
  have hk : k < xs.length := by omega
  obtain ⟨id3, r3, bl3, rfl, hb3, hbe3, hrow3⟩ := hs k _ (by rw [List.getElem?_map, List.getElem?_eq_getElem hk]; rfl)
  have hne := hc.ne hb3 (by rw [hbe3]; decide)
  have hb4 := hto.1.blk hb3 (by simpa using hne)
  have hid4 := blkAt_len hb4
  have hkI : (k : Int) < xs.length := by omega
  simp [hb4, hid4, hbe3, hrow3, indexAddrV, elemIs, hk, hkI, encI]
  refine hQ _ _ _ (by simp) ?_
  simp [Try.f51]
  exact hto.leave hc _

theorem l6DrawRight {H : Heap} {c n : Nat} (hc : Cur H c n) : Runs env 127 [.ptr c 0 0] H fun v H' => (∃ x : Vec, v = .agg x.enc) ∧ CurTo H H' c n := by
  have hcl := hc.lt
  refine Runs.walk ok127 Try.func127 rfl (by simp [Try.f127]) fun Q hQ => ?_
  simp only [Try.f127, strip, stripL, stripI, stripG, chkT, tagsB, tagsL, tagD, addT, tagA, lookN, tagOp, elmT, ty22, ty24, ty25, ty33, ty54, ty58, ty95, ty122, Nat.reduceEqDiff, if_false, reduceIte, Option.getD_some, Option.getD_none, dstAt, dstOk, Nat.reduceLT, decide_true, if_true]
  have fin : ∀ (HF : Heap) (tm : Ab.T) (x : Vec), tm 2 = .ptr H.length 0 0 → blkAt HF H.length = some ⟨52, .wr, [x.enc]⟩ → CurTo H HF c n → Q .ret tm HF := by
    intro HF tm x t2 hb hto
    refine hQ _ _ _ (by simp) ?_
    have hres : resT env.τ tm HF (Try.f127.results.toList) = some [W.agg x.enc] := by simp [Try.f127, t2, hb]
    rw [hres, optK_some]
    exact ⟨⟨x, rfl⟩, hto.leave hc _⟩
  have hcX := hc.app [some ⟨52, .wr, [[.i .i64 0, .i .i64 0, .i .i64 0, .i .i64 0]]⟩]
  have bzX : blkAt (H ++ [some ⟨52, .wr, [[.i .i64 0, .i .i64 0, .i .i64 0, .i .i64 0]]⟩]) H.length = some ⟨52, .wr, [[.i .i64 0, .i .i64 0, .i .i64 0, .i .i64 0]]⟩ := by simp
  have hlX : (H ++ [some ⟨52, .wr, [[.i .i64 0, .i .i64 0, .i .i64 0, .i .i64 0]]⟩] : Heap).length = H.length + 1 := by simp
  simp
  refine stpL_runs (l1Below hcX 4) ?_
  rintro _ H1 ⟨⟨x, rfl, hx⟩, hto1⟩
  simp
  refine stpL_runs (l1Below hto1.2 4) ?_
  rintro _ H2 ⟨⟨y, rfl, hy⟩, hto2⟩
  have hto := hto1.next hto2
  have bz2 := hto.1.blk bzX (by simp; omega)
  have dz2 := blkAt_len bz2
  have hcc2 := hto.base
  have hl2 := hto.len
  rw [hlX] at hl2
  obtain ⟨r, hr⟩ : ∃ r, r = IntKind.i64.wrap (1 + x) := ⟨_, rfl⟩
  simp [← hr]
  have hcM := hto.2.app [some ⟨52, .wr, [[.i .i64 r, .i .i64 0, .i .i64 0, .i .i64 y]]⟩]
  refine stpL_cur (l1Below hcM 3) hcM (fun v H' h => h.2) ?_
  rintro _ H3 ⟨⟨z, rfl, hz⟩, hto3⟩
  have b3 : blkAt H3 H2.length = some ⟨52, .wr, [[.i .i64 r, .i .i64 0, .i .i64 0, .i .i64 y]]⟩ := hto3.1.blk (by simp) (by simp; omega)
  have bz3 := hto3.1.blk (blkAt_app bz2 _) (by simp; omega)
  have d3 := blkAt_len b3
  have dz3 := blkAt_len bz3
  have hcc3 := hcc2.next hto3.base
  obtain ⟨g, hg⟩ : ∃ g, g = IntKind.i64.wrap (r + z) := ⟨_, rfl⟩
  have hset : ∀ (Y : Heap) (y : Blk), H2.length < Y.length → blkAt (List.set Y H2.length (some y)) H2.length = some y := fun Y y h => blkAt_set h
  have hne3 : ∀ (Y : Heap) (y : Option Blk), blkAt (List.set Y H2.length y) H.length = blkAt Y H.length := fun Y y => blkAt_set_ne (by omega)
  simp [b3, d3, ← hg, hset]
  refine selS_intro (fun hq => ?_) (fun hq => ?_)
  · simp
    have hcS := (hcc3.set (id := H2.length) (by omega) (by omega) (some ⟨52, .wr, [[.i .i64 r, .i .i64 0, .i .i64 g, .i .i64 y]]⟩))
    refine stpL_runs (l1Below hcS.2 3) ?_
    rintro _ H4 ⟨⟨u, rfl, hu⟩, hto4⟩
    have b4 := hto4.1.blk (blkAt_set d3) (by simp; omega)
    have bz4 := hto4.1.blk (show blkAt (H3.set H2.length _) H.length = _ from (hne3 _ _).trans bz3) (by simp; omega)
    have d4 := blkAt_len b4
    have dz4 := blkAt_len bz4
    have hcc4 := hcS.next hto4
    simp [b4, d4, bz4, dz4, hset, hne3]
    refine fin _ _ ⟨_, _, _, _⟩ ?_ (blkAt_set (Nat.lt_of_lt_of_eq dz4 (List.length_set).symm)) ((hcc4.set (by omega) (by omega) _).set (by omega) (by omega) _)
    simp
  · simp [b3, d3, bz3, dz3, hset, hne3]
    refine fin _ _ ⟨_, _, _, _⟩ ?_ (blkAt_set (Nat.lt_of_lt_of_eq dz3 (List.length_set).symm)) ((hcc3.set (by omega) (by omega) _).set (by omega) (by omega) _)
    simp

theorem l8DrawIn {H : Heap} {c n : Nat} (hc : Cur H c n) : Runs env 112 [.ptr c 0 0] H fun v H' => (∃ x : In, v = .agg x.enc) ∧ CurTo H H' c n := by
  have hcl := hc.lt
  refine Runs.walk ok112 Try.func112 rfl (by simp [Try.f112]) fun Q hQ => ?_
  simp only [Try.f112, strip, stripL, stripI, stripG, chkT, tagsB, tagsL, tagD, addT, tagA, lookN, tagOp, elmT, ty22, ty24, ty25, ty33, ty54, ty58, ty95, ty122, Nat.reduceEqDiff, if_false, reduceIte, Option.getD_some, Option.getD_none, dstAt, dstOk, Nat.reduceLT, decide_true, if_true]
  have fin : ∀ (HF : Heap) (tm : Ab.T) (x : In), tm 2 = .ptr H.length 0 0 → blkAt HF H.length = some ⟨62, .wr, [x.enc]⟩ → CurTo H HF c n → Q .ret tm HF := by
    intro HF tm x t2 hb hto
    refine hQ _ _ _ (by simp) ?_
    have hres : resT env.τ tm HF (Try.f112.results.toList) = some [W.agg x.enc] := by simp [Try.f112, t2, hb]
    rw [hres, optK_some]
    exact ⟨⟨x, rfl⟩, hto.leave hc _⟩
  have hcX := hc.app [some ⟨62, .wr, [[.i .i64 0, .i .i64 0, .i .i64 0, .i .i64 0, .i .i64 0, .i .i64 0, .i .i64 0, .b false]]⟩]
  have bzX : blkAt (H ++ [some ⟨62, .wr, [[.i .i64 0, .i .i64 0, .i .i64 0, .i .i64 0, .i .i64 0, .i .i64 0, .i .i64 0, .b false]]⟩]) H.length = some ⟨62, .wr, [[.i .i64 0, .i .i64 0, .i .i64 0, .i .i64 0, .i .i64 0, .i .i64 0, .i .i64 0, .b false]]⟩ := by simp
  have hlX : (H ++ [some ⟨62, .wr, [[.i .i64 0, .i .i64 0, .i .i64 0, .i .i64 0, .i .i64 0, .i .i64 0, .i .i64 0, .b false]]⟩] : Heap).length = H.length + 1 := by simp
  simp
  refine stpL_runs (l1Below hcX 4) ?_
  rintro _ H1 ⟨⟨p, rfl, -⟩, hto1⟩
  have bz1 := hto1.1.blk bzX (by simp; omega)
  have hcc1 := hto1.base
  have hl1 := hto1.len
  rw [hlX] at hl1
  simp
  refine stpL_runs (l1Below hto1.2 4) ?_
  rintro _ H2 ⟨⟨k, rfl, -⟩, hto2⟩
  have bz2 := hto2.1.blk bz1 (by simp; omega)
  have dz2 := blkAt_len bz2
  have hcc2 := hcc1.next hto2
  by_cases c0 : k = 0
  · simp [c0, bz2, dz2]
    refine fin _ _ ⟨_, _, ⟨_, _, _, _⟩, _, _⟩ ?_ (blkAt_set dz2) (hcc2.set (by omega) (by omega) _)
    simp
  by_cases c1 : k = 1
  · simp [c1]
    refine stpL_runs (l1Once hto2.2 3) ?_
    rintro _ H3 ⟨⟨b, rfl⟩, hto3⟩
    have bz3 := hto3.1.blk bz2 (by simp; omega)
    have dz3 := blkAt_len bz3
    simp [bz3, dz3]
    refine fin _ _ ⟨_, _, ⟨_, _, _, _⟩, _, _⟩ ?_ (blkAt_set dz3) ((hcc2.next hto3).set (by omega) (by omega) _)
    simp
  simp [c0, c1]
  refine stpL_runs (l6DrawRight hto2.2) ?_
  rintro _ H3 ⟨⟨v, rfl⟩, hto3⟩
  have bz3 := hto3.1.blk bz2 (by simp; omega)
  simp
  refine stpL_runs (l1Below hto3.2 4) ?_
  rintro _ H4 ⟨⟨h, rfl, -⟩, hto4⟩
  have bz4 := hto4.1.blk bz3 (by simp; omega)
  have dz4 := blkAt_len bz4
  simp [bz4, dz4, Vec.enc]
  refine fin _ _ ⟨_, _, ⟨_, _, _, _⟩, _, _⟩ ?_ (blkAt_set dz4) (((hcc2.next hto3).next hto4).set (by omega) (by omega) _)
  simp

theorem l1New {H : Heap} {a : Option (Nat × Nat)} {bs : List Int} (hs : Sl H 5 a (bs.map encU)) (hn : bs.length ≤ 1048576) : Runs env 50 [.w (.lf (.sl a bs.length))] H fun v H' => ∃ c, v = .ptr c 0 0 ∧ Cur H' c bs.length ∧ H.length ≤ c ∧ Keep [] H H' := by
  have hw : IntKind.i64.wrap (27397 + (bs.length : Int)) = 27397 + (bs.length : Int) := wrap64 (by omega) (by omega)
  refine Runs.walk ok50 Try.func50 rfl (by simp [Try.f50]) fun Q hQ => ?_
  simp only [Try.f50, strip, stripL, stripI, stripG, chkT, tagsB, tagsL, tagD, addT, tagA, lookN, tagOp, elmT, ty22, ty24, ty25, ty33, ty54, ty58, ty95, ty122, Nat.reduceEqDiff, if_false, reduceIte, Option.getD_some, Option.getD_none, dstAt, dstOk, Nat.reduceLT, decide_true, if_true]
  have fin : ∀ (tm : Ab.T) (h : Int), tm 2 = .ptr H.length 0 0 → Q .ret tm (H ++ [some ⟨105, .wr, [[.sl a bs.length, .i .i64 0, .i .i64 h]]⟩]) := by
    intro tm h t2
    refine hQ _ _ _ (by simp) ?_
    simp [Try.f50, t2, leave, refFree]
    refine ⟨⟨a, 0, h, bs, by simp, by omega, by omega, rfl, hn, fun id r he hb => ?_, hs.app _⟩, Keep.app _ _ _⟩
    subst he
    exact hs.len (by simpa using hb)
  simp [builtinV, pureB, lenV, hw]
  refine wpS_loop (fun j tm H' => ∃ (i : Nat) (h : Int), i + j = bs.length ∧ tm 0 = .w (.lf (.sl a bs.length)) ∧ tm 3 = .int h ∧ tm 4 = .int i ∧ H' = H) bs.length (by rw [env_K]; omega) ⟨0, 27397 + bs.length, by simp, by simp, by simp, by simp, rfl⟩ ?_
  rintro j tm H1 hj ⟨i, h, hij, t0, t3, t4, rfl⟩ Q2 hn2 he2 hr2
  simp [t0, t3, t4, builtinV, pureB, lenV]
  have out : ∀ tm : Ab.T, tm 0 = .w (.lf (.sl a bs.length)) → tm 3 = .int h → Q2 (.exit 0) tm H1 := by
    intro tm s0 s3
    refine he2 _ _ _ ?_
    simp [s0, s3]
    refine fin _ h ?_
    simp
  by_cases hc1 : (i : Int) < bs.length
  · have hk : i < bs.length := by omega
    by_cases hc2 : (i : Int) < 4000
    · obtain ⟨id3, r3, bl3, rfl, hb3, hbe3, hrow3⟩ := hs i _ (by rw [List.getElem?_map, List.getElem?_eq_getElem hk]; rfl)
      have hid3 := blkAt_len hb3
      have hw2 : IntKind.i64.wrap ((i : Int) + 1) = (i : Int) + 1 := wrap64 (by omega) (by omega)
      have hc2' : i < 4000 := by omega
      simp [hc1, hk, hc2, hc2', t0, t3, t4, hb3, hid3, hbe3, hrow3, indexAddrV, elemIs, encU, binV, binInt, cmpI, arI, IntKind.bits, convV, hw2]
      refine hn2 (j - 1) _ _ (by omega) ⟨i + 1, _, by omega, by simp [t0], by simp; rfl, by simp, rfl⟩
    · have hc2' : ¬ i < 4000 := by omega
      simp [hc1, hk, hc2, hc2', t0, t3, t4]
      exact out _ (by simp [t0]) (by simp [t3])
  · have hk : ¬ i < bs.length := by omega
    simp [hc1, hk, t0, t3, t4]
    exact out _ (by simp [t0]) (by simp [t3])

theorem u8R {x : Int} (h : (Lit.int .u8 x).wf = true) : 0 ≤ x ∧ x ≤ 255 := by
  simp only [Lit.wf, Bool.and_eq_true, decide_eq_true_eq] at h
  exact h
theorem atL {H : Heap} {a : Option (Nat × Nat)} {bs : List Int} (hs : Sl H 5 a (bs.map encU)) (hr : ∀ x ∈ bs, 0 ≤ x ∧ x ≤ 255) (hn : bs.length ≤ 1048576) : ∃ v : Int, 0 ≤ v ∧ v ≤ 255 ∧ run env 47 [.w (.lf (.sl a bs.length)), .int 1] H = some (.int v, H) := by
  by_cases h1 : 1 < bs.length
  · obtain ⟨id, r, bl, rfl, hbl, hbe, hrow⟩ := hs 1 _ (by rw [List.getElem?_map, List.getElem?_eq_getElem h1]; rfl)
    have hx := hr _ (List.getElem_mem h1)
    have hw : IntKind.i64.wrap bs[1] = bs[1] := wrap64 (by omega) (by omega)
    have h1I : (1 : Int) < bs.length := by omega
    have nid := blkAt_len hbl
    refine ⟨bs[1], hx.1, hx.2, ?_⟩
    refine run_walk ok47 Try.func47 rfl (by simp [Try.f47]) fun Q hQ => ?_
    simp only [Try.f47, strip, stripL, stripI, stripG, chkT, tagsB, tagsL, tagD, addT, tagA, lookN, tagOp, elmT, ty22, ty24, ty25, ty33, ty54, ty58, ty95, ty122, Nat.reduceEqDiff, if_false, reduceIte, Option.getD_some, Option.getD_none, dstAt, dstOk, Nat.reduceLT, decide_true, if_true]
    simp [builtinV, pureB, lenV, h1I, h1, indexAddrV, elemIs, hbl, nid, hbe, hrow, encU, convV, hw]
    refine hQ _ _ _ (by simp) ?_
    simp [Try.f47]
  · have h1I : ¬ (1 : Int) < bs.length := by omega
    have w0 : IntKind.i64.wrap 7 = 7 := wrap64 (by omega) (by omega)
    have w1 : IntKind.i64.wrap (7 + (bs.length : Int)) = 7 + bs.length := wrap64 (by omega) (by omega)
    refine ⟨(7 + (bs.length : Int)).tmod 256, Int.tmod_nonneg _ (by omega), by have := Int.tmod_lt_of_pos (7 + (bs.length : Int)) (show (0 : Int) < 256 by omega); omega, ?_⟩
    refine run_walk ok47 Try.func47 rfl (by simp [Try.f47]) fun Q hQ => ?_
    simp only [Try.f47, strip, stripL, stripI, stripG, chkT, tagsB, tagsL, tagD, addT, tagA, lookN, tagOp, elmT, ty22, ty24, ty25, ty33, ty54, ty58, ty95, ty122, Nat.reduceEqDiff, if_false, reduceIte, Option.getD_some, Option.getD_none, dstAt, dstOk, Nat.reduceLT, decide_true, if_true]
    simp [builtinV, pureB, lenV, h1I, h1, w0, w1]
    refine hQ _ _ _ (by simp) ?_
    simp [Try.f47, w0, w1]

theorem l10DrawIds {H : Heap} {c n : Nat} (hc : Cur H c n) : Runs env 54 [.ptr c 0 0] H fun v H' => (∃ (q : Lf) (xs : List Int) (fp : List Nat), v = .w (.lf q) ∧ IsIntS H' q xs fp ∧ xs.Nodup ∧ (∀ x ∈ xs, 1 ≤ x ∧ x ≤ 9) ∧ 1 ≤ xs.length ∧ xs.length ≤ 4 ∧ ∀ i ∈ fp, H.length ≤ i) ∧ CurTo H H' c n := by
  have hcl := hc.lt
  refine Runs.walk ok54 Try.func54 rfl (by simp [Try.f54]) fun Q hQ => ?_
  simp only [Try.f54, strip, stripL, stripI, stripG, chkT, tagsB, tagsL, tagD, addT, tagA, lookN, tagOp, elmT, ty22, ty24, ty25, ty33, ty54, ty58, ty95, ty122, Nat.reduceEqDiff, if_false, reduceIte, Option.getD_some, Option.getD_none, dstAt, dstOk, Nat.reduceLT, decide_true, if_true]
  obtain ⟨Y, hY⟩ : ∃ Y : Heap, Y = H ++ [some ⟨3, .wr, []⟩] := ⟨_, rfl⟩
  have bD : blkAt Y H.length = some ⟨3, .wr, []⟩ := by rw [hY]; simp
  have hcY : CurTo H Y c n := by rw [hY]; exact (CurTo.refl hc).app _
  have oD : Own Y 3 (some (H.length, 0)) [] [H.length] := Own.of bD
  simp
  rw [← hY]
  clear hY
  refine wpS_loop (fun j tm A => ∃ (i : Nat) (aa : Option (Nat × Nat)) (ds : List Int) (fd : List Nat), i + j = 4 ∧ ds.length ≤ i ∧ (0 < i → 1 ≤ ds.length) ∧ ds.Nodup ∧ (∀ x ∈ ds, 1 ≤ x ∧ x ≤ 9) ∧ tm 0 = .ptr c 0 0 ∧ tm 3 = .w (.lf (.sl aa ds.length)) ∧ tm 4 = .int i ∧ CurTo H A c n ∧ Own A 3 aa (ds.map encI) fd ∧ ∀ k ∈ fd, H.length ≤ k) 4 (by rw [env_K]; omega) ⟨0, some (H.length, 0), [], [H.length], by simp, by simp, by simp, by simp, by simp, by simp, by simp, by simp, hcY, oD, by simp⟩ ?_
  rintro j tm A hj ⟨i, aa, ds, fd, hij, hdl, hd1, hdn, hdr, t0, t3, t4, hcA, oq, hfd⟩ Q2 hn2 he2 hr2
  simp [t0, t4]
  refine stpL_runs (l1Below hcA.2 4) ?_
  rintro _ B ⟨⟨u, rfl, hu0, hu1, -⟩, htoB⟩
  have hu := hu1 (by omega)
  have hcB := hcA.next htoB
  have hne : ∀ (m : Nat), H.length ≤ m → m ∉ [c] := fun m hm h => by simp at h; omega
  have oqB := oq.keep htoB.1 (fun k hk => hne k (hfd k hk))
  have w0 : IntKind.i64.wrap (1 + u) = 1 + u := wrap64 (by omega) (by omega)
  have hw : IntKind.i64.wrap ((i : Int) + 1) = (i : Int) + 1 := wrap64 (by omega) (by omega)
  simp [t0, t3, t4, w0]
  refine selS_intro (fun hc2 => ?_) (fun hc2 => ?_)
  · simp at hc2
    simp [t0, t3, t4]
    refine stpL_runs (l1Below htoB.2 9) ?_
    rintro _ D ⟨⟨d, rfl, hdd0, hdd1, -⟩, htoD⟩
    have hdd := hdd1 (by omega)
    have hcD := hcB.next htoD
    have oqD := oqB.keep htoD.1 (fun k hk => hne k (hfd k hk))
    have hlD := hcD.len
    have w2 : IntKind.i64.wrap (1 + d) = 1 + d := wrap64 (by omega) (by omega)
    have e4 := l4Has oqD.sl (by omega) (1 + d)
    simp [t0, t3, t4, w2, e4]
    by_cases hm : (1 + d) ∈ ds
    · have h1 : 1 ≤ ds.length := by cases ds with
        | nil => simp at hm
        | cons y ys => simp
      simp [hm, t0, t3, t4, hw]
      refine hn2 (j - 1) _ _ (by omega) ⟨i + 1, aa, ds, fd, by omega, by omega, fun _ => h1, hdn, hdr, by simp [t0], by simp [t3], by simp, hcD, oqD, hfd⟩
    · simp [hm, t3]
      refine stpL_append (e := 3) (rows := ds.map encI) (ys := [encI (1 + d)]) (oqD.app _) (Sl.of (by simp [encI])) rfl rfl rfl (by simp) (by simp; omega) (by simp) rfl fun a2 E fc hoE hkE hfE => ?_
      have kE : Keep fd D E := hkE.base
      simp [t0, t4, hw]
      refine hn2 (j - 1) _ _ (by omega) ⟨i + 1, a2, ds ++ [1 + d], fc, by omega, by simp; omega, by simp, ?_, ?_, by simp [t0], by simp, by simp, ?_, by simpa using hoE, ?_⟩
      · rw [List.nodup_append]; refine ⟨hdn, by simp, ?_⟩
        intro y hy z hz he
        simp at hz
        subst hz
        subst he
        exact hm hy
      · intro y hy
        rcases List.mem_append.1 hy with h | h
        · exact hdr y h
        · simp at h; omega
      · exact hcD.own kE (fun k hk => hfd k hk) hcl
      · intro k hk
        rcases hfE k hk with h | h
        · exact hfd k h
        · simp at h; omega
  · simp at hc2
    simp
    refine he2 _ _ _ ?_
    simp [t3]
    refine hQ _ _ _ (by simp) ?_
    simp [Try.f54]
    refine ⟨?_, hcB.leave hc _⟩
    have hd2 := hd1 (by omega)
    rcases leave_opt H B [W.lf (.sl aa ds.length)] with e | ⟨e, hr⟩ <;> rw [e]
    · exact ⟨ds, ⟨fd, ⟨aa, rfl, oqB⟩, hdn, hdr, hd2, by omega, hfd⟩⟩
    · exact ⟨ds, ⟨[], (IsSl.free ⟨aa, rfl, oqB⟩ (by simpa [W.free] using hr) H), hdn, hdr, hd2, by omega, by simp⟩⟩

/-- The port k of a bridge. -/
def pt (b : Bridge) (k : Nat) : Port := b.ports.getD k default
theorem pt_eq {b : Bridge} {k : Nat} (h : k < b.ports.length) : pt b k = b.ports[k] := by simp [pt, List.getD, List.getElem?_eq_getElem h]
theorem pt_at {b : Bridge} {k : Nat} (h : k < b.ports.length) : b.ports[k]? = some (pt b k) := by rw [pt_eq h, List.getElem?_eq_getElem h]
theorem pt_ok {b : Bridge} (hb : b.ok = true) {k : Nat} (h : k < b.ports.length) : (pt b k).ok = true := by rw [pt_eq h]; exact Bridge.ok_at hb h
theorem better_iff (a b : Vec) : better a b = true ↔ (a.root < b.root ∨ (a.root = b.root ∧ (a.cost < b.cost ∨ (a.cost = b.cost ∧ (a.bridge < b.bridge ∨ (a.bridge = b.bridge ∧ a.port < b.port)))))) := by
  unfold better
  split
  · simp; omega
  · split
    · simp; omega
    · split
      · simp; omega
      · simp; omega
theorem better_no (a b : Vec) : better a b = false ↔ ¬ (a.root < b.root ∨ (a.root = b.root ∧ (a.cost < b.cost ∨ (a.cost = b.cost ∧ (a.bridge < b.bridge ∨ (a.bridge = b.bridge ∧ a.port < b.port)))))) := by
  rw [← better_iff]; simp
theorem rootUpto_best (b : Bridge) : ∀ i, i ≤ b.ports.length → ∀ k, k < i → rootSkip b (pt b k) = false → 0 ≤ rootUpto b i ∧ better (pt b k).vec (pt b (rootUpto b i).toNat).vec = false
  | 0, _, k, hk, _ => by omega
  | i + 1, hi, k, hk, hs => by
    have ih := rootUpto_best b i (by omega) k
    have hlt := rootUpto_lt b i
    rw [rootUpto, pt_at (by omega)]
    simp only
    unfold rootStep
    have hg : (b.ports.getD (rootUpto b i).toNat default) = pt b (rootUpto b i).toNat := rfl
    rw [hg]
    split
    · rename_i h1
      rcases Nat.lt_or_ge k i with h | h
      · exact ih h hs
      · obtain rfl : k = i := by omega
        rw [h1] at hs; simp at hs
    · split
      · rename_i h1 h2
        refine ⟨by omega, ?_⟩
        simp only [Int.toNat_natCast]
        rcases Nat.lt_or_ge k i with h | h
        · obtain ⟨h3, h4⟩ := ih h hs
          simp only [Bool.or_eq_true, decide_eq_true_eq, better_iff] at h2
          rw [better_no] at h4 ⊢
          omega
        · obtain rfl : k = i := by omega
          rw [better_no]; omega
      · rename_i h1 h2
        simp only [Bool.or_eq_true, decide_eq_true_eq, not_or] at h2
        rcases Nat.lt_or_ge k i with h | h
        · exact ih h hs
        · obtain rfl : k = i := by omega
          exact ⟨by omega, by simpa using h2.2⟩
theorem rootAt_of (b : Bridge) {k : Nat} (hk : k < b.ports.length) (hs : rootSkip b (pt b k) = false) : 0 ≤ rootAt b ∧ better (pt b k).vec (pt b (rootAt b).toNat).vec = false := rootUpto_best b _ (Nat.le_refl _) k hk hs
theorem rootAt_is {b : Bridge} (h : 0 ≤ rootAt b) : ∃ r : Nat, rootAt b = r ∧ r < b.ports.length ∧ rootSkip b (pt b r) = false := by
  have h1 := (rootUpto_lt b b.ports.length).2
  have h2 := rootUpto_skip b b.ports.length h
  refine ⟨(rootAt b).toNat, by omega, by unfold rootAt at h ⊢; omega, h2⟩
theorem ownV_pos {b : Bridge} {r : Nat} (h : rootAt b = r) (p : Int) : ownV b p = ⟨(pt b r).vec.root, (pt b r).vec.cost + 1, b.id, p⟩ := by
  unfold ownV; rw [if_neg (by omega), h]; rfl
theorem ownV_neg {b : Bridge} (h : rootAt b < 0) (p : Int) : ownV b p = ⟨b.id, 0, b.id, p⟩ := by
  unfold ownV; rw [if_pos h]
theorem hopsB_pos {b : Bridge} {r : Nat} (h : rootAt b = r) : hopsB b = (pt b r).hops + 1 := by
  unfold hopsB; rw [if_neg (by omega), h]; rfl
theorem hopsB_neg {b : Bridge} (h : rootAt b < 0) : hopsB b = 0 := by
  unfold hopsB; rw [if_pos h]
theorem skip_no {b : Bridge} {p : Port} : rootSkip b p = false ↔ p.has = true ∧ p.vec.bridge ≠ b.id ∧ p.vec.root < b.id ∧ p.vec.cost < 20 ∧ p.hops < 8 := by
  simp [rootSkip, and_assoc]
/-- Each port that is up has the role that a decision gives it. -/
def Decd (b : Bridge) : Prop := ∀ k, k < b.ports.length → (pt b k).up = true → (pt b k).role = roleB b k (pt b k)
theorem roleB_in (b : Bridge) (i : Nat) (p : Port) : roleB b i p = 1 ∨ roleB b i p = 2 ∨ roleB b i p = 3 := by
  unfold roleB; split
  · exact .inl rfl
  · split
    · exact .inr (.inr rfl)
    · exact .inr (.inl rfl)
theorem decideB_len (b : Bridge) : (decideB b).ports.length = b.ports.length := by simp [decideB]
theorem decideB_pt {b : Bridge} {k : Nat} (h : k < b.ports.length) : pt (decideB b) k = decP b k (pt b k) := by
  rw [pt_eq (by rw [decideB_len]; exact h), pt_eq h]; simp [decideB]
theorem decP_info (b : Bridge) (k : Nat) (p : Port) : (decP b k p).up = p.up ∧ (decP b k p).has = p.has ∧ (decP b k p).vec = p.vec ∧ (decP b k p).hops = p.hops ∧ (decP b k p).left = p.left := by
  unfold decP; split
  · exact turnP_rest _ _
  · simp
theorem decP_does {b : Bridge} {k : Nat} {p : Port} (hp : p.ok = true) (hu : p.up = true) : (decP b k p).role = roleB b k p ∧ (decP b k p).wait = turnW p (roleB b k p) := by
  unfold decP turnP
  rw [if_pos hu]
  have := roleB_in b k p
  rw [if_neg (by simp [hp, hu]; omega)]
  exact ⟨rfl, rfl⟩
theorem roleB_key {b c : Bridge} {p q : Port} (hi : b.id = c.id) (h : b.ports.map keyP = c.ports.map keyP) (hp : keyP p = keyP q) (k : Nat) : roleB b k p = roleB c k q := by
  simp only [keyP, Prod.mk.injEq] at hp
  unfold roleB
  rw [rootAt_key hi h, ownV_key hi h, hp.1, hp.2.1]
theorem decideB_decd {b : Bridge} (hb : b.ok = true) : Decd (decideB b) := by
  intro k hk hu
  rw [decideB_len] at hk
  rw [decideB_pt hk] at hu ⊢
  rw [(decP_info b k _).1] at hu
  rw [(decP_does (pt_ok hb hk) hu).1]
  exact roleB_key (b := b) (c := decideB b) rfl (decideB_key b).symm (decP_key b k _).symm k
theorem tickB_len (b : Bridge) : (tickB b).ports.length = b.ports.length := by simp [tickB]
theorem tickB_pt {b : Bridge} {k : Nat} (h : k < b.ports.length) : pt (tickB b) k = tickP (pt b k) := by
  rw [pt_eq (by rw [tickB_len]; exact h), pt_eq h]; simp [tickB]
/-- What a claim comes to at a port. -/
def hearB (b : Bridge) (q : Nat) (v : Vec) (h : Int) : Bridge := ⟨b.id, b.ports.set q (claimP (pt b q) v h)⟩
theorem hearB_len (b : Bridge) (q : Nat) (v : Vec) (h : Int) : (hearB b q v h).ports.length = b.ports.length := by simp [hearB]
theorem hearB_ok {b : Bridge} (hb : b.ok = true) {q : Nat} (hq : q < b.ports.length) (v : Vec) (h : Int) : (hearB b q v h).ok = true := set_ok hb (claimP_ok _ _ (pt_ok hb hq))
theorem hearB_pt {b : Bridge} {q k : Nat} (hk : k < b.ports.length) (v : Vec) (h : Int) : pt (hearB b q v h) k = if k = q then claimP (pt b q) v h else pt b k := by
  rw [pt_eq (by rw [hearB_len]; exact hk)]
  simp only [hearB, List.getElem_set]
  split
  · rename_i e; rw [if_pos e.symm]
  · rename_i e; rw [if_neg (fun h => e h.symm), pt_eq hk]
def tickD (b : Bridge) : Bridge := decideB (tickB b)
def hearD (b : Bridge) (q : Nat) (v : Vec) (h : Int) : Bridge := decideB (hearB b q v h)
theorem tickD_len (b : Bridge) : (tickD b).ports.length = b.ports.length := by rw [tickD, decideB_len, tickB_len]
theorem hearD_len (b : Bridge) (q : Nat) (v : Vec) (h : Int) : (hearD b q v h).ports.length = b.ports.length := by rw [hearD, decideB_len, hearB_len]
theorem tickD_ok {b : Bridge} (h : b.ok = true) : (tickD b).ok = true := decideB_ok (tickB_ok h)
theorem hearD_ok {b : Bridge} (hb : b.ok = true) {q : Nat} (hq : q < b.ports.length) (v : Vec) (h : Int) : (hearD b q v h).ok = true := decideB_ok (hearB_ok hb hq v h)
theorem tickD_decd {b : Bridge} (h : b.ok = true) : Decd (tickD b) := decideB_decd (tickB_ok h)
theorem hearD_decd {b : Bridge} (hb : b.ok = true) {q : Nat} (hq : q < b.ports.length) (v : Vec) (h : Int) : Decd (hearD b q v h) := decideB_decd (hearB_ok hb hq v h)
/-- What is heard at a port. -/
structure SameInfo (p q : Port) : Prop where
  has : q.has = p.has
  vec : q.vec = p.vec
  hops : q.hops = p.hops
  left : q.left = p.left
theorem decP_same (b : Bridge) (k : Nat) (p : Port) : SameInfo p (decP b k p) := ⟨(decP_info b k p).2.1, (decP_info b k p).2.2.1, (decP_info b k p).2.2.2.1, (decP_info b k p).2.2.2.2⟩
theorem tickD_pt {b : Bridge} {k : Nat} (hk : k < b.ports.length) : pt (tickD b) k = decP (tickB b) k (tickP (pt b k)) := by
  unfold tickD; rw [decideB_pt (by rw [tickB_len]; exact hk), tickB_pt hk]
theorem hearD_pt {b : Bridge} {q k : Nat} (hk : k < b.ports.length) (v : Vec) (h : Int) : pt (hearD b q v h) k = decP (hearB b q v h) k (if k = q then claimP (pt b q) v h else pt b k) := by
  unfold hearD; rw [decideB_pt (by rw [hearB_len]; exact hk), hearB_pt hk]
theorem Port.ok_has {p : Port} (h : p.ok = true) (hh : p.has = true) : p.up = true ∧ p.vec.ok = true ∧ 0 ≤ p.hops ∧ p.hops ≤ 8 ∧ 1 ≤ p.left ∧ p.left ≤ 3 := by
  simp [Port.ok, hh] at h
  simp_all
theorem Port.ok_none {p : Port} (h : p.ok = true) (hh : p.has = false) : p.vec = ⟨0, 0, 0, 0⟩ ∧ p.hops = 0 ∧ p.left = 0 := by
  simp [Port.ok, hh] at h
  simp_all
theorem Port.ok_rest {p : Port} (h : p.ok = true) : 0 ≤ p.role ∧ p.role ≤ 3 ∧ (p.role = 0 ↔ p.up = false) ∧ 0 ≤ p.wait ∧ p.wait ≤ 4 ∧ p.opn = openBy p.role p.wait := by
  simp [Port.ok] at h
  cases hu : p.up <;> simp_all
theorem tickP_none {p : Port} (hp : p.ok = true) (hh : (tickP p).has = true) : p.has = true ∧ (tickP p).vec = p.vec ∧ (tickP p).hops = p.hops ∧ (tickP p).left = p.left - 1 := by
  simp only [tickP] at hh ⊢
  unfold fadeP at hh ⊢
  cases h : p.has
  · simp [h] at hh
  · simp only [h, hp, Bool.and_self, Bool.true_eq_false, if_false] at hh ⊢
    split at hh
    · simp at hh
    · rename_i h1; simp [h1]
theorem tickP_keep {p : Port} (hp : p.ok = true) (hh : p.has = true) (hl : 2 ≤ p.left) : (tickP p).has = true ∧ (tickP p).vec = p.vec ∧ (tickP p).hops = p.hops ∧ (tickP p).left = p.left - 1 := by
  have : (tickP p).has = true := by
    simp only [tickP]; unfold fadeP
    rw [if_neg (by simp [hp, hh]), if_neg (by omega)]; exact hh
  exact ⟨this, (tickP_none hp this).2⟩
theorem tickP_up (p : Port) : (tickP p).up = p.up := (fadeP_rest p).1
theorem tickP_role (p : Port) : (tickP p).role = p.role := (fadeP_rest p).2.1
theorem tickP_wait (p : Port) : (tickP p).wait = if (p.role = 1 ∨ p.role = 2) ∧ 0 < p.wait then p.wait - 1 else p.wait := by
  have h := fadeP_rest p
  simp only [tickP, tickW, h.2.1, h.2.2.1]
  simp
theorem claimP_cases (p : Port) (v : Vec) (h : Int) : claimP p v h = p ∨ claimP p v h = ⟨p.up, true, v, h, 3, p.role, p.wait, p.opn⟩ := by
  unfold claimP; split
  · exact .inl rfl
  · split
    · exact .inl rfl
    · exact .inr rfl
theorem claimP_takes {p : Port} {v : Vec} {h : Int} (hp : p.ok = true) (hu : p.up = true) (hv : v.ok = true) (h0 : 0 ≤ h) (h8 : h ≤ 8) (hs : p.has = true → v.bridge = p.vec.bridge ∧ v.port = p.vec.port) : claimP p v h = ⟨p.up, true, v, h, 3, p.role, p.wait, p.opn⟩ := by
  unfold claimP
  rw [if_neg (by simp [hp, hu, hv, hopsOk, h0, h8]), if_neg]
  cases hh : p.has
  · simp
  · have := hs hh
    simp [this]

def inf (n : Net) (i k : Nat) : Port := pt (bAt n i) k
abbrev nB (n : Net) : Nat := n.bridges.length
abbrev nP (n : Net) (i : Nat) : Nat := (bAt n i).ports.length
abbrev idB (n : Net) (i : Nat) : Int := (bAt n i).id
/-- The other end of a port's link. -/
def peer (n : Net) (i k : Nat) : Option (Nat × Nat) := (otherL n.links i k).map fun e => (e.1.toNat, e.2.toNat)
def tickN (n : Net) (i : Nat) : Net := setBr n i (tickD (bAt n i))
def hearN (n : Net) (j q : Nat) (v : Vec) (h : Int) : Net := setBr n j (hearD (bAt n j) q v h)
def send1 (i : Nat) (c : Bridge) (m : Net) (k : Nat) : Net := if (pt c k).role = 2 then (match peer m i k with
  | some e => hearN m e.1 e.2 (ownV c k) (hopsB c)
  | none => m) else m
def sendU (i : Nat) (c : Bridge) (m : Net) : Nat → Net
  | 0 => m
  | k + 1 => send1 i c (sendU i c m k) k
theorem fold_none (i : Nat) : ∀ (os : List Out) (m : Net), (∀ o ∈ os, o.kind ≠ 1) → os.foldl (sendTo i) m = m
  | [], m, _ => rfl
  | o :: os, m, h => by
    rw [List.foldl_cons]
    have : sendTo i m o = m := by unfold sendTo; rw [if_neg (h o (by simp))]
    rw [this]
    exact fold_none i os m fun o ho => h o (by simp [ho])
theorem gateAt_kind (b c : Bridge) : ∀ k, ∀ o ∈ upto (gateAt b c) k, o.kind ≠ 1 := fun k o ho => by
  have := upto_all (f := gateAt b c) (p := fun o => o.kind = 2) (fun i o ho => by
    unfold gateAt at ho
    split at ho
    · split at ho
      · simp at ho
      · simp at ho; rw [ho]
    · simp at ho) _ _ ho
  omega
theorem peer_at {n : Net} (hw : NetW n) {i k j q : Nat} (h : peer n i k = some (j, q)) : otherL n.links i k = some ((j : Int), (q : Int)) ∧ j < nB n ∧ q < nP n j := by
  unfold peer at h
  cases he : otherL n.links i k with
  | none => simp [he] at h
  | some e =>
    simp [he] at h
    obtain ⟨h1, h2, h3, h4⟩ := otherL_at hw he
    obtain ⟨e1, e2⟩ := e
    obtain ⟨rfl, rfl⟩ := h
    simp only at h1 h2 h3 h4 ⊢
    refine ⟨by rw [Int.toNat_of_nonneg h1, Int.toNat_of_nonneg h3], h2, h4⟩
theorem hearN_w {n : Net} (hw : NetW n) {j q : Nat} (hj : j < nB n) (hq : q < nP n j) (v : Vec) (h : Int) : NetW (hearN n j q v h) := hw.set hj (hearD_ok (bAt_ok hw hj) hq v h) (hearD_len _ _ _ _)
theorem send1_w {n : Net} (hw : NetW n) (i : Nat) (c : Bridge) (k : Nat) : NetW (send1 i c n k) := by
  unfold send1
  split
  · split
    · rename_i e he
      obtain ⟨e1, e2⟩ := e
      obtain ⟨-, h2, h3⟩ := peer_at hw he
      exact hearN_w hw h2 h3 _ _
    · exact hw
  · exact hw
theorem sendU_w {n : Net} (hw : NetW n) (i : Nat) (c : Bridge) : ∀ k, NetW (sendU i c n k)
  | 0 => hw
  | k + 1 => send1_w (sendU_w hw i c k) i c k
theorem sendTo_eq {m : Net} (hw : NetW m) (i : Nat) {c : Bridge} (hc : c.ok = true) (k : Nat) (hk : k < c.ports.length) : (claimAt c k).foldl (sendTo i) m = send1 i c m k := by
  unfold claimAt send1
  rw [pt_at hk]
  simp only
  by_cases hr : (pt c k).role = 2
  · rw [if_pos hr, if_pos hr]
    simp only [List.foldl_cons, List.foldl_nil]
    unfold sendTo
    rw [if_pos rfl]
    simp only
    have hp : peer m i k = (otherL m.links i k).map fun e => (e.1.toNat, e.2.toNat) := rfl
    cases he : otherL m.links i k with
    | none => rw [hp, he]; rfl
    | some e =>
      rw [hp, he]
      simp only [Option.map_some]
      obtain ⟨h1, h2, h3, h4⟩ := otherL_at hw he
      have hb := bAt_ok hw h2
      have hl := (Bridge.ok_all hb).2.2.2.2
      obtain ⟨g1, g2, g3⟩ := claim_ok hc hk
      have hx : (claimIn e.2 ⟨1, k, ownV c k, hopsB c, false⟩).ok = true := by
        have g4 : (claimIn e.2 ⟨1, k, ownV c k, hopsB c, false⟩).vec.ok = true := g1
        simp [In.ok, g4]
        simp [claimIn]
        omega
      rw [reactB_yes hb hx (by simp [claimIn]; omega)]
      rfl
  · rw [if_neg hr, if_neg hr]; rfl
theorem foldU_eq {m : Net} (hw : NetW m) (i : Nat) {c : Bridge} (hc : c.ok = true) : ∀ k, k ≤ c.ports.length → (upto (claimAt c) k).foldl (sendTo i) m = sendU i c m k
  | 0, _ => rfl
  | k + 1, h => by
    rw [upto, List.foldl_append, foldU_eq hw i hc k (by omega), sendU]
    exact sendTo_eq (sendU_w hw i c k) i hc k (by omega)
theorem roundAt_eq {n : Net} (hw : NetW n) {i : Nat} (hi : i < nB n) : roundAt n i = sendU i (tickD (bAt n i)) (tickN n i) (nP n i) := by
  have hb := bAt_ok hw hi
  have hl := (Bridge.ok_all hb).2.2.2
  have hnx : nextB (bAt n i) tickIn = tickD (bAt n i) := by
    unfold nextB
    rw [if_neg (by simp [quiet, tickIn])]
    unfold inB
    rw [if_neg (by simp [tickIn]), if_pos (show tickIn.kind = 2 from rfl)]
    rfl
  unfold roundAt
  rw [reactB_yes hb tickIn_ok (by show (0 : Int) < _; omega), hnx]
  simp only
  unfold outsB
  rw [if_pos (show tickIn.kind = 2 from rfl), List.foldl_append, fold_none i _ _ (gateAt_kind _ _ _)]
  exact foldU_eq (hw.set hi (tickD_ok hb) (tickD_len _)) i (tickD_ok hb) _ (by rw [tickD_len]; exact Nat.le_refl _)

theorem bAt_set {n : Net} {i : Nat} (hi : i < nB n) (b : Bridge) (j : Nat) : bAt (setBr n i b) j = if j = i then b else bAt n j := by
  unfold bAt setBr
  simp only [List.getD_eq_getElem?_getD]
  split
  · rename_i e; subst e; simp [hi]
  · rename_i e; rw [List.getElem?_set_ne (fun h => e h.symm)]
theorem mem_endsOf (ls : List Link) (x : Int × Int) : x ∈ endsOf ls ↔ ∃ l ∈ ls, x = (l.a, l.p) ∨ x = (l.b, l.q) := by
  simp [endsOf, List.mem_flatMap]
theorem otherL_some_mem {a p : Int} {e : Int × Int} : ∀ {ls : List Link}, otherL ls a p = some e → ∃ l ∈ ls, (l.a = a ∧ l.p = p ∧ e = (l.b, l.q)) ∨ (l.b = a ∧ l.q = p ∧ e = (l.a, l.p))
  | [], h => by simp [otherL] at h
  | l :: ls, h => by
    rw [otherL] at h
    split at h
    · rename_i h1; injection h with h; exact ⟨l, by simp, .inl ⟨h1.1, h1.2, h.symm⟩⟩
    · split at h
      · rename_i h1; injection h with h; exact ⟨l, by simp, .inr ⟨h1.1, h1.2, h.symm⟩⟩
      · obtain ⟨l', h1, h2⟩ := otherL_some_mem h
        exact ⟨l', by simp [h1], h2⟩
theorem endsOf_cons (l : Link) (ls : List Link) : endsOf (l :: ls) = (l.a, l.p) :: (l.b, l.q) :: endsOf ls := by simp [endsOf]
theorem otherL_of : ∀ {ls : List Link}, (endsOf ls).Nodup → ∀ l ∈ ls, otherL ls l.a l.p = some (l.b, l.q) ∧ otherL ls l.b l.q = some (l.a, l.p)
  | [], _, l, h => by simp at h
  | l0 :: ls, hn, l, h => by
    rw [endsOf_cons] at hn
    simp only [List.nodup_cons, List.mem_cons, not_or] at hn
    obtain ⟨⟨h1, h2⟩, h3, h4⟩ := hn
    simp only [List.mem_cons] at h
    rcases h with rfl | h
    · constructor
      · rw [otherL, if_pos ⟨rfl, rfl⟩]
      · rw [otherL, if_neg (fun hh => h1 (Prod.ext hh.1 hh.2)), if_pos ⟨rfl, rfl⟩]
    · obtain ⟨g1, g2⟩ := otherL_of h4 l h
      have m1 : (l.a, l.p) ∈ endsOf ls := (mem_endsOf _ _).2 ⟨l, h, .inl rfl⟩
      have m2 : (l.b, l.q) ∈ endsOf ls := (mem_endsOf _ _).2 ⟨l, h, .inr rfl⟩
      constructor
      · rw [otherL, if_neg (fun hh => h2 (by rw [show (l0.a, l0.p) = (l.a, l.p) from Prod.ext hh.1 hh.2]; exact m1)), if_neg (fun hh => h3 (by rw [show (l0.b, l0.q) = (l.a, l.p) from Prod.ext hh.1 hh.2]; exact m1))]
        exact g1
      · rw [otherL, if_neg (fun hh => h2 (by rw [show (l0.a, l0.p) = (l.b, l.q) from Prod.ext hh.1 hh.2]; exact m2)), if_neg (fun hh => h3 (by rw [show (l0.b, l0.q) = (l.b, l.q) from Prod.ext hh.1 hh.2]; exact m2))]
        exact g2
/-- A net is right, said by places. -/
theorem P_iff (n : Net) : n.P ↔ (1 ≤ nB n ∧ nB n ≤ 5) ∧ n.links.length ≤ 6 ∧ (∀ i, i < nB n → (bAt n i).ok = true) ∧ (∀ i j, i < j → j < nB n → idB n i ≠ idB n j) ∧
    (∀ l ∈ n.links, l.a ≠ l.b ∧ (0 ≤ l.a ∧ l.a.toNat < nB n ∧ 0 ≤ l.p ∧ l.p.toNat < nP n l.a.toNat) ∧ (0 ≤ l.b ∧ l.b.toNat < nB n ∧ 0 ≤ l.q ∧ l.q.toNat < nP n l.b.toNat)) ∧ (endsOf n.links).Nodup ∧
    ∀ i k, i < nB n → k < nP n i → ((inf n i k).up = true ↔ ((i : Int), (k : Int)) ∈ endsOf n.links) := by
  have hbs : ∀ {i : Nat} {b : Bridge}, n.bridges[i]? = some b ↔ i < nB n ∧ bAt n i = b := by
    intro i b
    constructor
    · intro h
      have h1 := (List.getElem?_eq_some_iff.1 h)
      exact ⟨h1.1, by rw [bAt_eq h1.1]; exact h1.2⟩
    · rintro ⟨h1, rfl⟩
      rw [bAt_eq h1]; exact List.getElem?_eq_getElem h1
  have hend : ∀ a p, isEndP n a p ↔ (0 ≤ a ∧ a.toNat < nB n ∧ 0 ≤ p ∧ p.toNat < nP n a.toNat) := by
    intro a p
    constructor
    · rintro ⟨i, k, b, rfl, rfl, h1, h2⟩
      obtain ⟨h3, rfl⟩ := hbs.1 h1
      exact ⟨by omega, by simpa using h3, by omega, by simpa using h2⟩
    · rintro ⟨h1, h2, h3, h4⟩
      exact ⟨a.toNat, p.toNat, bAt n a.toNat, by omega, by omega, hbs.2 ⟨h2, rfl⟩, h4⟩
  unfold Net.P
  constructor
  · rintro ⟨h1, h2, h3, h4, h5, h6, h7⟩
    refine ⟨h1, h2, fun i hi => ?_, fun i j hij hj => h4 i j _ _ hij (hbs.2 ⟨by omega, rfl⟩) (hbs.2 ⟨hj, rfl⟩), fun l hl => ?_, h6, fun i k hi hk => h7 i k _ _ (hbs.2 ⟨hi, rfl⟩) (pt_at hk)⟩
    · rw [bAt_eq hi]; exact h3 _ (List.getElem_mem hi)
    · have := h5 l hl
      rw [hend, hend] at this
      exact this
  · rintro ⟨h1, h2, h3, h4, h5, h6, h7⟩
    refine ⟨h1, h2, fun b hb => ?_, fun i j b c hij hb hc => ?_, fun l hl => ?_, h6, fun i k b p hb hp => ?_⟩
    · obtain ⟨i, hi, rfl⟩ := List.getElem_of_mem hb
      rw [← bAt_eq hi]; exact h3 i hi
    · obtain ⟨g1, rfl⟩ := hbs.1 hb
      obtain ⟨g2, rfl⟩ := hbs.1 hc
      exact h4 i j hij g2
    · rw [hend, hend]; exact h5 l hl
    · obtain ⟨g1, rfl⟩ := hbs.1 hb
      have g2 := (List.getElem?_eq_some_iff.1 hp)
      have := h7 i k g1 g2.1
      rw [show inf n i k = p from by unfold inf; rw [pt_eq g2.1]; exact g2.2] at this
      exact this
theorem P.ok {n : Net} (h : n.P) {i : Nat} (hi : i < nB n) : (bAt n i).ok = true := ((P_iff n).1 h).2.2.1 i hi
theorem P.inf_ok {n : Net} (h : n.P) {i k : Nat} (hi : i < nB n) (hk : k < nP n i) : (inf n i k).ok = true := pt_ok (P.ok h hi) hk
theorem P.id_ne {n : Net} (h : n.P) {i j : Nat} (hi : i < nB n) (hj : j < nB n) (hne : i ≠ j) : idB n i ≠ idB n j := by
  rcases Nat.lt_or_ge i j with hl | hl
  · exact ((P_iff n).1 h).2.2.2.1 i j hl hj
  · exact fun e => ((P_iff n).1 h).2.2.2.1 j i (by omega) hi e.symm
theorem peer_iff {n : Net} (h : n.P) (i k j q : Nat) : peer n i k = some (j, q) ↔ ((⟨i, k, j, q⟩ : Link) ∈ n.links ∨ (⟨j, q, i, k⟩ : Link) ∈ n.links) := by
  obtain ⟨-, -, -, -, h5, h6, -⟩ := (P_iff n).1 h
  constructor
  · intro hp
    obtain ⟨h1, -, -⟩ := peer_at (NetW.of h) hp
    obtain ⟨l, hl, hc⟩ := otherL_some_mem h1
    rcases hc with ⟨e1, e2, e3⟩ | ⟨e1, e2, e3⟩
    · injection e3 with e3 e4
      left
      have : l = ⟨i, k, j, q⟩ := by obtain ⟨a, p, b, q⟩ := l; simp at *; simp [*]
      rw [← this]; exact hl
    · injection e3 with e3 e4
      right
      have : l = ⟨j, q, i, k⟩ := by obtain ⟨a, p, b, q⟩ := l; simp at *; simp [*]
      rw [← this]; exact hl
  · rintro (hl | hl)
    · have := (otherL_of h6 _ hl).1
      simp only at this
      simp [peer, this]
    · have := (otherL_of h6 _ hl).2
      simp only at this
      simp [peer, this]
/-- What is known of the two ends of a link. -/
structure Ends (n : Net) (i k j q : Nat) : Prop where
  hi : i < nB n
  hk : k < nP n i
  hj : j < nB n
  hq : q < nP n j
  ne : i ≠ j
  id : idB n i ≠ idB n j
  back : peer n j q = some (i, k)
  up : (inf n i k).up = true
  upj : (inf n j q).up = true
theorem peer_ends {n : Net} (h : n.P) {i k j q : Nat} (hp : peer n i k = some (j, q)) : Ends n i k j q := by
  have hi := (peer_iff h i k j q).1 hp
  obtain ⟨-, -, -, -, h5, h6, h7⟩ := (P_iff n).1 h
  have key : i ≠ j ∧ (i < nB n ∧ k < nP n i) ∧ (j < nB n ∧ q < nP n j) ∧ ((i : Int), (k : Int)) ∈ endsOf n.links ∧ ((j : Int), (q : Int)) ∈ endsOf n.links := by
    rcases hi with hl | hl
    · have := h5 _ hl
      simp at this
      exact ⟨by omega, this.2.1, this.2.2, (mem_endsOf _ _).2 ⟨_, hl, .inl rfl⟩, (mem_endsOf _ _).2 ⟨_, hl, .inr rfl⟩⟩
    · have := h5 _ hl
      simp at this
      exact ⟨by omega, this.2.2, this.2.1, (mem_endsOf _ _).2 ⟨_, hl, .inr rfl⟩, (mem_endsOf _ _).2 ⟨_, hl, .inl rfl⟩⟩
  obtain ⟨k1, ⟨k2, k3⟩, ⟨k4, k5⟩, k6, k7⟩ := key
  exact ⟨k2, k3, k4, k5, k1, P.id_ne h k2 k4 k1, (peer_iff h j q i k).2 hi.symm, (h7 i k k2 k3).2 k6, (h7 j q k4 k5).2 k7⟩
theorem peer_up {n : Net} (h : n.P) {i k : Nat} (hi : i < nB n) (hk : k < nP n i) (hu : (inf n i k).up = true) : ∃ j q, peer n i k = some (j, q) := by
  obtain ⟨-, -, -, -, h5, h6, h7⟩ := (P_iff n).1 h
  obtain ⟨l, hl, hc⟩ := (mem_endsOf _ _).1 ((h7 i k hi hk).1 hu)
  have := h5 l hl
  rcases hc with hc | hc
  · injection hc with e1 e2
    refine ⟨l.b.toNat, l.q.toNat, (peer_iff h _ _ _ _).2 (.inl ?_)⟩
    have e : l = ⟨i, k, l.b.toNat, l.q.toNat⟩ := by obtain ⟨a, p, b, q⟩ := l; simp at *; omega
    rw [← e]; exact hl
  · injection hc with e1 e2
    refine ⟨l.a.toNat, l.p.toNat, (peer_iff h _ _ _ _).2 (.inr ?_)⟩
    have e : l = ⟨l.a.toNat, l.p.toNat, i, k⟩ := by obtain ⟨a, p, b, q⟩ := l; simp at *; omega
    rw [← e]; exact hl
/-- A net that has come of another: the same bridges, ports and links. -/
structure Fit (n m : Net) : Prop where
  p : m.P
  links : m.links = n.links
  len : nB m = nB n
  id : ∀ i, idB m i = idB n i
  plen : ∀ i, nP m i = nP n i
  down : ∀ i k, i < nB n → k < nP n i → (inf n i k).up = false → inf m i k = inf n i k
theorem Fit.refl {n : Net} (h : n.P) : Fit n n := ⟨h, rfl, rfl, fun _ => rfl, fun _ => rfl, fun _ _ _ _ _ => rfl⟩
theorem Fit.peer {n m : Net} (h : Fit n m) (i k : Nat) : peer m i k = W.peer n i k := by unfold W.peer; rw [h.links]
theorem inf_set {n : Net} {i : Nat} (hi : i < nB n) (b : Bridge) (j k : Nat) : inf (setBr n i b) j k = if j = i then pt b k else inf n j k := by
  unfold inf; rw [bAt_set hi]; split <;> rfl
theorem Fit.up {n m : Net} (hn : n.P) (h : Fit n m) {i k : Nat} (hi : i < nB n) (hk : k < nP n i) : (inf m i k).up = (inf n i k).up := by
  rw [Bool.eq_iff_iff, ((P_iff m).1 h.p).2.2.2.2.2.2 i k (by rw [h.len]; exact hi) (by rw [h.plen]; exact hk), ((P_iff n).1 hn).2.2.2.2.2.2 i k hi hk, h.links]
theorem Fit.set {n m : Net} (h : Fit n m) {i : Nat} (hi : i < nB n) {b : Bridge} (hb : b.ok = true) (hid : b.id = idB m i) (hl : b.ports.length = nP m i) (hu : ∀ k, k < nP m i → (pt b k).up = (inf m i k).up)
    (hd : ∀ k, k < nP m i → (inf m i k).up = false → pt b k = inf m i k) : Fit n (setBr m i b) := by
  have him : i < nB m := by rw [h.len]; exact hi
  have hlen : nB (setBr m i b) = nB m := by simp [nB, setBr]
  have hids : ∀ j, idB (setBr m i b) j = idB m j := by
    intro j; unfold idB; rw [bAt_set him]; split
    · rename_i e; subst e; exact hid
    · rfl
  have hps : ∀ j, nP (setBr m i b) j = nP m j := by
    intro j; unfold nP; rw [bAt_set him]; split
    · rename_i e; subst e; exact hl
    · rfl
  obtain ⟨h1, h2, h3, h4, h5, h6, h7⟩ := (P_iff m).1 h.p
  refine ⟨(P_iff _).2 ⟨by rw [hlen]; exact h1, h2, fun j hj => ?_, fun j k hjk hk => ?_, fun l hl => ?_, h6, fun j k hj hk => ?_⟩, h.links, by rw [hlen, h.len], fun j => by rw [hids, h.id], fun j => by rw [hps, h.plen], fun j k hj hk hu' => ?_⟩
  · rw [bAt_set him]; split
    · exact hb
    · rw [hlen] at hj; exact h3 j hj
  · rw [hids, hids]; rw [hlen] at hk; exact h4 j k hjk hk
  · rw [hlen, hps, hps]; exact h5 l hl
  · rw [hlen] at hj; rw [hps] at hk
    show _ ↔ _ ∈ endsOf m.links
    rw [← h7 j k hj hk, inf_set him]
    split
    · rename_i e; subst e; rw [hu k hk]
    · exact Iff.rfl
  · rw [inf_set him]
    have hd0 := h.down j k hj hk hu'
    split
    · rename_i e; subst e
      rw [hd k (by rw [h.plen]; exact hk) (by rw [hd0]; exact hu'), hd0]
    · exact hd0
theorem tickP_down {p : Port} (hp : p.ok = true) (hu : p.up = false) : tickP p = p := by
  obtain ⟨a1, a2, ⟨b1, b2, b3, b4⟩, a4, a5, a6, a7, a8⟩ := p
  cases a2
  · simp [Port.ok] at hp
    simp at hu
    subst hu
    simp [tickP, fadeP, tickW]
    simp_all [openBy]
  · simp [Port.ok, show a1 = false from hu] at hp
theorem decP_down (b : Bridge) (k : Nat) {p : Port} (hu : p.up = false) : decP b k p = p := by unfold decP; rw [if_neg (by simp [hu])]
theorem Fit.tick {n m : Net} (h : Fit n m) {i : Nat} (hi : i < nB n) : Fit n (tickN m i) := by
  have hb := P.ok h.p (i := i) (by rw [h.len]; exact hi)
  refine h.set hi (tickD_ok hb) rfl (tickD_len _) (fun k hk => ?_) (fun k hk hu => ?_)
  · rw [tickD_pt hk, (decP_info _ _ _).1, tickP_up]; rfl
  · rw [tickD_pt hk]
    have hu2 : (pt (bAt m i) k).up = false := hu
    rw [tickP_down (pt_ok hb hk) hu2, decP_down _ _ hu2]; rfl
theorem claimP_down {p : Port} (hu : p.up = false) (v : Vec) (h : Int) : claimP p v h = p := by unfold claimP; rw [if_pos (by simp [hu])]
theorem Fit.hear {n m : Net} (h : Fit n m) {j q : Nat} (hj : j < nB n) (hq : q < nP n j) (v : Vec) (ho : Int) : Fit n (hearN m j q v ho) := by
  have hb := P.ok h.p (i := j) (by rw [h.len]; exact hj)
  have hq' : q < (bAt m j).ports.length := by have := h.plen j; unfold nP at this hq; omega
  refine h.set hj (hearD_ok hb hq' v ho) rfl (hearD_len _ _ _ _) (fun k hk => ?_) (fun k hk hu => ?_)
  · rw [hearD_pt hk, (decP_info _ _ _).1]
    split
    · rename_i e; subst e; rw [claimP_up]; rfl
    · rfl
  · rw [hearD_pt hk]
    have hu2 : (pt (bAt m j) k).up = false := hu
    split
    · rename_i e; subst e
      rw [claimP_down hu2, decP_down _ _ hu2]; rfl
    · rw [decP_down _ _ hu2]; rfl

/-- A round, bridge by bridge and port by port. -/
theorem round_rule {n m0 : Net} (hf : Fit n m0) (I : Nat → Net → Prop) (J : Nat → Nat → Net → Prop) (h0 : I 0 m0)
    (hT : ∀ i m, i < nB n → Fit n m → I i m → J i 0 (tickN m i))
    (hS : ∀ i k m j q, i < nB n → k < nP n i → Fit n m → Decd (bAt m i) → J i k m → (inf m i k).role = 2 → peer n i k = some (j, q) → J i (k + 1) (hearN m j q (ownV (bAt m i) k) (hopsB (bAt m i))))
    (hN : ∀ i k m, i < nB n → k < nP n i → Fit n m → Decd (bAt m i) → J i k m → ((inf m i k).role ≠ 2 ∨ peer n i k = none) → J i (k + 1) m)
    (hE : ∀ i m, i < nB n → Fit n m → J i (nP n i) m → I (i + 1) m) (hn : n.P) : Fit n (roundN m0) ∧ I (nB n) (roundN m0) := by
  have inner : ∀ i m, i < nB n → Fit n m → I i m → ∀ k, k ≤ nP n i → Fit n (sendU i (tickD (bAt m i)) (tickN m i) k) ∧ J i k (sendU i (tickD (bAt m i)) (tickN m i) k) ∧ bAt (sendU i (tickD (bAt m i)) (tickN m i) k) i = tickD (bAt m i) := by
    intro i m hi hfm hI k
    have him : i < nB m := by rw [hfm.len]; exact hi
    induction k with
    | zero => exact fun _ => ⟨hfm.tick hi, hT i m hi hfm hI, by show bAt (setBr m i _) i = _; rw [bAt_set him, if_pos rfl]⟩
    | succ k ih =>
      intro hk
      obtain ⟨h1, h2, h3⟩ := ih (by omega)
      rw [sendU]
      generalize hm' : sendU i (tickD (bAt m i)) (tickN m i) k = m' at h1 h2 h3 ⊢
      have hb := P.ok hfm.p him
      have hd : Decd (bAt m' i) := by rw [h3]; exact tickD_decd hb
      have hpe := h1.peer i k
      unfold send1
      have hin : (pt (tickD (bAt m i)) k).role = (inf m' i k).role := by unfold inf; rw [h3]
      rw [hin, hpe]
      by_cases hr : (inf m' i k).role = 2
      · rw [if_pos hr]
        cases hp : peer n i k with
        | none => exact ⟨h1, hN i k m' hi (by omega) h1 hd h2 (.inr hp), h3⟩
        | some e =>
          obtain ⟨j, q⟩ := e
          have he := peer_ends hn hp
          have hjm : j < nB m' := by rw [h1.len]; exact he.hj
          have := hS i k m' j q hi (by omega) h1 hd h2 hr hp
          rw [h3] at this
          exact ⟨h1.hear he.hj he.hq _ _, this, by show bAt (setBr m' j _) i = _; rw [bAt_set hjm, if_neg he.ne]; exact h3⟩
      · rw [if_neg hr]
        exact ⟨h1, hN i k m' hi (by omega) h1 hd h2 (.inl hr), h3⟩
  have outer : ∀ i, i ≤ nB n → Fit n (roundU m0 i) ∧ I i (roundU m0 i) := by
    intro i
    induction i with
    | zero => exact fun _ => ⟨hf, h0⟩
    | succ i ih =>
      intro hi
      obtain ⟨h1, h2⟩ := ih (by omega)
      rw [roundU, roundAt_eq (NetW.of h1.p) (by rw [h1.len]; omega), h1.plen]
      obtain ⟨g1, g2, -⟩ := inner i _ (by omega) h1 h2 _ (Nat.le_refl _)
      exact ⟨g1, hE i _ (by omega) g1 g2⟩
  have := outer (nB n) (Nat.le_refl _)
  unfold roundN
  rw [show m0.bridges.length = nB n from hf.len]
  exact this
theorem inf_tick_ne {m : Net} {i j : Nat} (hi : i < nB m) (h : j ≠ i) (k : Nat) : inf (tickN m i) j k = inf m j k := by
  unfold tickN; rw [inf_set hi, if_neg h]
theorem inf_tick {m : Net} {i k : Nat} (hi : i < nB m) (hk : k < nP m i) : SameInfo (tickP (inf m i k)) (inf (tickN m i) i k) := by
  unfold tickN; rw [inf_set hi, if_pos rfl, tickD_pt hk]; exact decP_same _ _ _
theorem inf_hear_ne {m : Net} {j q j' k' : Nat} (hj : j < nB m) (hk : k' < nP m j') (h : ¬ (j' = j ∧ k' = q)) (v : Vec) (ho : Int) : SameInfo (inf m j' k') (inf (hearN m j q v ho) j' k') := by
  unfold hearN; rw [inf_set hj]
  split
  · rename_i e; subst e
    rw [hearD_pt hk, if_neg (fun e => h ⟨rfl, e⟩)]; exact decP_same _ _ _
  · exact ⟨rfl, rfl, rfl, rfl⟩
theorem inf_hear {m : Net} {j q : Nat} (hj : j < nB m) (hq : q < nP m j) (v : Vec) (ho : Int) : SameInfo (claimP (inf m j q) v ho) (inf (hearN m j q v ho) j q) := by
  unfold hearN; rw [inf_set hj, if_pos rfl, hearD_pt hq, if_pos rfl]; exact decP_same _ _ _

/-- A row of links from one bridge to another. -/
inductive Wk (n : Net) : Nat → Nat → Nat → Prop where
  | nil {i : Nat} : i < nB n → Wk n 0 i i
  | cons {i k j q d r : Nat} : peer n i k = some (j, q) → Wk n d j r → Wk n (d + 1) i r
/-- What is heard at a port has come of a bridge that is its own root. -/
def Gen (n : Net) (i k : Nat) (v : Vec) (h : Int) : Prop := ∃ j q r d : Nat, peer n i k = some (j, q) ∧ v = ⟨idB n r, d, idB n j, q⟩ ∧ h = d ∧ Wk n d j r
def GA (n : Net) (T : Nat → Int) (m : Net) : Prop := ∀ i k, i < nB n → k < nP n i → (inf m i k).has = true → Gen n i k (inf m i k).vec (inf m i k).hops ∨ T i + (inf m i k).left ≤ 3 + 2 * (inf m i k).hops
theorem GA.mono {n m : Net} {T T' : Nat → Int} (h : GA n T m) (ht : ∀ i, i < nB n → T' i ≤ T i) : GA n T' m := fun i k hi hk hh => by
  rcases h i k hi hk hh with h | h
  · exact .inl h
  · have := ht i hi; exact .inr (by omega)
theorem GA.tick {n m : Net} {T T' : Nat → Int} (hf : Fit n m) (h : GA n T m) {i : Nat} (hi : i < nB n) (h1 : T' i ≤ T i + 1) (h2 : ∀ j, j ≠ i → T' j ≤ T j) : GA n T' (tickN m i) := by
  intro j k hj hk hh
  have him : i < nB m := by rw [hf.len]; exact hi
  by_cases e : j = i
  · subst e
    have hkm : k < nP m j := by rw [hf.plen]; exact hk
    have hs := inf_tick him hkm
    have hpo := P.inf_ok hf.p him hkm
    rw [hs.has] at hh
    obtain ⟨g1, g2, g3, g4⟩ := tickP_none hpo hh
    rw [hs.vec, hs.hops, hs.left, g2, g3, g4]
    rcases h j k hj hk g1 with h | h
    · exact .inl h
    · exact .inr (by omega)
  · rw [inf_tick_ne him e] at hh ⊢
    rcases h j k hj hk hh with h | h
    · exact .inl h
    · have := h2 j e; exact .inr (by omega)
theorem msg_gen {n m : Net} (hn : n.P) (hf : Fit n m) {i k j q : Nat} (hp : peer n i k = some (j, q)) (h : ∀ r : Nat, rootAt (bAt m i) = r → Gen n i r (inf m i r).vec (inf m i r).hops) : Gen n j q (ownV (bAt m i) k) (hopsB (bAt m i)) := by
  have he := peer_ends hn hp
  by_cases hr : rootAt (bAt m i) < 0
  · rw [ownV_neg hr, hopsB_neg hr]
    refine ⟨i, k, i, 0, he.back, ?_, rfl, .nil he.hi⟩
    have : (bAt m i).id = idB n i := hf.id i
    rw [this]; rfl
  · obtain ⟨r, hr1, -, -⟩ := rootAt_is (b := bAt m i) (by omega)
    obtain ⟨j', q', r', d, h1, h2, h3, h4⟩ := h r hr1
    rw [ownV_pos hr1, hopsB_pos hr1]
    have h2' : (pt (bAt m i) r).vec = ⟨idB n r', d, idB n j', q'⟩ := h2
    have h3' : (pt (bAt m i) r).hops = d := h3
    refine ⟨i, k, r', d + 1, he.back, ?_, by rw [h3']; omega, .cons h1 h4⟩
    have : (bAt m i).id = idB n i := hf.id i
    rw [h2', this]; simp
theorem GA.hear {n m : Net} {T : Nat → Int} (hn : n.P) (hf : Fit n m) (h : GA n T m) {i k j q : Nat} (hp : peer n i k = some (j, q)) (hT : T j ≤ T i) : GA n T (hearN m j q (ownV (bAt m i) k) (hopsB (bAt m i))) := by
  have he := peer_ends hn hp
  have hjm : j < nB m := by rw [hf.len]; exact he.hj
  intro j' k' hj hk hh
  by_cases e : j' = j ∧ k' = q
  · obtain ⟨rfl, rfl⟩ := e
    have hs := inf_hear hjm (by rw [hf.plen]; exact hk) (ownV (bAt m i) k) (hopsB (bAt m i))
    rw [hs.has] at hh
    rw [hs.vec, hs.hops, hs.left]
    rcases claimP_cases (inf m j' k') (ownV (bAt m i) k) (hopsB (bAt m i)) with hc | hc
    · rw [hc] at hh ⊢; exact h j' k' hj hk hh
    · rw [hc]
      simp only
      by_cases hg : ∀ r : Nat, rootAt (bAt m i) = r → Gen n i r (inf m i r).vec (inf m i r).hops
      · exact .inl (msg_gen hn hf hp hg)
      · have ⟨r, hr⟩ := Classical.not_forall.1 hg
        have ⟨hr1, hr2⟩ := Classical.not_imp.1 hr
        have him : i < nB m := by rw [hf.len]; exact he.hi
        obtain ⟨r', e1, e2, e3⟩ := rootAt_is (b := bAt m i) (by omega)
        obtain rfl : r = r' := by omega
        have hok := P.inf_ok hf.p him e2
        have hsk := skip_no.1 e3
        have hh := Port.ok_has hok hsk.1
        rw [hopsB_pos hr1]
        rcases h i r he.hi (by rw [← hf.plen]; exact e2) hsk.1 with h | h
        · exact absurd h hr2
        · refine .inr ?_
          have h8 : (pt (bAt m i) r).hops = (inf m i r).hops := rfl
          omega
  · have hs := inf_hear_ne hjm (by rw [hf.plen]; exact hk) e (ownV (bAt m i) k) (hopsB (bAt m i))
    rw [hs.has] at hh
    rw [hs.vec, hs.hops, hs.left]
    exact h j' k' hj hk hh
def tkU (i : Nat) (t : Int) (x : Nat) : Int := if x < i then t + 1 else t
theorem GA.round {n m : Net} (hn : n.P) (hf : Fit n m) {t : Int} (h : GA n (fun _ => t) m) : Fit n (roundN m) ∧ GA n (fun _ => t + 1) (roundN m) := by
  have := round_rule hf (fun i m => GA n (tkU i t) m) (fun i k m => GA n (tkU (i + 1) t) m) (h.mono fun i _ => by simp [tkU])
    (fun i m hi hf h => h.tick hf hi (by simp [tkU]) (fun j hj => by unfold tkU; split <;> split <;> omega))
    (fun i k m j q hi hk hf _ h _ hp => h.hear hn hf hp (by unfold tkU; split <;> split <;> omega))
    (fun i k m hi hk hf _ h _ => h) (fun i m hi hf h => h) hn
  exact ⟨this.1, this.2.mono fun i hi => by unfold tkU; rw [if_pos hi]; omega⟩
/-- So many rounds. -/
def stN (n : Net) (t : Nat) : Net := Nat.repeat roundN t n
theorem stN_succ (n : Net) (t : Nat) : stN n (t + 1) = roundN (stN n t) := rfl
theorem tkU_in {x i : Nat} (h : x < i) (t : Int) : tkU i t x = t + 1 := by unfold tkU; rw [if_pos h]
theorem tkU_out {x i : Nat} (h : ¬ x < i) (t : Int) : tkU i t x = t := by unfold tkU; rw [if_neg h]
theorem stN_ga {n : Net} (hn : n.P) : ∀ t : Nat, Fit n (stN n t) ∧ GA n (fun _ => t) (stN n t)
  | 0 => ⟨Fit.refl hn, fun i k hi hk hh => .inr (by
      have := Port.ok_has (P.inf_ok hn hi hk) hh
      show ((0 : Nat) : Int) + _ ≤ _
      simp only [stN, Nat.repeat]; omega)⟩
  | t + 1 => by
    obtain ⟨h1, h2⟩ := stN_ga hn t
    have := GA.round hn h1 h2
    rw [stN_succ]
    exact ⟨this.1, this.2.mono fun i _ => by omega⟩
abbrev AllGen (n m : Net) : Prop := GA n (fun _ => 1000) m
theorem AllGen.at {n m : Net} (hf : Fit n m) (h : AllGen n m) {i k : Nat} (hi : i < nB n) (hk : k < nP n i) (hh : (inf m i k).has = true) : Gen n i k (inf m i k).vec (inf m i k).hops := by
  have := Port.ok_has (P.inf_ok hf.p (by rw [hf.len]; exact hi) (by rw [hf.plen]; exact hk)) hh
  rcases h i k hi hk hh with h | h
  · exact h
  · simp only at h; omega
theorem allGen_of {n m : Net} (hf : Fit n m) {t : Nat} (ht : 19 ≤ t) (h : GA n (fun _ => t) m) : AllGen n m := by
  intro i k hi hk hh
  have := Port.ok_has (P.inf_ok hf.p (by rw [hf.len]; exact hi) (by rw [hf.plen]; exact hk)) hh
  rcases h i k hi hk hh with h | h
  · exact .inl h
  · simp only at h; omega

/-- For each bridge: the least number among those that it is linked to, directly or not, and how far that one is. -/
structure Best (n : Net) (M : Nat → Int) (D : Nat → Nat) : Prop where
  ex : ∀ i, i < nB n → ∃ r, Wk n (D i) i r ∧ idB n r = M i
  le : ∀ i r d, Wk n d i r → M i < idB n r ∨ (M i = idB n r ∧ D i ≤ d)
theorem Wk.ends {n : Net} (hn : n.P) {d i r : Nat} (h : Wk n d i r) : i < nB n ∧ r < nB n := by
  induction h with
  | nil h => exact ⟨h, h⟩
  | cons h1 _ ih => exact ⟨(peer_ends hn h1).hi, ih.2⟩
theorem least {P : Nat → Prop} (h : ∃ x, P x) : ∃ x, P x ∧ ∀ y, P y → x ≤ y := by
  obtain ⟨x, hx⟩ := h
  induction x using Nat.strongRecOn with
  | _ x ih =>
    by_cases hy : ∃ y, y < x ∧ P y
    · obtain ⟨y, h1, h2⟩ := hy; exact ih y h1 h2
    · exact ⟨x, hx, fun y hp => Nat.not_lt.1 fun hl => hy ⟨y, hl, hp⟩⟩
theorem best_one {n : Net} (hn : n.P) (i : Nat) : ∃ (m : Int) (d : Nat), (i < nB n → ∃ r, Wk n d i r ∧ idB n r = m) ∧ (∀ r e, Wk n e i r → m < idB n r ∨ (m = idB n r ∧ d ≤ e)) := by
  by_cases hi : i < nB n
  · have h1 : ∃ x : Nat, ∃ r e, Wk n e i r ∧ (idB n r).toNat = x := ⟨_, i, 0, .nil hi, rfl⟩
    obtain ⟨x, ⟨r, e, h2, h3⟩, h4⟩ := least h1
    have h5 : ∃ d : Nat, ∃ r, Wk n d i r ∧ (idB n r).toNat = x := ⟨e, r, h2, h3⟩
    obtain ⟨d, ⟨r', h6, h7⟩, h8⟩ := least h5
    have pos : ∀ {r d}, Wk n d i r → 1 ≤ idB n r := fun hw => by
      have := (Bridge.ok_all (P.ok hn (Wk.ends hn hw).2)).2.1
      exact this
    refine ⟨idB n r', d, fun _ => ⟨r', h6, rfl⟩, fun r2 e2 h9 => ?_⟩
    have g1 := h4 _ ⟨r2, e2, h9, rfl⟩
    have g2 := pos h6
    have g3 := pos h9
    rcases Nat.lt_or_ge x (idB n r2).toNat with g | g
    · left; omega
    · right; exact ⟨by omega, h8 _ ⟨r2, h9, by omega⟩⟩
  · exact ⟨0, 0, fun h => absurd h hi, fun r e h => absurd (Wk.ends hn h).1 hi⟩
theorem best_ex {n : Net} (hn : n.P) : ∃ M D, Best n M D := by
  have h1 := fun i => best_one hn i
  refine ⟨fun i => Classical.choose (h1 i), fun i => Classical.choose (Classical.choose_spec (h1 i)), fun i hi => ?_, fun i r d h => ?_⟩
  · exact (Classical.choose_spec (Classical.choose_spec (h1 i))).1 hi
  · exact (Classical.choose_spec (Classical.choose_spec (h1 i))).2 r d h
theorem Best.nb {n : Net} {M D} (hn : n.P) (hb : Best n M D) {i k j q : Nat} (h : peer n i k = some (j, q)) : M i = M j ∧ D i ≤ D j + 1 ∧ D j ≤ D i + 1 := by
  have he := peer_ends hn h
  obtain ⟨r, h1, h2⟩ := hb.ex j he.hj
  obtain ⟨r', h3, h4⟩ := hb.ex i he.hi
  have g1 := hb.le _ _ _ (.cons h h1)
  have g2 := hb.le _ _ _ (.cons he.back h3)
  rw [h2] at g1
  rw [h4] at g2
  omega
theorem Best.zero {n : Net} {M D} (hn : n.P) (hb : Best n M D) {i : Nat} (hi : i < nB n) : D i = 0 ↔ M i = idB n i := by
  constructor
  · intro h
    obtain ⟨r, h1, h2⟩ := hb.ex i hi
    rw [h] at h1
    cases h1 with
    | nil _ => exact h2.symm
  · intro h
    have := hb.le _ _ _ (.nil hi)
    omega
theorem Best.pos {n : Net} {M D} (hn : n.P) (hb : Best n M D) {i : Nat} (hi : i < nB n) (h : D i ≠ 0) : M i < idB n i := by
  have := hb.le _ _ _ (.nil hi)
  omega
theorem Best.up {n : Net} {M D} (hn : n.P) (hb : Best n M D) {i d : Nat} (hi : i < nB n) (h : D i = d + 1) : ∃ k j q, peer n i k = some (j, q) ∧ D j = d := by
  obtain ⟨r, h1, h2⟩ := hb.ex i hi
  rw [h] at h1
  cases h1 with
  | cons h3 h4 =>
    rename_i k j q
    refine ⟨k, j, q, h3, ?_⟩
    have g1 := hb.nb hn h3
    have g2 := hb.le _ _ _ h4
    omega
theorem pigeon : ∀ (N : Nat) (f : Nat → Nat), (∀ e, e ≤ N → f e < N) → ∃ a b, a < b ∧ b ≤ N ∧ f a = f b
  | 0, f, h => absurd (h 0 (Nat.le_refl _)) (by omega)
  | N + 1, f, h => by
    by_cases hv : ∃ a, a ≤ N ∧ f a = f (N + 1)
    · obtain ⟨a, h1, h2⟩ := hv; exact ⟨a, N + 1, by omega, by omega, h2⟩
    · have hne : ∀ a, a ≤ N → f a ≠ f (N + 1) := fun a ha e => hv ⟨a, ha, e⟩
      have hl := h (N + 1) (Nat.le_refl _)
      obtain ⟨a, b, h1, h2, h3⟩ := pigeon N (fun e => if f e > f (N + 1) then f e - 1 else f e) (fun e he => by
        have := h e (by omega); have := hne e he
        split <;> omega)
      refine ⟨a, b, h1, by omega, ?_⟩
      have g1 := hne a (by omega)
      have g2 := hne b h2
      split at h3 <;> split at h3 <;> omega
theorem Best.small {n : Net} {M D} (hn : n.P) (hb : Best n M D) {i : Nat} (hi : i < nB n) : D i ≤ 4 := by
  have hN := ((P_iff n).1 hn).1
  have all : ∀ d i, i < nB n → D i = d → ∀ e, e ≤ d → ∃ x, x < nB n ∧ D x = e := by
    intro d
    induction d with
    | zero => intro i hi h e he; exact ⟨i, hi, by omega⟩
    | succ d ih =>
      intro i hi h e he
      by_cases e1 : e = d + 1
      · exact ⟨i, hi, by omega⟩
      · obtain ⟨k, j, q, h1, h2⟩ := hb.up hn hi h
        exact ih j (peer_ends hn h1).hj h2 e (by omega)
  refine Nat.not_lt.1 fun hl => ?_
  have h1 : ∀ e, ∃ x, e ≤ D i → x < nB n ∧ D x = e := fun e => by
    by_cases he : e ≤ D i
    · obtain ⟨x, hx⟩ := all _ i hi rfl e he; exact ⟨x, fun _ => hx⟩
    · exact ⟨0, fun h => absurd h he⟩
  obtain ⟨a, b, h2, h3, h4⟩ := pigeon (nB n) (fun e => Classical.choose (h1 e)) (fun e he => (Classical.choose_spec (h1 e) (by omega)).1)
  have g1 := (Classical.choose_spec (h1 a) (by omega)).2
  have g2 := (Classical.choose_spec (h1 b) (by omega)).2
  rw [h4] at g1
  omega
/-- Which of two linked bridges is the one that is listened to. -/
def leads (n : Net) (D : Nat → Nat) (i j : Nat) : Prop := D i < D j ∨ (D i = D j ∧ idB n i < idB n j)
theorem leads_or {n : Net} (hn : n.P) (D : Nat → Nat) {i k j q : Nat} (h : peer n i k = some (j, q)) : leads n D i j ∨ leads n D j i := by
  have := (peer_ends hn h).id
  unfold leads
  omega
theorem leads_not {n : Net} {D : Nat → Nat} {i j : Nat} (h : leads n D i j) : ¬ leads n D j i := by unfold leads at *; omega
/-- A port has heard what the bridge at the other end truly is. -/
def Fed (n : Net) (M : Nat → Int) (D : Nat → Nat) (m : Net) (i k c q : Nat) : Prop := (inf m i k).has = true ∧ (inf m i k).vec = ⟨M c, D c, idB n c, q⟩ ∧ (inf m i k).hops = D c
def RightB (n : Net) (M : Nat → Int) (D : Nat → Nat) (m : Net) (i : Nat) : Prop := (∀ p, ownV (bAt m i) p = ⟨M i, D i, idB n i, p⟩) ∧ hopsB (bAt m i) = D i ∧ ∀ r : Nat, rootAt (bAt m i) = r → (inf m i r).vec.cost + 1 = D i ∧ (inf m i r).vec.root = M i ∧ r < nP n i ∧ (inf m i r).has = true
theorem right_of {n m : Net} {M D} (hn : n.P) (hb : Best n M D) (hf : Fit n m) (hg : AllGen n m) {i : Nat} (hi : i < nB n) (h : D i = 0 ∨ ∃ k c q, peer n i k = some (c, q) ∧ D c + 1 = D i ∧ Fed n M D m i k c q) : RightB n M D m i := by
  have him : i < nB m := by rw [hf.len]; exact hi
  have hid : (bAt m i).id = idB n i := hf.id i
  rcases h with h | ⟨k, c, q, h1, h2, h3, h4, h5⟩
  · have hr : rootAt (bAt m i) < 0 := by
      refine Int.not_le.1 fun hr => ?_
      obtain ⟨r, e1, e2, e3⟩ := rootAt_is hr
      obtain ⟨s1, s2, s3, s4, s5⟩ := skip_no.1 e3
      obtain ⟨j', q', r', d, g1, g2, g3, g4⟩ := hg.at hf hi (by rw [← hf.plen]; exact e2) s1
      have g2' : (pt (bAt m i) r).vec = ⟨idB n r', d, idB n j', q'⟩ := g2
      rw [g2', hid] at s3
      simp only at s3
      have := hb.le _ _ _ (.cons g1 g4)
      have := (hb.zero hn hi).1 h
      omega
    refine ⟨fun p => ?_, ?_, fun r hr2 => by omega⟩
    · rw [ownV_neg hr, hid, (hb.zero hn hi).1 h, h]; rfl
    · rw [hopsB_neg hr, h]; rfl
  · have he := peer_ends hn h1
    have hnb := hb.nb hn h1
    have hsm := hb.small hn hi
    have hk : k < (bAt m i).ports.length := by have := hf.plen i; have := he.hk; unfold nP at *; omega
    have h3' : (pt (bAt m i) k).has = true := h3
    have h4' : (pt (bAt m i) k).vec = ⟨M c, D c, idB n c, q⟩ := h4
    have h5' : (pt (bAt m i) k).hops = D c := h5
    have hsk : rootSkip (bAt m i) (pt (bAt m i) k) = false := by
      rw [skip_no, h4', h5', hid]
      have := hb.pos hn hi (by omega)
      refine ⟨h3', ?_, ?_, ?_, ?_⟩
      · exact fun e => he.id e.symm
      · simp only; omega
      · simp only; omega
      · omega
    obtain ⟨r0, rb⟩ := rootAt_of _ hk hsk
    obtain ⟨r, e1, e2, e3⟩ := rootAt_is r0
    obtain ⟨s1, s2, s3, s4, s5⟩ := skip_no.1 e3
    have e2n : r < nP n i := by rw [← hf.plen]; exact e2
    obtain ⟨j', q', r', d, g1, g2, g3, g4⟩ := hg.at hf hi e2n s1
    have g2' : (pt (bAt m i) r).vec = ⟨idB n r', d, idB n j', q'⟩ := g2
    have g3' : (pt (bAt m i) r).hops = d := g3
    have hle := hb.le _ _ _ (.cons g1 g4)
    rw [e1] at rb
    rw [show (r : Int).toNat = r from rfl, h4', g2', better_no] at rb
    simp only at rb
    have k1 : M i = idB n r' := by omega
    have k2 : d + 1 = D i := by omega
    refine ⟨fun p => ?_, ?_, fun r2 hr2 => ?_⟩
    · rw [ownV_pos e1, g2', hid]
      simp only [Vec.mk.injEq, and_true]
      omega
    · rw [hopsB_pos e1, g3']; omega
    · obtain rfl : r2 = r := by omega
      rw [g2]
      simp only
      exact ⟨by omega, k1.symm, e2n, s1⟩
theorem des_of {n m : Net} {M D} (hn : n.P) (hb : Best n M D) (hf : Fit n m) (hg : AllGen n m) {i k j q : Nat} (hp : peer n i k = some (j, q)) (hr : RightB n M D m i) (hl : leads n D i j) : roleB (bAt m i) k (inf m i k) = 2 := by
  have he := peer_ends hn hp
  have hnb := hb.nb hn hp
  have gen : (inf m i k).has = true → ∃ r' d : Nat, (inf m i k).vec = ⟨idB n r', d, idB n j, q⟩ ∧ (M j < idB n r' ∨ (M j = idB n r' ∧ D j ≤ d)) := fun hh => by
    obtain ⟨j', q', r', d, g1, g2, g3, g4⟩ := hg.at hf he.hi he.hk hh
    rw [hp] at g1
    injection g1 with g1; injection g1 with g1 g1'
    subst g1 g1'
    exact ⟨r', d, g2, hb.le _ _ _ g4⟩
  have hid := he.id
  unfold leads at hl
  unfold roleB
  rw [if_neg, if_neg]
  · intro hh
    rw [Bool.and_eq_true] at hh
    obtain ⟨r', d, g1, g2⟩ := gen hh.1
    have := hh.2
    rw [hr.1, g1, better_iff] at this
    simp only at this
    omega
  · intro hh
    obtain ⟨c1, c2, -, c3⟩ := hr.2.2 k hh.symm
    obtain ⟨r', d, g1, g2⟩ := gen c3
    rw [g1] at c1 c2
    simp only at c1 c2
    omega
theorem hears_of {n m : Net} {M D} (hn : n.P) (hb : Best n M D) (hf : Fit n m) {i k j q : Nat} (hp : peer n i k = some (j, q)) (hr : RightB n M D m i) (hl : leads n D j i) (hfed : Fed n M D m i k j q) : roleB (bAt m i) k (inf m i k) = if (k : Int) = rootAt (bAt m i) then 1 else 3 := by
  have hnb := hb.nb hn hp
  have hid := (peer_ends hn hp).id
  obtain ⟨h1, h2, h3⟩ := hfed
  unfold leads at hl
  unfold roleB
  split
  · rfl
  · rw [if_pos]
    rw [Bool.and_eq_true]
    refine ⟨h1, ?_⟩
    rw [hr.1, h2, better_iff]
    simp only
    omega

/-- What ports have heard of the bridges that lead, up to a distance: tk: which bridges have ticked in this round; st: which ports have sent. -/
def FedS (n : Net) (M : Nat → Int) (D : Nat → Nat) (d : Nat) (tk : Nat → Prop) (st : Nat → Nat → Prop) (m : Net) : Prop := ∀ i k c q, peer n i k = some (c, q) → leads n D c i → D c ≤ d →
  (st c q → Fed n M D m i k c q ∧ (((c < i ∧ tk i) → (inf m i k).left = 2) ∧ (¬ (c < i ∧ tk i) → (inf m i k).left = 3))) ∧
  (¬ st c q → D c < d → Fed n M D m i k c q ∧ 1 ≤ (inf m i k).left ∧ (¬ tk i → 2 ≤ (inf m i k).left))
theorem FedS.right {n m : Net} {M D d tk st} (hn : n.P) (hb : Best n M D) (hf : Fit n m) (hg : AllGen n m) (h : FedS n M D d tk st m) {c : Nat} (hc : c < nB n) (hd : D c ≤ d) : RightB n M D m c := by
  refine right_of hn hb hf hg hc ?_
  by_cases h0 : D c = 0
  · exact .inl h0
  · obtain ⟨k, j, q, h1, h2⟩ := hb.up hn hc (d := D c - 1) (by omega)
    refine .inr ⟨k, j, q, h1, by omega, ?_⟩
    obtain ⟨g1, g2⟩ := h c k j q h1 (by unfold leads; omega) (by omega)
    by_cases hs : st j q
    · exact (g1 hs).1
    · exact (g2 hs (by omega)).1
theorem Fed.same {n m m' : Net} {M D} {i k c q : Nat} (hs : SameInfo (inf m i k) (inf m' i k)) (h : Fed n M D m i k c q) : Fed n M D m' i k c q := ⟨by rw [hs.has]; exact h.1, by rw [hs.vec]; exact h.2.1, by rw [hs.hops]; exact h.2.2⟩
theorem FedS.tick {n m : Net} {M D d} (hf : Fit n m) {x : Nat} (hx : x < nB n) (hn : n.P) (h : FedS n M D d (fun i => i < x) (fun c _ => c < x) m) : FedS n M D d (fun i => i < x + 1) (fun c q => c < x ∨ (c = x ∧ q < 0)) (tickN m x) := by
  intro i k c q hp hl hd
  have he := peer_ends hn hp
  have hxm : x < nB m := by rw [hf.len]; exact hx
  obtain ⟨g1, g2⟩ := h i k c q hp hl hd
  have hne := he.ne
  by_cases e : i = x
  · subst e
    have hkm : k < nP m i := by rw [hf.plen]; exact he.hk
    have hs := inf_tick hxm hkm
    have hpo := P.inf_ok hf.p hxm hkm
    have keep : Fed n M D m i k c q → 2 ≤ (inf m i k).left → Fed n M D (tickN m i) i k c q ∧ (inf (tickN m i) i k).left = (inf m i k).left - 1 := fun hfe hle => by
      obtain ⟨t1, t2, t3, t4⟩ := tickP_keep hpo hfe.1 hle
      refine ⟨⟨by rw [hs.has]; exact t1, by rw [hs.vec, t2]; exact hfe.2.1, by rw [hs.hops, t3]; exact hfe.2.2⟩, by rw [hs.left, t4]⟩
    refine ⟨fun hst => ?_, fun hst hd' => ?_⟩
    · obtain ⟨f1, f2, f3⟩ := g1 (by omega)
      have f3 := f3 (by omega)
      obtain ⟨k1, k2⟩ := keep f1 (by omega)
      exact ⟨k1, fun _ => by omega, fun hh => by omega⟩
    · obtain ⟨f1, f2, f3⟩ := g2 (by omega) hd'
      have f3 := f3 (by omega)
      obtain ⟨k1, k2⟩ := keep f1 f3
      exact ⟨k1, by omega, fun hh => by omega⟩
  · have hi := inf_tick_ne hxm e k
    have hsame : SameInfo (inf m i k) (inf (tickN m x) i k) := by rw [hi]; exact ⟨rfl, rfl, rfl, rfl⟩
    rw [hi]
    refine ⟨fun hst => ?_, fun hst hd' => ?_⟩
    · obtain ⟨f1, f2, f3⟩ := g1 (by omega)
      exact ⟨f1.same hsame, fun hh => f2 ⟨hh.1, by omega⟩, fun hh => f3 fun h2 => hh ⟨h2.1, by omega⟩⟩
    · obtain ⟨f1, f2, f3⟩ := g2 (by omega) hd'
      exact ⟨f1.same hsame, f2, fun hh => f3 (by omega)⟩
theorem FedS.skip {n m : Net} {M D d} {x y : Nat} (hn : n.P) (hb : Best n M D) (hf : Fit n m) (hg : AllGen n m) (hx : x < nB n) (hy : y < nP n x) (hdec : Decd (bAt m x)) (h : FedS n M D d (fun i => i < x + 1) (fun c q => c < x ∨ (c = x ∧ q < y)) m)
    (hno : (inf m x y).role ≠ 2 ∨ peer n x y = none) : FedS n M D d (fun i => i < x + 1) (fun c q => c < x ∨ (c = x ∧ q < y + 1)) m := by
  intro i k c q hp hl hd
  obtain ⟨g1, g2⟩ := h i k c q hp hl hd
  have he := peer_ends hn hp
  have hne : ¬ (c = x ∧ q = y) := by
    rintro ⟨rfl, rfl⟩
    rcases hno with hno | hno
    · have hr := h.right hn hb hf hg hx hd
      have := des_of hn hb hf hg he.back hr hl
      have hu : (inf m c q).up = true := by rw [hf.up hn he.hj he.hq]; exact he.upj
      have := hdec q (by rw [show (bAt m c).ports.length = nP m c from rfl, hf.plen]; exact he.hq) hu
      exact hno (by unfold inf at *; omega)
    · rw [he.back] at hno; exact absurd hno (by simp)
  exact ⟨fun hst => g1 (by omega), fun hst hd' => g2 (by omega) hd'⟩
theorem FedS.send {n m : Net} {M D d} {x y j z : Nat} (hn : n.P) (hb : Best n M D) (hf : Fit n m) (hg : AllGen n m) (hx : x < nB n) (hp : peer n x y = some (j, z)) (h : FedS n M D d (fun i => i < x + 1) (fun c q => c < x ∨ (c = x ∧ q < y)) m) :
    FedS n M D d (fun i => i < x + 1) (fun c q => c < x ∨ (c = x ∧ q < y + 1)) (hearN m j z (ownV (bAt m x) y) (hopsB (bAt m x))) := by
  have hex := peer_ends hn hp
  have hjm : j < nB m := by rw [hf.len]; exact hex.hj
  have hzm : z < nP m j := by rw [hf.plen]; exact hex.hq
  intro i k c q hpi hl hd
  obtain ⟨g1, g2⟩ := h i k c q hpi hl hd
  have he := peer_ends hn hpi
  by_cases e : i = j ∧ k = z
  · obtain ⟨rfl, rfl⟩ := e
    have : peer n i k = some (x, y) := hex.back
    rw [this] at hpi
    injection hpi with hpi; injection hpi with e1 e2
    subst e1 e2
    refine ⟨fun _ => ?_, fun hst => absurd (Or.inr ⟨rfl, by omega⟩) hst⟩
    have hr := h.right hn hb hf hg hx hd
    have hs := inf_hear hjm hzm (ownV (bAt m x) y) (hopsB (bAt m x))
    have hok := P.inf_ok hf.p hjm hzm
    have hcl := claim_ok (P.ok hf.p (by rw [hf.len]; exact hx)) (i := y) (by rw [show (bAt m x).ports.length = nP m x from rfl, hf.plen]; exact hex.hk)
    have hup : (inf m i k).up = true := by rw [hf.up hn hex.hj hex.hq]; exact hex.upj
    have hc := claimP_takes hok hup hcl.1 hcl.2.1 hcl.2.2 (fun hh => by
      obtain ⟨j', q', r', d', f1, f2, f3, f4⟩ := hg.at hf hex.hj hex.hq hh
      rw [hex.back] at f1
      injection f1 with f1; injection f1 with f1 f1'
      subst f1 f1'
      rw [hr.1, f2]
      exact ⟨rfl, rfl⟩)
    rw [hc] at hs
    refine ⟨⟨hs.has, by rw [hs.vec]; exact hr.1 y, by rw [hs.hops]; exact hr.2.1⟩, fun hh => by omega, fun _ => hs.left⟩
  · have hs := inf_hear_ne hjm (by rw [hf.plen]; exact he.hk) e (ownV (bAt m x) y) (hopsB (bAt m x))
    have hne : ¬ (c = x ∧ q = y) := by
      rintro ⟨rfl, rfl⟩
      have := he.back
      rw [hp] at this
      injection this with this; injection this with e1 e2
      exact e ⟨e1.symm, e2.symm⟩
    rw [hs.left]
    refine ⟨fun hst => ?_, fun hst hd' => ?_⟩
    · obtain ⟨f1, f2⟩ := g1 (by omega)
      exact ⟨f1.same hs, f2⟩
    · obtain ⟨f1, f2⟩ := g2 (by omega) hd'
      exact ⟨f1.same hs, f2⟩
theorem FedS.next {n m : Net} {M D d} (hn : n.P) {x : Nat} (h : FedS n M D d (fun i => i < x + 1) (fun c q => c < x ∨ (c = x ∧ q < nP n x)) m) : FedS n M D d (fun i => i < x + 1) (fun c _ => c < x + 1) m := by
  intro i k c q hp hl hd
  have he := peer_ends hn hp
  obtain ⟨g1, g2⟩ := h i k c q hp hl hd
  have : c = x → nP n c = nP n x := fun e => by rw [e]
  have := he.hq
  exact ⟨fun hst => g1 (by omega), fun hst hd' => g2 (by omega) hd'⟩

def Base (n : Net) (M : Nat → Int) (D : Nat → Nat) (m : Net) : Prop := AllGen n m ∧ ∀ i k c q, peer n i k = some (c, q) → leads n D c i → Fed n M D m i k c q ∧ (c < i → (inf m i k).left = 2) ∧ (¬ c < i → (inf m i k).left = 3)
structure Good (n : Net) (M : Nat → Int) (D : Nat → Nat) (m : Net) : Prop where
  gen : AllGen n m
  right : ∀ i, i < nB n → RightB n M D m i
  fed : ∀ i k c q, peer n i k = some (c, q) → leads n D c i → Fed n M D m i k c q
def BI (n : Net) (M : Nat → Int) (D : Nat → Nat) (d i : Nat) (m : Net) : Prop := AllGen n m ∧ FedS n M D d (fun x => x < i) (fun c _ => c < i) m
def BJ (n : Net) (M : Nat → Int) (D : Nat → Nat) (d i k : Nat) (m : Net) : Prop := AllGen n m ∧ FedS n M D d (fun x => x < i + 1) (fun c q => c < i ∨ (c = i ∧ q < k)) m
theorem BI.tick {n m : Net} {M D} {d i : Nat} (hn : n.P) (hf : Fit n m) (hi : i < nB n) (h : BI n M D d i m) : BJ n M D d i 0 (tickN m i) :=
  ⟨h.1.tick hf hi (by omega) (fun j _ => Int.le_refl _), h.2.tick hf hi hn⟩
theorem BJ.send {n m : Net} {M D} {d i k j q : Nat} (hn : n.P) (hb : Best n M D) (hf : Fit n m) (hi : i < nB n) (h : BJ n M D d i k m) (hp : peer n i k = some (j, q)) : BJ n M D d i (k + 1) (hearN m j q (ownV (bAt m i) k) (hopsB (bAt m i))) :=
  ⟨h.1.hear hn hf hp (Int.le_refl _), h.2.send hn hb hf h.1 hi hp⟩
theorem BJ.skip {n m : Net} {M D} {d i k : Nat} (hn : n.P) (hb : Best n M D) (hf : Fit n m) (hi : i < nB n) (hk : k < nP n i) (hd : Decd (bAt m i)) (h : BJ n M D d i k m) (hno : (inf m i k).role ≠ 2 ∨ peer n i k = none) : BJ n M D d i (k + 1) m :=
  ⟨h.1, h.2.skip hn hb hf h.1 hi hk hd hno⟩
theorem BJ.next {n m : Net} {M D} {d i : Nat} (hn : n.P) (h : BJ n M D d i (nP n i) m) : BI n M D d (i + 1) m := ⟨h.1, h.2.next hn⟩
theorem BI.round {n m : Net} {M D} {d : Nat} (hn : n.P) (hb : Best n M D) (hf : Fit n m) (h : BI n M D d 0 m) : Fit n (roundN m) ∧ BI n M D d (nB n) (roundN m) :=
  round_rule hf (BI n M D d) (BJ n M D d) h (fun i m hi hf h => h.tick hn hf hi) (fun i k m j q hi hk hf _ h _ hp => h.send hn hb hf hi hp) (fun i k m hi hk hf hd h hno => h.skip hn hb hf hi hk hd hno) (fun i m hi hf h => h.next hn) hn
theorem BI.more {n m : Net} {M D} {d : Nat} (hn : n.P) (h : BI n M D d (nB n) m) : BI n M D (d + 1) 0 m := by
  refine ⟨h.1, fun i k c q hp hl hd => ⟨fun hst => by omega, fun _ hd' => ?_⟩⟩
  have he := peer_ends hn hp
  obtain ⟨h1, h2, h3⟩ := (h.2 i k c q hp hl (by omega)).1 he.hj
  refine ⟨h1, ?_⟩
  by_cases hc : c < i
  · have := h2 ⟨hc, he.hi⟩; omega
  · have := h3 (fun hh => hc hh.1); omega
theorem BI.base {n m : Net} {M D} {d : Nat} (hn : n.P) (hb : Best n M D) (hd : 4 ≤ d) (h : BI n M D d (nB n) m) : Base n M D m := by
  refine ⟨h.1, fun i k c q hp hl => ?_⟩
  have he := peer_ends hn hp
  have := hb.small hn he.hj
  obtain ⟨h1, h2, h3⟩ := (h.2 i k c q hp hl (by omega)).1 he.hj
  exact ⟨h1, fun hc => h2 ⟨hc, he.hi⟩, fun hc => h3 fun hh => hc hh.1⟩
theorem Base.bi {n m : Net} {M D} (hn : n.P) (h : Base n M D m) : BI n M D 5 0 m := by
  refine ⟨h.1, fun i k c q hp hl hd => ⟨fun hst => by omega, fun _ hd' => ?_⟩⟩
  obtain ⟨h1, h2, h3⟩ := h.2 i k c q hp hl
  refine ⟨h1, ?_⟩
  by_cases hc : c < i
  · have := h2 hc; omega
  · have := h3 hc; omega
theorem good_of {n m : Net} {M D} {tk st} (hn : n.P) (hb : Best n M D) (hf : Fit n m) (hg : AllGen n m) (h : FedS n M D 5 tk st m) : Good n M D m := by
  refine ⟨hg, fun i hi => h.right hn hb hf hg hi (by have := hb.small hn hi; omega), fun i k c q hp hl => ?_⟩
  have := hb.small hn (peer_ends hn hp).hj
  obtain ⟨h1, h2⟩ := h i k c q hp hl (by omega)
  by_cases hs : st c q
  · exact (h1 hs).1
  · exact (h2 hs (by omega)).1
theorem stN_base {n : Net} {M D} (hn : n.P) (hb : Best n M D) : Fit n (stN n 24) ∧ Base n M D (stN n 24) := by
  have key : ∀ d : Nat, BI n M D d 0 (stN n (19 + d)) := by
    intro d
    induction d with
    | zero =>
      obtain ⟨h1, h2⟩ := stN_ga hn 19
      exact ⟨allGen_of h1 (Nat.le_refl _) h2, fun i k c q hp hl hd => ⟨fun hst => by omega, fun _ hd' => by omega⟩⟩
    | succ d ih =>
      have := (BI.round hn hb (stN_ga hn _).1 ih).2.more hn
      rw [← stN_succ] at this
      exact this
  have := BI.round hn hb (stN_ga hn _).1 (key 4)
  rw [← stN_succ] at this
  exact ⟨this.1, this.2.base hn hb (Nat.le_refl _)⟩
/-- A round of a net in which each bridge knows how far the root is. -/
theorem rule2 {n m0 : Net} {M D} (hn : n.P) (hb : Best n M D) (hf : Fit n m0) (hB : Base n M D m0) (I : Nat → Net → Prop) (J : Nat → Nat → Net → Prop) (h0 : I 0 m0)
    (hT : ∀ i m, i < nB n → Fit n m → Good n M D m → Good n M D (tickN m i) → I i m → J i 0 (tickN m i))
    (hS : ∀ i k m j q, i < nB n → k < nP n i → Fit n m → Good n M D m → Good n M D (hearN m j q (ownV (bAt m i) k) (hopsB (bAt m i))) → Decd (bAt m i) → J i k m → (inf m i k).role = 2 → peer n i k = some (j, q) → J i (k + 1) (hearN m j q (ownV (bAt m i) k) (hopsB (bAt m i))))
    (hN : ∀ i k m, J i k m → J i (k + 1) m)
    (hE : ∀ i m, J i (nP n i) m → I (i + 1) m) : Fit n (roundN m0) ∧ Base n M D (roundN m0) ∧ I (nB n) (roundN m0) := by
  have := round_rule hf (fun i m => BI n M D 5 i m ∧ I i m) (fun i k m => BJ n M D 5 i k m ∧ J i k m) ⟨hB.bi hn, h0⟩
    (fun i m hi hf h => by
      have h1 := h.1.tick hn hf hi
      exact ⟨h1, hT i m hi hf (good_of hn hb hf h.1.1 h.1.2) (good_of hn hb (hf.tick hi) h1.1 h1.2) h.2⟩)
    (fun i k m j q hi hk hf hd h hr hp => by
      have he := peer_ends hn hp
      have h1 := h.1.send hn hb hf hi hp
      exact ⟨h1, hS i k m j q hi hk hf (good_of hn hb hf h.1.1 h.1.2) (good_of hn hb (hf.hear he.hj he.hq _ _) h1.1 h1.2) hd h.2 hr hp⟩)
    (fun i k m hi hk hf hd h hno => ⟨h.1.skip hn hb hf hi hk hd hno, hN i k m h.2⟩)
    (fun i m hi hf h => ⟨h.1.next hn, hE i m h.2⟩) hn
  exact ⟨this.1, this.2.1.base hn hb (by omega), this.2.2⟩

/-- What is heard at the ends that lead fades. -/
def GE (n : Net) (D : Nat → Nat) (X : Int) (T : Nat → Int) (m : Net) : Prop := ∀ i k j q, peer n i k = some (j, q) → leads n D i j → (inf m i k).has = true → T i + (inf m i k).left ≤ X
def NoL (n : Net) (D : Nat → Nat) (m : Net) : Prop := ∀ i k j q, peer n i k = some (j, q) → leads n D i j → (inf m i k).has = false
theorem GE.noL {n m : Net} {D X} {T : Nat → Int} (hn : n.P) (hf : Fit n m) (h : GE n D X T m) (ht : ∀ i, i < nB n → X ≤ T i) : NoL n D m := by
  intro i k j q hp hl
  have he := peer_ends hn hp
  cases hh : (inf m i k).has
  · rfl
  · have := Port.ok_has (P.inf_ok hf.p (by rw [hf.len]; exact he.hi) (by rw [hf.plen]; exact he.hk)) hh
    have := h i k j q hp hl hh
    have := ht i he.hi
    omega
theorem NoL.ge {n m : Net} {D} (h : NoL n D m) (X T) : GE n D X T m := fun i k j q hp hl hh => by rw [h i k j q hp hl] at hh; exact absurd hh (by simp)
theorem GE.tick {n m : Net} {D X} {T T' : Nat → Int} (hn : n.P) (hf : Fit n m) {x : Nat} (hx : x < nB n) (h : GE n D X T m) (h1 : T' x ≤ T x + 1) (h2 : ∀ j, j ≠ x → T' j ≤ T j) : GE n D X T' (tickN m x) := by
  intro i k j q hp hl hh
  have he := peer_ends hn hp
  have hxm : x < nB m := by rw [hf.len]; exact hx
  by_cases e : i = x
  · subst e
    have hkm : k < nP m i := by rw [hf.plen]; exact he.hk
    have hs := inf_tick hxm hkm
    rw [hs.has] at hh
    obtain ⟨g1, g2, g3, g4⟩ := tickP_none (P.inf_ok hf.p hxm hkm) hh
    have := h i k j q hp hl g1
    rw [hs.left, g4]
    omega
  · rw [inf_tick_ne hxm e] at hh ⊢
    have := h i k j q hp hl hh
    have := h2 i e
    omega
theorem no_send {n m : Net} {M D} (hn : n.P) (hb : Best n M D) (hf : Fit n m) (hg : Good n M D m) {i k j q : Nat} (hd : Decd (bAt m i)) (hr : (inf m i k).role = 2) (hp : peer n i k = some (j, q)) : leads n D i j := by
  have he := peer_ends hn hp
  rcases leads_or hn D hp with h | h
  · exact h
  · have h1 := hears_of hn hb hf hp (hg.right i he.hi) h (hg.fed i k j q hp h)
    have hu : (inf m i k).up = true := by rw [hf.up hn he.hi he.hk]; exact he.up
    have h2 := hd k (by rw [show (bAt m i).ports.length = nP m i from rfl, hf.plen]; exact he.hk) hu
    have h3 : (inf m i k).role = roleB (bAt m i) k (inf m i k) := h2
    rw [h1, hr] at h3
    split at h3 <;> omega
theorem GE.send {n m : Net} {D X} {T : Nat → Int} (hn : n.P) (hf : Fit n m) {x y j z : Nat} (hp : peer n x y = some (j, z)) (h : GE n D X T m) (hl : leads n D x j) (v : Vec) (ho : Int) : GE n D X T (hearN m j z v ho) := by
  have hex := peer_ends hn hp
  have hjm : j < nB m := by rw [hf.len]; exact hex.hj
  intro i k c q hpi hli hh
  have he := peer_ends hn hpi
  have hne : ¬ (i = j ∧ k = z) := by
    rintro ⟨rfl, rfl⟩
    rw [hex.back] at hpi
    injection hpi with hpi; injection hpi with e1 e2
    subst e1 e2
    exact leads_not hl hli
  have hs := inf_hear_ne hjm (by rw [hf.plen]; exact he.hk) hne v ho
  rw [hs.has] at hh
  rw [hs.left]
  exact h i k c q hpi hli hh
theorem GE.round {n m : Net} {M D X} {t : Int} (hn : n.P) (hb : Best n M D) (hf : Fit n m) (hB : Base n M D m) (h : GE n D X (fun _ => t) m) : Fit n (roundN m) ∧ Base n M D (roundN m) ∧ GE n D X (fun _ => t + 1) (roundN m) := by
  have := rule2 hn hb hf hB (fun i m => GE n D X (tkU i t) m) (fun i k m => GE n D X (tkU (i + 1) t) m) (fun i k j q hp hl hh => by have := h i k j q hp hl hh; simpa [tkU] using this)
    (fun i m hi hf _ _ h => h.tick hn hf hi (by simp [tkU]) (fun j hj => by unfold tkU; split <;> split <;> omega))
    (fun i k m j q hi hk hf hg _ hd h hr hp => h.send hn hf hp (no_send hn hb hf hg hd hr hp) _ _) (fun i k m h => h) (fun i m h => h)
  refine ⟨this.1, this.2.1, fun i k j q hp hl hh => ?_⟩
  have h1 := this.2.2 i k j q hp hl hh
  unfold tkU at h1
  rw [if_pos (peer_ends hn hp).hi] at h1
  exact h1
theorem stN_noL {n : Net} {M D} (hn : n.P) (hb : Best n M D) : Fit n (stN n 27) ∧ Base n M D (stN n 27) ∧ NoL n D (stN n 27) := by
  obtain ⟨h1, h2⟩ := stN_base hn hb
  have g0 : GE n D 27 (fun _ => 24) (stN n 24) := fun i k j q hp hl hh => by
    have he := peer_ends hn hp
    have := Port.ok_has (P.inf_ok h1.p (by rw [h1.len]; exact he.hi) (by rw [h1.plen]; exact he.hk)) hh
    simp only; omega
  obtain ⟨a1, a2, a3⟩ := GE.round hn hb h1 h2 g0
  obtain ⟨b1, b2, b3⟩ := GE.round hn hb a1 a2 a3
  obtain ⟨c1, c2, c3⟩ := GE.round hn hb b1 b2 b3
  rw [← stN_succ, ← stN_succ, ← stN_succ] at c1 c2 c3
  exact ⟨c1, c2, c3.noL hn c1 fun i _ => by omega⟩
structure Quiet (n : Net) (M : Nat → Int) (D : Nat → Nat) (m : Net) : Prop where
  good : Good n M D m
  noL : NoL n D m
theorem rule3 {n m0 : Net} {M D} (hn : n.P) (hb : Best n M D) (hf : Fit n m0) (hB : Base n M D m0) (hL : NoL n D m0) (I : Nat → Net → Prop) (h0 : I 0 m0)
    (hT : ∀ i m, i < nB n → Fit n m → Quiet n M D m → Quiet n M D (tickN m i) → I i m → I (i + 1) (tickN m i))
    (hS : ∀ (i k : Nat) m (j q : Nat), i < nB n → Fit n m → Quiet n M D m → Quiet n M D (hearN m j q (ownV (bAt m i) k) (hopsB (bAt m i))) → I (i + 1) m → peer n i k = some (j, q) → I (i + 1) (hearN m j q (ownV (bAt m i) k) (hopsB (bAt m i)))) :
    Fit n (roundN m0) ∧ Base n M D (roundN m0) ∧ NoL n D (roundN m0) ∧ I (nB n) (roundN m0) := by
  have := rule2 hn hb hf hB (fun i m => NoL n D m ∧ I i m) (fun i k m => NoL n D m ∧ I (i + 1) m) ⟨hL, h0⟩
    (fun i m hi hf hg hg' h => by
      have h1 : NoL n D (tickN m i) := ((h.1.ge 0 fun _ => 0).tick hn hf hi (T' := fun _ => 0) (by omega) (fun j _ => by omega)).noL hn (hf.tick hi) (fun _ _ => Int.le_refl _)
      exact ⟨h1, hT i m hi hf ⟨hg, h.1⟩ ⟨hg', h1⟩ h.2⟩)
    (fun i k m j q hi hk hf hg hg' hd h hr hp => by
      have he := peer_ends hn hp
      have h1 : NoL n D (hearN m j q (ownV (bAt m i) k) (hopsB (bAt m i))) := ((h.1.ge 0 fun _ => 0).send hn hf hp (no_send hn hb hf hg hd hr hp) _ _).noL hn (hf.hear he.hj he.hq _ _) (fun _ _ => Int.le_refl _)
      exact ⟨h1, hS i k m j q hi hf ⟨hg, h.1⟩ ⟨hg', h1⟩ h.2 hp⟩)
    (fun i k m h => h) (fun i m h => h)
  exact ⟨this.1, this.2.1, this.2.2.1, this.2.2.2⟩

theorem quiet_port {n m m' : Net} {M D} (hn : n.P) (hf : Fit n m) (hf' : Fit n m') (hq : Quiet n M D m) (hq' : Quiet n M D m') {i k : Nat} (hi : i < nB n) (hk : k < nP n i) : keyP (inf m i k) = keyP (inf m' i k) := by
  cases hu : (inf n i k).up
  · rw [hf.down i k hi hk hu, hf'.down i k hi hk hu]
  · obtain ⟨j, q, hp⟩ := peer_up hn hi hk hu
    have ok1 := P.inf_ok hf.p (i := i) (k := k) (by rw [hf.len]; exact hi) (by rw [hf.plen]; exact hk)
    have ok2 := P.inf_ok hf'.p (i := i) (k := k) (by rw [hf'.len]; exact hi) (by rw [hf'.plen]; exact hk)
    rcases leads_or hn D hp with h | h
    · have g1 := hq.noL i k j q hp h
      have g2 := hq'.noL i k j q hp h
      have o1 := Port.ok_none ok1 g1
      have o2 := Port.ok_none ok2 g2
      simp [keyP, g1, g2, o1, o2]
    · obtain ⟨a1, a2, a3⟩ := hq.good.fed i k j q hp h
      obtain ⟨b1, b2, b3⟩ := hq'.good.fed i k j q hp h
      simp [keyP, a1, a2, a3, b1, b2, b3]
theorem quiet_keys {n m m' : Net} {M D} (hn : n.P) (hf : Fit n m) (hf' : Fit n m') (hq : Quiet n M D m) (hq' : Quiet n M D m') {i : Nat} (hi : i < nB n) : (bAt m i).ports.map keyP = (bAt m' i).ports.map keyP := by
  have h1 := hf.plen i
  have h2 := hf'.plen i
  refine List.ext_getElem (by simp only [List.length_map]; unfold nP at *; omega) fun k g1 g2 => ?_
  simp only [List.length_map] at g1 g2
  simp only [List.getElem_map]
  rw [← pt_eq g1, ← pt_eq g2]
  exact quiet_port hn hf hf' hq hq' hi (by unfold nP at *; omega)
theorem quiet_role {n m m' : Net} {M D} (hn : n.P) (hf : Fit n m) (hf' : Fit n m') (hq : Quiet n M D m) (hq' : Quiet n M D m') {i k : Nat} (hi : i < nB n) (hk : k < nP n i) : roleB (bAt m i) k (inf m i k) = roleB (bAt m' i) k (inf m' i k) :=
  roleB_key ((hf.id i).trans (hf'.id i).symm) (quiet_keys hn hf hf' hq hq' hi) (quiet_port hn hf hf' hq hq' hi hk) k
def RoleI (n : Net) (R : Nat → Nat → Int) (i : Nat) (m : Net) : Prop := ∀ x k, x < nB n → k < nP n x → x < i → (inf n x k).up = true → (inf m x k).role = R x k
def WaitI (n : Net) (R : Nat → Nat → Int) (Y : Int) (T : Nat → Int) (m : Net) : Prop := ∀ x k, x < nB n → k < nP n x → (inf n x k).up = true → (inf m x k).role = R x k ∧ ((inf m x k).wait = 0 ∨ (inf m x k).wait + T x ≤ Y)
def Rof (m : Net) (i k : Nat) : Int := roleB (bAt m i) k (inf m i k)
theorem role_tick {n m m1 : Net} {M D} (hn : n.P) (hf : Fit n m) (hf1 : Fit n m1) (hq1 : Quiet n M D m1) {i k : Nat} (hi : i < nB n) (hk : k < nP n i) (hu : (inf n i k).up = true) (hq' : Quiet n M D (tickN m i)) : (inf (tickN m i) i k).role = Rof m1 i k := by
  have hf' := hf.tick hi
  have him : i < nB m := by rw [hf.len]; exact hi
  have hbt : bAt (tickN m i) i = tickD (bAt m i) := by unfold tickN; rw [bAt_set him, if_pos rfl]
  have hd : Decd (bAt (tickN m i) i) := by rw [hbt]; exact tickD_decd (P.ok hf.p him)
  have h2 : (inf (tickN m i) i k).role = roleB (bAt (tickN m i) i) k (inf (tickN m i) i k) := hd k (by rw [show (bAt (tickN m i) i).ports.length = nP (tickN m i) i from rfl, hf'.plen]; exact hk) (by have := hf'.up hn hi hk; rw [hu] at this; exact this)
  rw [h2]
  exact quiet_role hn hf' hf1 hq' hq1 hi hk
theorem role_hear {n m m1 : Net} {M D} (hn : n.P) (hf : Fit n m) (hf1 : Fit n m1) (hq1 : Quiet n M D m1) {j q k : Nat} (hj : j < nB n) (hq : q < nP n j) (hk : k < nP n j) (hu : (inf n j k).up = true) (v : Vec) (ho : Int) (hq' : Quiet n M D (hearN m j q v ho)) : (inf (hearN m j q v ho) j k).role = Rof m1 j k := by
  have hf' := hf.hear hj hq v ho
  have hjm : j < nB m := by rw [hf.len]; exact hj
  have hqm : q < nP m j := by rw [hf.plen]; exact hq
  have hbt : bAt (hearN m j q v ho) j = hearD (bAt m j) q v ho := by unfold hearN; rw [bAt_set hjm, if_pos rfl]
  have hd : Decd (bAt (hearN m j q v ho) j) := by rw [hbt]; exact hearD_decd (P.ok hf.p hjm) hqm _ _
  have h2 : (inf (hearN m j q v ho) j k).role = roleB (bAt (hearN m j q v ho) j) k (inf (hearN m j q v ho) j k) := hd k (by rw [show (bAt (hearN m j q v ho) j).ports.length = nP (hearN m j q v ho) j from rfl, hf'.plen]; exact hk) (by have := hf'.up hn hj hk; rw [hu] at this; exact this)
  rw [h2]
  exact quiet_role hn hf' hf1 hq' hq1 hj hk
theorem inf_hear_br {m : Net} {j x : Nat} (hj : j < nB m) (h : x ≠ j) (q : Nat) (v : Vec) (ho : Int) (k : Nat) : inf (hearN m j q v ho) x k = inf m x k := by
  unfold hearN; rw [inf_set hj, if_neg h]
theorem role_round {n m m1 : Net} {M D} (hn : n.P) (hb : Best n M D) (hf : Fit n m) (hB : Base n M D m) (hL : NoL n D m) (hf1 : Fit n m1) (hq1 : Quiet n M D m1) : Fit n (roundN m) ∧ Base n M D (roundN m) ∧ NoL n D (roundN m) ∧ RoleI n (Rof m1) (nB n) (roundN m) := by
  refine rule3 hn hb hf hB hL (RoleI n (Rof m1)) (fun x k _ _ h => by omega) ?_ ?_
  · intro i m hi hf _ hq' h x k hx hk hxi hu
    by_cases e : x = i
    · subst e; exact role_tick hn hf hf1 hq1 hi hk hu hq'
    · rw [inf_tick_ne (by rw [hf.len]; exact hi) e]; exact h x k hx hk (by omega) hu
  · intro i y m j q hi hf _ hq' h hp x k hx hk hxi hu
    have he := peer_ends hn hp
    by_cases e : x = j
    · subst e; exact role_hear hn hf hf1 hq1 he.hj he.hq hk hu _ _ hq'
    · rw [inf_hear_br (by rw [hf.len]; exact he.hj) e]; exact h x k hx hk hxi hu
theorem wait_round {n m m1 : Net} {M D Y} {t : Int} (hn : n.P) (hb : Best n M D) (hf : Fit n m) (hB : Base n M D m) (hL : NoL n D m) (hf1 : Fit n m1) (hq1 : Quiet n M D m1) (h : WaitI n (Rof m1) Y (fun _ => t) m) :
    Fit n (roundN m) ∧ Base n M D (roundN m) ∧ NoL n D (roundN m) ∧ WaitI n (Rof m1) Y (fun _ => t + 1) (roundN m) := by
  have := rule3 hn hb hf hB hL (fun i m => WaitI n (Rof m1) Y (tkU i t) m) (fun x k hx hk hu => by have := h x k hx hk hu; simpa [tkU] using this) ?_ ?_
  · refine ⟨this.1, this.2.1, this.2.2.1, fun x k hx hk hu => ?_⟩
    have h1 := this.2.2.2 x k hx hk hu
    unfold tkU at h1
    rw [if_pos hx] at h1
    exact h1
  · intro i m hi hf _ hq' h x k hx hk hu
    have him : i < nB m := by rw [hf.len]; exact hi
    obtain ⟨h1, h2⟩ := h x k hx hk hu
    by_cases e : x = i
    · subst e
      have hr := role_tick hn hf hf1 hq1 hi hk hu hq'
      refine ⟨hr, ?_⟩
      have hkm : k < (bAt m x).ports.length := by have := hf.plen x; unfold nP at *; omega
      have hpt : inf (tickN m x) x k = decP (tickB (bAt m x)) k (tickP (inf m x k)) := by unfold tickN; rw [inf_set him, if_pos rfl, tickD_pt hkm]; rfl
      have hum : (inf m x k).up = true := by rw [hf.up hn hx hk]; exact hu
      obtain ⟨d1, d2⟩ := decP_does (b := tickB (bAt m x)) (k := k) (tickP_ok (P.inf_ok hf.p him hkm)) (by rw [tickP_up]; exact hum)
      rw [hpt] at hr ⊢
      rw [d1] at hr
      rw [d2, hr]
      have hw := tickP_wait (inf m x k)
      have hro := tickP_role (inf m x k)
      have hin := roleB_in (bAt m1 x) k (inf m1 x k)
      have h0 := Port.ok_rest (P.inf_ok hf.p him hkm)
      unfold turnW
      rw [hro, h1]
      rw [tkU_in (by omega)]
      rw [tkU_out (by omega)] at h2
      rw [h1] at hw
      unfold Rof at *
      split
      · left; rfl
      · by_cases h0 : 0 < (inf m x k).wait
        · rw [if_pos ⟨by omega, h0⟩] at hw
          omega
        · rw [if_neg (fun hh => h0 hh.2)] at hw
          omega
    · rw [inf_tick_ne him e]
      refine ⟨h1, ?_⟩
      by_cases hxi : x < i
      · rw [tkU_in (by omega)]; rw [tkU_in hxi] at h2; exact h2
      · rw [tkU_out (by omega)]; rw [tkU_out hxi] at h2; exact h2
  · intro i y m j q hi hf _ hq' h hp x k hx hk hu
    have he := peer_ends hn hp
    have hjm : j < nB m := by rw [hf.len]; exact he.hj
    have hqm : q < nP m j := by rw [hf.plen]; exact he.hq
    obtain ⟨h1, h2⟩ := h x k hx hk hu
    by_cases e : x = j
    · subst e
      have hr := role_hear hn hf hf1 hq1 he.hj he.hq hk hu _ _ hq'
      refine ⟨hr, ?_⟩
      have hkm : k < (bAt m x).ports.length := by have := hf.plen x; unfold nP at *; omega
      have hpt : inf (hearN m x q (ownV (bAt m i) y) (hopsB (bAt m i))) x k = decP (hearB (bAt m x) q (ownV (bAt m i) y) (hopsB (bAt m i))) k (pt (hearB (bAt m x) q (ownV (bAt m i) y) (hopsB (bAt m i))) k) := by
        unfold hearN; rw [inf_set hjm, if_pos rfl, hearD_pt hkm, hearB_pt hkm]
      have hum : (inf m x k).up = true := by rw [hf.up hn hx hk]; exact hu
      have hp2 : (pt (hearB (bAt m x) q (ownV (bAt m i) y) (hopsB (bAt m i))) k).up = true ∧ (pt (hearB (bAt m x) q (ownV (bAt m i) y) (hopsB (bAt m i))) k).role = (inf m x k).role ∧ (pt (hearB (bAt m x) q (ownV (bAt m i) y) (hopsB (bAt m i))) k).wait = (inf m x k).wait := by
        rw [hearB_pt hkm]
        split
        · rename_i e; subst e
          rcases claimP_cases (pt (bAt m x) k) (ownV (bAt m i) y) (hopsB (bAt m i)) with hc | hc
          · rw [hc]; exact ⟨hum, rfl, rfl⟩
          · rw [hc]; exact ⟨hum, rfl, rfl⟩
        · exact ⟨hum, rfl, rfl⟩
      obtain ⟨d1, d2⟩ := decP_does (b := hearB (bAt m x) q (ownV (bAt m i) y) (hopsB (bAt m i))) (k := k) (pt_ok (hearB_ok (P.ok hf.p hjm) hqm _ _) (by rw [hearB_len]; exact hkm)) hp2.1
      rw [hpt] at hr ⊢
      rw [d1] at hr
      rw [d2, hr]
      unfold turnW
      rw [hp2.2.1, hp2.2.2, h1]
      split
      · left; rfl
      · exact h2
    · rw [inf_hear_br hjm e]
      exact ⟨h1, h2⟩
theorem WaitI.at {n m : Net} {R Y} {t : Int} (h : WaitI n R Y (fun _ => t) m) {x k : Nat} (hx : x < nB n) (hk : k < nP n x) (hu : (inf n x k).up = true) : (inf m x k).role = R x k ∧ ((inf m x k).wait = 0 ∨ (inf m x k).wait + t ≤ Y) := h x k hx hk hu
/-- What a net has come to that is settled. -/
structure Final (n : Net) (M : Nat → Int) (D : Nat → Nat) (R : Nat → Nat → Int) (m : Net) : Prop where
  fit : Fit n m
  base : Base n M D m
  noL : NoL n D m
  role : ∀ x k, x < nB n → k < nP n x → (inf n x k).up = true → (inf m x k).role = R x k ∧ (inf m x k).wait = 0
theorem Base.good {n m : Net} {M D} (hn : n.P) (hb : Best n M D) (hf : Fit n m) (h : Base n M D m) : Good n M D m := good_of hn hb hf h.1 (h.bi hn).2
theorem final_one {n m m' : Net} {M D R} (hn : n.P) (hb : Best n M D) (h : Final n M D R m) (h' : Final n M D R m') : m = m' := by
  have port : ∀ i k, i < nB n → k < nP n i → inf m i k = inf m' i k := by
    intro i k hi hk
    cases hu : (inf n i k).up
    · rw [h.fit.down i k hi hk hu, h'.fit.down i k hi hk hu]
    · have hk2 := quiet_port hn h.fit h'.fit ⟨h.base.good hn hb h.fit, h.noL⟩ ⟨h'.base.good hn hb h'.fit, h'.noL⟩ hi hk
      obtain ⟨j, q, hp⟩ := peer_up hn hi hk hu
      have ok1 := P.inf_ok h.fit.p (i := i) (k := k) (by rw [h.fit.len]; exact hi) (by rw [h.fit.plen]; exact hk)
      have ok2 := P.inf_ok h'.fit.p (i := i) (k := k) (by rw [h'.fit.len]; exact hi) (by rw [h'.fit.plen]; exact hk)
      have u1 := h.fit.up hn hi hk
      have u2 := h'.fit.up hn hi hk
      obtain ⟨r1, w1⟩ := h.role i k hi hk hu
      obtain ⟨r2, w2⟩ := h'.role i k hi hk hu
      have p1 := (Port.ok_rest ok1).2.2.2.2.2
      have p2 := (Port.ok_rest ok2).2.2.2.2.2
      have hleft : (inf m i k).left = (inf m' i k).left := by
        rcases leads_or hn D hp with hl | hl
        · rw [(Port.ok_none ok1 (h.noL i k j q hp hl)).2.2, (Port.ok_none ok2 (h'.noL i k j q hp hl)).2.2]
        · obtain ⟨-, a1, a2⟩ := h.base.2 i k j q hp hl
          obtain ⟨-, b1, b2⟩ := h'.base.2 i k j q hp hl
          by_cases hc : j < i
          · rw [a1 hc, b1 hc]
          · rw [a2 hc, b2 hc]
      simp only [keyP, Prod.mk.injEq] at hk2
      rw [r1, w1] at p1
      rw [r2, w2] at p2
      generalize inf m i k = x at *
      generalize inf m' i k = y at *
      obtain ⟨x1, x2, x3, x4, x5, x6, x7, x8⟩ := x
      obtain ⟨y1, y2, y3, y4, y5, y6, y7, y8⟩ := y
      simp only at *
      simp_all
  have br : ∀ i, i < nB n → bAt m i = bAt m' i := by
    intro i hi
    have h1 : (bAt m i).id = (bAt m' i).id := (h.fit.id i).trans (h'.fit.id i).symm
    have l1 : (bAt m i).ports.length = nP n i := h.fit.plen i
    have l2 : (bAt m' i).ports.length = nP n i := h'.fit.plen i
    have h2 : (bAt m i).ports = (bAt m' i).ports := by
      refine List.ext_getElem (by omega) fun k g1 g2 => ?_
      rw [← pt_eq g1, ← pt_eq g2]
      exact port i k hi (by omega)
    generalize bAt m i = x at *
    generalize bAt m' i = y at *
    obtain ⟨x1, x2⟩ := x
    obtain ⟨y1, y2⟩ := y
    simp only at h1 h2
    rw [h1, h2]
  have hbr : m.bridges = m'.bridges := by
    refine List.ext_getElem (by have := h.fit.len; have := h'.fit.len; unfold nB at *; omega) fun i g1 g2 => ?_
    have := br i (by have := h.fit.len; unfold nB at *; omega)
    rw [bAt_eq g1, bAt_eq g2] at this
    exact this
  have hln : m.links = m'.links := h.fit.links.trans h'.fit.links.symm
  obtain ⟨a, b⟩ := m
  obtain ⟨c, d⟩ := m'
  simp only at hbr hln
  rw [hbr, hln]
theorem Final.next {n m m1 : Net} {M D} (hn : n.P) (hb : Best n M D) (hf1 : Fit n m1) (hq1 : Quiet n M D m1) (h : Final n M D (Rof m1) m) : Final n M D (Rof m1) (roundN m) := by
  have := wait_round (Y := 0) (t := 1000) hn hb h.fit h.base h.noL hf1 hq1 (fun x k hx hk hu => ⟨(h.role x k hx hk hu).1, .inl (h.role x k hx hk hu).2⟩)
  refine ⟨this.1, this.2.1, this.2.2.1, fun x k hx hk hu => ?_⟩
  obtain ⟨h1, h2⟩ := this.2.2.2.at hx hk hu
  have := (Port.ok_rest (P.inf_ok this.1.p (i := x) (k := k) (by rw [this.1.len]; exact hx) (by rw [this.1.plen]; exact hk)))
  exact ⟨h1, by omega⟩
/-- Any right net is settled behind 32 rounds: it turns no more. -/
theorem settled {n : Net} {M D} (hn : n.P) (hb : Best n M D) : Final n M D (Rof (stN n 32)) (stN n 32) ∧ roundN (stN n 32) = stN n 32 := by
  obtain ⟨h1, h2, h3⟩ := stN_noL hn hb
  have hq1 : Quiet n M D (stN n 27) := ⟨h2.good hn hb h1, h3⟩
  obtain ⟨a1, a2, a3, a4⟩ := role_round hn hb h1 h2 h3 h1 hq1
  have w0 : WaitI n (Rof (stN n 27)) 32 (fun _ => 28) (roundN (stN n 27)) := fun x k hx hk hu => by
    have := (Port.ok_rest (P.inf_ok a1.p (i := x) (k := k) (by rw [a1.len]; exact hx) (by rw [a1.plen]; exact hk)))
    exact ⟨a4 x k hx hk hx hu, .inr (by simp only; omega)⟩
  obtain ⟨b1, b2, b3, b4⟩ := wait_round hn hb a1 a2 a3 h1 hq1 w0
  obtain ⟨c1, c2, c3, c4⟩ := wait_round hn hb b1 b2 b3 h1 hq1 b4
  obtain ⟨d1, d2, d3, d4⟩ := wait_round hn hb c1 c2 c3 h1 hq1 c4
  obtain ⟨e1, e2, e3, e4⟩ := wait_round hn hb d1 d2 d3 h1 hq1 d4
  rw [← stN_succ, ← stN_succ, ← stN_succ, ← stN_succ, ← stN_succ] at e1 e2 e3 e4
  have e1 : Fit n (stN n 32) := e1
  have e2 : Base n M D (stN n 32) := e2
  have e3 : NoL n D (stN n 32) := e3
  have e4 : WaitI n (Rof (stN n 27)) 32 (fun _ => 28 + 1 + 1 + 1 + 1) (stN n 32) := e4
  have hfin : Final n M D (Rof (stN n 27)) (stN n 32) := ⟨e1, e2, e3, fun x k hx hk hu => by
    obtain ⟨g1, g2⟩ := e4.at hx hk hu
    have := (Port.ok_rest (P.inf_ok e1.p (i := x) (k := k) (by rw [e1.len]; exact hx) (by rw [e1.plen]; exact hk)))
    exact ⟨g1, by omega⟩⟩
  refine ⟨⟨e1, e2, e3, fun x k hx hk hu => ?_⟩, ?_⟩
  · obtain ⟨g1, g2⟩ := hfin.role x k hx hk hu
    exact ⟨g1.trans (quiet_role hn h1 e1 hq1 ⟨e2.good hn hb e1, e3⟩ hx hk), g2⟩
  · exact final_one hn hb (hfin.next hn hb h1 hq1) hfin

theorem openAt_eq {n : Net} {i k : Nat} (hi : i < nB n) (hk : k < nP n i) : openAt n i k = (inf n i k).opn := by
  unfold openAt
  simp only [Int.toNat_natCast]
  rw [List.getElem?_eq_getElem hi]
  simp only
  have h1 := bAt_eq hi
  unfold nP at hk
  unfold inf
  rw [h1] at hk ⊢
  rw [pt_at hk]
/-- Two links of one end are one. -/
theorem link_one {ls : List Link} (hn : (endsOf ls).Nodup) {x y : Nat} {l l' : Link} (h : ls[x]? = some l) (h' : ls[y]? = some l') {e : Int × Int} (he : e = (l.a, l.p) ∨ e = (l.b, l.q)) (he' : e = (l'.a, l'.p) ∨ e = (l'.b, l'.q)) : x = y := by
  have key : ∀ {x y : Nat} {l l' : Link}, ls[x]? = some l → ls[y]? = some l' → (e = (l.a, l.p) ∨ e = (l.b, l.q)) → (e = (l'.a, l'.p) ∨ e = (l'.b, l'.q)) → ¬ x < y := by
    intro x y l l' h h' he he' hlt
    obtain ⟨h1, h2⟩ := List.getElem?_eq_some_iff.1 h
    have hs := endsOf_split h1
    rw [hs, h2] at hn
    rw [List.nodup_append] at hn
    have hd := hn.2.1
    simp only [List.nodup_cons, List.mem_cons, not_or] at hd
    have hm : e ∈ endsOf (ls.drop (x + 1)) := by
      rw [mem_endsOf]
      refine ⟨l', ?_, he'⟩
      refine List.mem_of_getElem? (i := y - (x + 1)) ?_
      rw [List.getElem?_drop]
      rw [show x + 1 + (y - (x + 1)) = y by omega]; exact h'
    rcases he with he | he
    · rw [he] at hm; exact hd.1.2 hm
    · rw [he] at hm; exact hd.2.1 hm
  have h1 := key h h' he he'
  have h2 := key h' h he' he
  omega
/-- A link that is known by its place, and its ends. -/
theorem link_peer {n : Net} (hn : n.P) {x : Nat} {l : Link} (h : n.links[x]? = some l) : ∃ i k j q : Nat, l = ⟨i, k, j, q⟩ ∧ peer n i k = some (j, q) := by
  have hm := List.mem_of_getElem? h
  obtain ⟨-, h1, h2⟩ := ((P_iff n).1 hn).2.2.2.2.1 l hm
  refine ⟨l.a.toNat, l.p.toNat, l.b.toNat, l.q.toNat, ?_, (peer_iff hn _ _ _ _).2 (.inl ?_)⟩
  · obtain ⟨a, p, b, q⟩ := l; simp at *; omega
  · have : l = ⟨l.a.toNat, l.p.toNat, l.b.toNat, l.q.toNat⟩ := by obtain ⟨a, p, b, q⟩ := l; simp at *; omega
    rw [← this]; exact hm
theorem peer_link {n : Net} (hn : n.P) {i k j q : Nat} (h : peer n i k = some (j, q)) : ∃ x : Nat, x < n.links.length ∧ (n.links[x]? = some ⟨i, k, j, q⟩ ∨ n.links[x]? = some ⟨j, q, i, k⟩) := by
  rcases (peer_iff hn i k j q).1 h with h | h
  · obtain ⟨x, h1, h2⟩ := List.getElem_of_mem h
    exact ⟨x, h1, .inl (by rw [List.getElem?_eq_getElem h1, h2])⟩
  · obtain ⟨x, h1, h2⟩ := List.getElem_of_mem h
    exact ⟨x, h1, .inr (by rw [List.getElem?_eq_getElem h1, h2])⟩
theorem Conn.trans {n : Net} {W : Nat → Bool} {a b c : Nat} (h1 : Conn n W a b) (h2 : Conn n W b c) : Conn n W a c := by
  induction h2 with
  | base => exact h1
  | fwd g1 g2 _ ih => exact .fwd g1 g2 ih
  | bwd g1 g2 _ ih => exact .bwd g1 g2 ih
theorem Conn.symm {n : Net} {W : Nat → Bool} {a b : Nat} (h : Conn n W a b) : Conn n W b a := by
  induction h with
  | base => exact .base
  | fwd g1 g2 _ ih => exact Conn.trans (.bwd g1 g2 .base) ih
  | bwd g1 g2 _ ih => exact Conn.trans (.fwd g1 g2 .base) ih
theorem Conn.in {n : Net} {W : Nat → Bool} (hn : n.P) {a b : Nat} (ha : a < nB n) (h : Conn n W a b) : b < nB n := by
  cases h with
  | base => exact ha
  | fwd g1 _ _ => exact (link_in hn g1).2.2.2
  | bwd g1 _ _ => exact (link_in hn g1).2.1
theorem Best.lead_pos {n : Net} {M D} (hn : n.P) (hb : Best n M D) {i k j q : Nat} (hp : peer n i k = some (j, q)) (hl : leads n D j i) : D i ≠ 0 := by
  have he := peer_ends hn hp
  intro h0
  have := hb.nb hn hp
  have hz := (hb.zero hn he.hi).1 h0
  unfold leads at hl
  have hz2 : D j = 0 := by omega
  have := (hb.zero hn he.hj).1 hz2
  have := he.id
  omega
/-- A net that is settled: what each port is. -/
structure Tree (n : Net) (M : Nat → Int) (D : Nat → Nat) (ρ : Nat → Nat) (s : Net) : Prop where
  fit : Fit n s
  lead : ∀ i k j q, peer n i k = some (j, q) → leads n D i j → (inf s i k).opn = true
  foll : ∀ i k j q, peer n i k = some (j, q) → leads n D j i → ((inf s i k).opn = true ↔ k = ρ i)
  root : ∀ i, i < nB n → D i ≠ 0 → ∃ j q, peer n i (ρ i) = some (j, q) ∧ D j + 1 = D i
  isRoot : ∀ i, i < nB n → (rootAt (bAt s i) < 0 ↔ D i = 0)
  right : ∀ i, i < nB n → RightB n M D s i
theorem Final.tree {n s : Net} {M D} (hn : n.P) (hb : Best n M D) (h : Final n M D (Rof s) s) : Tree n M D (fun i => (rootAt (bAt s i)).toNat) s := by
  have hg := h.base.good hn hb h.fit
  have opn : ∀ {i k j q}, peer n i k = some (j, q) → (inf s i k).opn = openBy (roleB (bAt s i) k (inf s i k)) 0 := by
    intro i k j q hp
    have he := peer_ends hn hp
    have ok := P.inf_ok h.fit.p (i := i) (k := k) (by rw [h.fit.len]; exact he.hi) (by rw [h.fit.plen]; exact he.hk)
    obtain ⟨h1, h2⟩ := h.role i k he.hi he.hk he.up
    rw [(Port.ok_rest ok).2.2.2.2.2, h1, h2]; rfl
  have up : ∀ i r : Nat, i < nB n → rootAt (bAt s i) = r → ∃ j q, peer n i r = some (j, q) ∧ D j + 1 = D i := by
    intro i r hi hr
    obtain ⟨c1, c2, c3, c4⟩ := (hg.right i hi).2.2 r hr
    have hu := (Port.ok_has (P.inf_ok h.fit.p (i := i) (k := r) (by rw [h.fit.len]; exact hi) (by rw [h.fit.plen]; exact c3)) c4).1
    rw [h.fit.up hn hi c3] at hu
    obtain ⟨j, q, hp⟩ := peer_up hn hi c3 hu
    refine ⟨j, q, hp, ?_⟩
    rcases leads_or hn D hp with hl | hl
    · rw [h.noL i r j q hp hl] at c4; exact absurd c4 (by simp)
    · obtain ⟨-, f2, -⟩ := hg.fed i r j q hp hl
      rw [f2] at c1
      simp only at c1
      omega
  have isRoot : ∀ i, i < nB n → (rootAt (bAt s i) < 0 ↔ D i = 0) := by
    intro i hi
    constructor
    · intro hr
      have := (hg.right i hi).1 0
      rw [ownV_neg hr] at this
      injection this with _ h2
      omega
    · intro h0
      refine Int.not_le.1 fun hr => ?_
      obtain ⟨r, e1, -, -⟩ := rootAt_is hr
      obtain ⟨j, q, -, h2⟩ := up i r hi e1
      omega
  refine ⟨h.fit, fun i k j q hp hl => ?_, fun i k j q hp hl => ?_, fun i hi h0 => ?_, isRoot, hg.right⟩
  · rw [opn hp, des_of hn hb h.fit hg.gen hp (hg.right i (peer_ends hn hp).hi) hl]; rfl
  · have he := peer_ends hn hp
    have hD := hb.lead_pos hn hp hl
    have hpos : 0 ≤ rootAt (bAt s i) := Int.not_lt.1 fun hr => hD ((isRoot i he.hi).1 hr)
    rw [opn hp, hears_of hn hb h.fit hp (hg.right i he.hi) hl (hg.fed i k j q hp hl)]
    constructor
    · intro ho
      split at ho
      · omega
      · exact absurd ho (by decide)
    · intro hk
      rw [if_pos (by omega)]; rfl
  · have hpos : 0 ≤ rootAt (bAt s i) := Int.not_lt.1 fun hr => h0 ((isRoot i hi).1 hr)
    exact up i _ hi (by omega)
theorem Tree.pass {n s : Net} {M D ρ} (hn : n.P) (h : Tree n M D ρ s) {x : Nat} {l : Link} (hx : s.links[x]? = some l) {i k j q : Nat} (hp : peer n i k = some (j, q)) (hl : l = ⟨i, k, j, q⟩ ∨ l = ⟨j, q, i, k⟩) (hld : leads n D i j) : passes s x = true ↔ q = ρ j := by
  have he := peer_ends hn hp
  have hlt := (List.getElem?_eq_some_iff.1 hx).1
  have his : i < nB s := by rw [h.fit.len]; exact he.hi
  have hjs : j < nB s := by rw [h.fit.len]; exact he.hj
  have hks : k < nP s i := by rw [h.fit.plen]; exact he.hk
  have hqs : q < nP s j := by rw [h.fit.plen]; exact he.hq
  have h1 := h.lead i k j q hp hld
  have h2 := h.foll j q i k he.back hld
  rw [passes_at h.fit.p hlt]
  unfold passesAt
  rw [hx]
  rcases hl with rfl | rfl
  · simp only [openAt_eq his hks, openAt_eq hjs hqs, h1, Bool.true_and]; exact h2
  · simp only [openAt_eq his hks, openAt_eq hjs hqs, h1, Bool.and_true]; exact h2
theorem wantP {n : Net} {x : Nat} (h : passes n x = true) : wantS n false (-1) x = true := by
  have : ¬ ((x : Int) = -1) := by omega
  simp [wantS, h, this]
theorem wantA {n : Net} {x : Nat} : wantS n true (-1) x = true := by
  have : ¬ ((x : Int) = -1) := by omega
  simp [wantS, this]
/-- To the root by what passes. -/
theorem Tree.toRoot {n s : Net} {M D ρ} (hn : n.P) (hb : Best n M D) (h : Tree n M D ρ s) : ∀ (d i : Nat), i < nB n → D i = d → ∃ r, r < nB n ∧ D r = 0 ∧ M r = M i ∧ Conn s (wantS s false (-1)) i r := by
  intro d
  induction d with
  | zero => intro i hi h0; exact ⟨i, hi, h0, rfl, .base⟩
  | succ d ih =>
    intro i hi hd
    obtain ⟨j, q, hp, hj⟩ := h.root i hi (by omega)
    have he := peer_ends hn hp
    have hnb := hb.nb hn hp
    obtain ⟨r, h1, h2, h3, h4⟩ := ih j he.hj (by omega)
    refine ⟨r, h1, h2, by omega, Conn.trans ?_ h4⟩
    obtain ⟨x, hx, hl⟩ := peer_link hn hp
    rw [← h.fit.links] at hl
    have hld : leads n D j i := by unfold leads; omega
    have hps : passes s x = true := by
      rcases hl with hl | hl
      · exact (h.pass hn hl he.back (.inr rfl) hld).2 rfl
      · exact (h.pass hn hl he.back (.inl rfl) hld).2 rfl
    rcases hl with hl | hl
    · have := Conn.fwd (n := s) (W := wantS s false (-1)) hl (wantP hps) (s := i) (by simpa using Conn.base)
      simpa using this
    · have := Conn.bwd (n := s) (W := wantS s false (-1)) hl (wantP hps) (s := i) (by simpa using Conn.base)
      simpa using this
theorem Tree.near {n s : Net} {M D ρ} (hn : n.P) (hb : Best n M D) (h : Tree n M D ρ s) {x y : Nat} (hx : x < nB n) (hy : y < nB n) (hm : M x = M y) : Conn s (wantS s false (-1)) x y := by
  obtain ⟨r, h1, h2, h3, h4⟩ := h.toRoot hn hb _ x hx rfl
  obtain ⟨r', g1, g2, g3, g4⟩ := h.toRoot hn hb _ y hy rfl
  have e1 := (hb.zero hn h1).1 h2
  have e2 := (hb.zero hn g1).1 g2
  have : r = r' := Classical.not_not.1 fun hne => P.id_ne hn h1 g1 hne (by omega)
  subst this
  exact Conn.trans h4 g4.symm
theorem Tree.sameM {n s : Net} {M D ρ} (hn : n.P) (hb : Best n M D) (h : Tree n M D ρ s) {W : Nat → Bool} {x y : Nat} (hc : Conn s W x y) : M x = M y := by
  induction hc with
  | base => rfl
  | fwd g1 _ _ ih =>
    rw [h.fit.links] at g1
    obtain ⟨i, k, j, q, rfl, hp⟩ := link_peer hn g1
    have := (hb.nb hn hp).1
    simp only [Int.toNat_natCast] at *
    omega
  | bwd g1 _ _ ih =>
    rw [h.fit.links] at g1
    obtain ⟨i, k, j, q, rfl, hp⟩ := link_peer hn g1
    have := (hb.nb hn hp).1
    simp only [Int.toNat_natCast] at *
    omega
theorem Tree.ok {n s : Net} {M D ρ} (h : Tree n M D ρ s) : s.ok = true := (Net.ok_iff s).2 h.fit.p
theorem Tree.spans {n s : Net} {M D ρ} (hn : n.P) (hb : Best n M D) (h : Tree n M D ρ s) : spans s = true := by
  unfold W.spans
  rw [h.ok, Bool.true_and, List.all_eq_true]
  intro i hi
  simp only [List.mem_range] at hi
  have hi' : i < nB n := by rw [← h.fit.len]; exact hi
  unfold spanAt
  rw [decide_eq_true_iff]
  refine List.ext_getElem (by simp [connL]) fun j h1 h2 => ?_
  simp only [connL, List.getElem_map, List.getElem_range]
  simp only [connL, List.length_map, List.length_range] at h1
  rw [Bool.eq_iff_iff, connB_iff, connB_iff]
  constructor
  · exact conn_mono fun k _ => wantA
  · intro hc
    exact h.near hn hb hi' (by rw [← h.fit.len]; exact h1) (h.sameM hn hb hc)
/-- Below a bridge. -/
inductive Desc (n : Net) (D ρ : Nat → Nat) (x : Nat) : Nat → Prop where
  | self : Desc n D ρ x x
  | step {z u q : Nat} : D z ≠ 0 → peer n z (ρ z) = some (u, q) → Desc n D ρ x u → Desc n D ρ x z
theorem Tree.ringless {n s : Net} {M D ρ} (hn : n.P) (hb : Best n M D) (h : Tree n M D ρ s) : ringless s = true := by
  unfold W.ringless
  rw [h.ok, Bool.true_and, List.all_eq_true]
  intro x0 hx
  simp only [List.mem_range] at hx
  rw [Bool.not_eq_true']
  cases hr : ringAt s x0
  · rfl
  exfalso
  unfold ringAt at hr
  rw [List.getElem?_eq_getElem hx] at hr
  simp only [Bool.and_eq_true, connB_iff] at hr
  obtain ⟨hpa, hc⟩ := hr
  have hlx := List.getElem?_eq_getElem hx
  generalize s.links[x0] = l at hlx hc
  have hln : n.links[x0]? = some l := by rw [← h.fit.links]; exact hlx
  obtain ⟨i, k, j, q, rfl, hp⟩ := link_peer hn hln
  rw [← passes_at h.fit.p hx] at hpa
  have hN := ((P_iff n).1 hn).2.2.2.2.2.1
  have main : ∀ y ky x, peer n y ky = some (x, ρ x) → leads n D y x → ((((i : Int), (k : Int)) = ((x : Int), ((ρ x : Nat) : Int)) ∨ ((j : Int), (q : Int)) = ((x : Int), ((ρ x : Nat) : Int)))) → ∀ a b, Conn s (wantS s false x0) a b → (Desc n D ρ x a ↔ Desc n D ρ x b) := by
    intro y ky x hpy hld hend a b hab
    have edge : ∀ (x' : Nat) (l' : Link), s.links[x']? = some l' → wantS s false x0 x' = true → (Desc n D ρ x l'.a.toNat ↔ Desc n D ρ x l'.b.toNat) := by
      intro x' l' hl' hw
      have hln' : n.links[x']? = some l' := by rw [← h.fit.links]; exact hl'
      obtain ⟨i', k', j', q', rfl, hp'⟩ := link_peer hn hln'
      simp only [wantS, Bool.false_or, Bool.and_eq_true, Bool.not_eq_true', decide_eq_false_iff_not] at hw
      obtain ⟨hne, hps⟩ := hw
      simp only [Int.toNat_natCast]
      have he' := peer_ends hn hp'
      have one : ∀ {u ku z : Nat}, D z ≠ 0 → peer n z (ρ z) = some (u, ku) → ((((i' : Int), (k' : Int)) = ((z : Int), ((ρ z : Nat) : Int)) ∨ ((j' : Int), (q' : Int)) = ((z : Int), ((ρ z : Nat) : Int)))) → (Desc n D ρ x u ↔ Desc n D ρ x z) := by
        intro u ku z h0 hz hze
        constructor
        · exact fun hd => .step h0 hz hd
        · intro hd
          cases hd with
          | self =>
            exfalso
            refine hne ?_
            have := link_one hN hln' hln (e := ((x : Int), ((ρ x : Nat) : Int))) (by simp only; rcases hze with hz | hz <;> simp [hz]) (by simp only; rcases hend with hz | hz <;> simp [hz])
            omega
          | step _ g1 g2 =>
            rw [hz] at g1
            injection g1 with g1; injection g1 with g1 g1'
            rw [g1]; exact g2
      rcases leads_or hn D hp' with hl2 | hl2
      · have := (h.pass hn hl' hp' (.inl rfl) hl2).1 hps
        have hb2 := he'.back
        rw [this] at hb2
        exact one (hb.lead_pos hn he'.back hl2) hb2 (.inr (by rw [this]))
      · have := (h.pass hn hl' he'.back (.inr rfl) hl2).1 hps
        have hb2 := hp'
        rw [this] at hb2
        exact (one (hb.lead_pos hn hp' hl2) hb2 (.inl (by rw [this]))).symm
    induction hab with
    | base => exact Iff.rfl
    | fwd g1 g2 _ ih => exact ih.trans (edge _ _ g1 g2)
    | bwd g1 g2 _ ih => exact ih.trans (edge _ _ g1 g2).symm
  have deep : ∀ x z, Desc n D ρ x z → z < nB n → D x ≤ D z := by
    intro x z hd
    induction hd with
    | self => exact fun _ => Nat.le_refl _
    | @step z u q' h0 g1 _ ih =>
      intro hz
      have := ih (peer_ends hn g1).hj
      obtain ⟨j2, q2, hp2, hd2⟩ := h.root z hz h0
      rw [g1] at hp2
      injection hp2 with hp2; injection hp2 with hp2 _
      subst hp2
      omega
  have he := peer_ends hn hp
  simp only [Int.toNat_natCast] at hc
  rcases leads_or hn D hp with hl | hl
  · have hq := (h.pass hn hlx hp (.inl rfl) hl).1 hpa
    have h0 := hb.lead_pos hn he.back hl
    obtain ⟨j2, q2, hp2, hd2⟩ := h.root j he.hj h0
    have hbk := he.back
    rw [hq] at hbk
    rw [hbk] at hp2
    injection hp2 with hp2; injection hp2 with hp2 _
    subst hp2
    have hp' := hp
    rw [hq] at hp'
    have := deep _ _ ((main i k j hp' hl (.inr (by rw [hq])) i j hc).2 .self) he.hi
    omega
  · have hq := (h.pass hn hlx he.back (.inr rfl) hl).1 hpa
    have h0 := hb.lead_pos hn hp hl
    obtain ⟨j2, q2, hp2, hd2⟩ := h.root i he.hi h0
    have hp' := hp
    rw [hq] at hp'
    rw [hp'] at hp2
    injection hp2 with hp2; injection hp2 with hp2 _
    subst hp2
    have hbk := he.back
    rw [hq] at hbk
    have := deep _ _ ((main j q i hbk hl (.inl (by rw [hq])) i j hc).1 .self) he.hj
    omega
theorem rootsUpto_root (n : Net) : ∀ i x, x ∈ rootsUpto n i → ∃ j : Nat, j < nB n ∧ x = j ∧ (rootPort (bAt n j)).2 = false
  | 0, x, h => by simp [rootsUpto] at h
  | i + 1, x, h => by
    rw [rootsUpto, List.mem_append] at h
    rcases h with h | h
    · exact rootsUpto_root n i x h
    · split at h
      · rename_i b hb
        split at h
        · simp at h
        · rename_i hr
          simp at h
          obtain ⟨h1, h2⟩ := List.getElem?_eq_some_iff.1 hb
          refine ⟨i, h1, h, ?_⟩
          rw [bAt_eq h1, h2]; simpa using hr
      · simp at h
theorem idAt_eq {n : Net} {i : Nat} (hi : i < nB n) : idAt n i = idB n i := by
  unfold idAt idB
  rw [List.getElem?_eq_getElem hi, bAt_eq hi]
theorem Tree.isTree {n s : Net} {M D ρ} (hn : n.P) (hb : Best n M D) (h : Tree n M D ρ s) : isTree s = true := by
  unfold W.isTree
  rw [h.ringless hn hb, h.spans hn hb, Bool.true_and, Bool.true_and, List.all_eq_true]
  intro x hx
  obtain ⟨r, hr, rfl, hrp⟩ := rootsUpto_root s _ _ hx
  have hrn : r < nB n := by rw [← h.fit.len]; exact hr
  have hneg : rootAt (bAt s r) < 0 := by
    simp [rootPort, P.ok h.fit.p hr] at hrp
    exact hrp
  have h0 := (h.isRoot r hrn).1 hneg
  unfold rootOk
  rw [List.all_eq_true]
  intro y hy
  obtain ⟨j, hj, rfl⟩ := reachL_in hy
  simp only [Int.toNat_natCast] at hy ⊢
  have hjn : j < nB n := by rw [← h.fit.len]; exact hj
  have hc := (connB_iff _ _ _ _).1 ((reachL_mem hj).1 hy)
  have hm := h.sameM hn hb hc
  have e1 := (hb.zero hn hrn).1 h0
  have e2 := hb.le j j 0 (.nil hjn)
  have f1 := idAt_eq hj
  have f2 := idAt_eq hr
  have f3 := h.fit.id j
  have f4 := h.fit.id r
  have f5 : ¬ idAt s j < idAt s r := by omega
  simpa using f5

theorem stN_still {n : Net} {t : Nat} (h : roundN (stN n t) = stN n t) : ∀ k, stN n (t + k) = stN n t
  | 0 => rfl
  | k + 1 => by rw [← Nat.add_assoc, stN_succ, stN_still h k, h]
theorem settle_st {n : Net} (hn : n.P) (k : Nat) (hk : k ≤ 100) : settle n k = stN n k := by
  unfold settle stN
  rw [if_pos ((Net.ok_iff n).2 hn)]
  have : (min (k : Int) 100).toNat = k := by omega
  rw [this]
/-- What 90 rounds make of a right net: it turns no more, and what passes is a tree. -/
theorem settleLaw {n : Net} (hn : n.P) : ∃ M D ρ, Best n M D ∧ Tree n M D ρ (settle n 90) ∧ roundN (settle n 90) = settle n 90 := by
  obtain ⟨M, D, hb⟩ := best_ex hn
  obtain ⟨h1, h2⟩ := settled hn hb
  have e : settle n 90 = stN n 32 := by
    rw [show (90 : Int) = ((90 : Nat) : Int) from rfl, settle_st hn 90 (by omega)]
    exact stN_still h2 58
  exact ⟨M, D, _, hb, by rw [e]; exact h1.tree hn hb, by rw [e]; exact h2⟩
theorem settle_tree {n : Net} (hn : n.ok = true) : isTree (settle n 90) = true ∧ ringless (settle n 90) = true ∧ spans (settle n 90) = true ∧ (settle n 90).ok = true := by
  have hn := (Net.ok_iff n).1 hn
  obtain ⟨M, D, ρ, hb, ht, -⟩ := settleLaw hn
  exact ⟨ht.isTree hn hb, ht.ringless hn hb, ht.spans hn hb, ht.ok⟩
theorem repeat_still {n : Net} (h : roundN n = n) : ∀ k, Nat.repeat roundN k n = n
  | 0 => rfl
  | k + 1 => by rw [Nat.repeat, repeat_still h k, h]
theorem settle_still {n : Net} (hn : n.ok = true) (k : Int) : settle (settle n 90) k = settle n 90 := by
  obtain ⟨M, D, ρ, hb, ht, h⟩ := settleLaw ((Net.ok_iff n).1 hn)
  generalize settle n 90 = s at h ⊢
  unfold settle
  split
  · exact repeat_still h _
  · rfl
/-- Own of a port, where the bridge is right. -/
def ownR (b : Bridge) (p : Int) : Vec := if (b.ok && (decide (0 ≤ p) && decide (p < (b.ports.length : Int)))) = true then ownV b p else ⟨0, 0, 0, 0⟩
theorem settle_near {n : Net} (hn : n.ok = true) {x : Nat} {l : Link} (hl : (settle n 90).links[x]? = some l) :
    0 ≤ l.a ∧ l.a.toNat < nB (settle n 90) ∧ 0 ≤ l.b ∧ l.b.toNat < nB (settle n 90) ∧ (ownR (bAt (settle n 90) l.a.toNat) l.p).root = (ownR (bAt (settle n 90) l.b.toNat) l.q).root ∧
    0 ≤ (ownR (bAt (settle n 90) l.a.toNat) l.p).cost ∧ (ownR (bAt (settle n 90) l.a.toNat) l.p).cost ≤ 20 ∧ 0 ≤ (ownR (bAt (settle n 90) l.b.toNat) l.q).cost ∧ (ownR (bAt (settle n 90) l.b.toNat) l.q).cost ≤ 20 ∧
    (ownR (bAt (settle n 90) l.a.toNat) l.p).cost ≤ (ownR (bAt (settle n 90) l.b.toNat) l.q).cost + 1 ∧ (ownR (bAt (settle n 90) l.b.toNat) l.q).cost ≤ (ownR (bAt (settle n 90) l.a.toNat) l.p).cost + 1 := by
  have hn := (Net.ok_iff n).1 hn
  obtain ⟨M, D, ρ, hb, ht, -⟩ := settleLaw hn
  generalize settle n 90 = s at ht hl ⊢
  have hln : n.links[x]? = some l := by rw [← ht.fit.links]; exact hl
  obtain ⟨i, k, j, q, rfl, hp⟩ := link_peer hn hln
  have he := peer_ends hn hp
  have hnb := hb.nb hn hp
  have his : i < nB s := by rw [ht.fit.len]; exact he.hi
  have hjs : j < nB s := by rw [ht.fit.len]; exact he.hj
  have hks : k < nP s i := by rw [ht.fit.plen]; exact he.hk
  have hqs : q < nP s j := by rw [ht.fit.plen]; exact he.hq
  have o1 : ownR (bAt s i) k = ⟨M i, D i, idB n i, k⟩ := by
    unfold ownR
    rw [if_pos (by simp [P.ok ht.fit.p his]; exact hks)]
    exact (ht.right i he.hi).1 k
  have o2 : ownR (bAt s j) q = ⟨M j, D j, idB n j, q⟩ := by
    unfold ownR
    rw [if_pos (by simp [P.ok ht.fit.p hjs]; exact hqs)]
    exact (ht.right j he.hj).1 q
  have d1 := hb.small hn he.hi
  have d2 := hb.small hn he.hj
  simp only [Int.toNat_natCast, o1, o2]
  refine ⟨by omega, his, by omega, hjs, hnb.1, ?_, ?_, ?_, ?_, ?_, ?_⟩ <;> omega
end W
end Go.Proofs.Ytjgjjaidpceieaa
