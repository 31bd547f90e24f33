/- The functions that this law reaches: what each computes. Conditions: those that each theorem names. -/
import Derived.Test.YtjgjjaidpceieaaWalkCutAndPlugged2
set_option maxRecDepth 100000
set_option maxHeartbeats 4000000
set_option linter.unusedSimpArgs false
set_option linter.unusedVariables false
set_option linter.unnecessarySimpa false
namespace Go.Proofs.Ytjgjjaidpceieaa
open Go Go.Ab Go.ChangeShapes Go.WideShapes Go.ChangeAt Go.RowKit
namespace W
/-- What takes a port down. -/
def dnIn (p : Int) : In := ⟨3, p, ⟨0, 0, 0, 0⟩, 0, false⟩
def downB (b : Bridge) (p : Nat) : Bridge := decideB ⟨b.id, b.ports.set p Port.zv⟩
theorem downB_len (b : Bridge) (p : Nat) : (downB b p).ports.length = b.ports.length := by unfold downB; rw [decideB_len]; simp
theorem downB_ok {b : Bridge} (hb : b.ok = true) (p : Nat) : (downB b p).ok = true := decideB_ok (set_ok hb zv_ok)
theorem downB_up {b : Bridge} {p k : Nat} (hk : k < b.ports.length) : (pt (downB b p) k).up = if k = p then false else (pt b k).up := by
  unfold downB
  rw [decideB_pt (by simpa using hk), (decP_info _ _ _).1, pt_eq (by simpa using hk)]
  simp only [List.getElem_set]
  by_cases h : p = k
  · subst h; simp
  · rw [if_neg h, if_neg (fun e => h e.symm), pt_eq hk]
theorem down_react {b : Bridge} (hb : b.ok = true) {p : Nat} (hp : p < b.ports.length) (hu : (pt b p).up = true) : (reactB b (dnIn p)).1 = downB b p := by
  have hl := (Bridge.ok_all hb).2.2.2.2
  have hx : (dnIn p).ok = true := by
    simp [dnIn, In.ok]
    exact decide_eq_true (by omega)
  rw [reactB_yes hb hx (by simp [dnIn]; omega)]
  unfold nextB
  have hu' : (b.ports.getD p default).up = true := hu
  rw [if_neg (by
    unfold quiet dnIn
    simp only [Int.toNat_natCast]
    rw [hu']; simp)]
  unfold inB downB dnIn
  simp
def cutN (s : Net) (k : Nat) (l : Link) : Net := ⟨(s.bridges.set l.a.toNat (reactB (bAt s l.a.toNat) (dnIn l.p)).1).set l.b.toNat (reactB (bAt s l.b.toNat) (dnIn l.q)).1, s.links.take k ++ s.links.drop (k + 1)⟩
theorem cutN_ok {s : Net} (hs : s.ok = true) {k : Nat} {l : Link} (hl : s.links[k]? = some l) : (cutN s k l).ok = true := by
  have hp := (Net.ok_iff s).1 hs
  obtain ⟨i, x, j, y, rfl, hpe⟩ := link_peer hp hl
  have he := peer_ends hp hpe
  have hklt := (List.getElem?_eq_some_iff.1 hl).1
  have hkv := (List.getElem?_eq_some_iff.1 hl).2
  have e1 : (reactB (bAt s i) (dnIn x)).1 = downB (bAt s i) x := down_react (P.ok hp he.hi) he.hk he.up
  have e2 : (reactB (bAt s j) (dnIn y)).1 = downB (bAt s j) y := down_react (P.ok hp he.hj) he.hq he.upj
  obtain ⟨c, hc⟩ : ∃ c, c = cutN s k ⟨i, x, j, y⟩ := ⟨_, rfl⟩
  rw [← hc]
  have hcb : c.bridges = (s.bridges.set i (downB (bAt s i) x)).set j (downB (bAt s j) y) := by rw [hc]; simp [cutN, e1, e2]
  have hcl : c.links = s.links.take k ++ s.links.drop (k + 1) := by rw [hc]; rfl
  clear hc
  have hlen : nB c = nB s := by simp [nB, hcb]
  have hi2 : i < s.bridges.length := he.hi
  have hj2 : j < s.bridges.length := he.hj
  have hat : ∀ t, bAt c t = if t = j then downB (bAt s j) y else if t = i then downB (bAt s i) x else bAt s t := by
    intro t
    generalize downB (bAt s j) y = B2 at hcb ⊢
    generalize downB (bAt s i) x = B1 at hcb ⊢
    unfold bAt
    simp only [List.getD_eq_getElem?_getD, hcb, List.getElem?_set]
    by_cases h1 : t = j
    · subst h1; simp [hj2]
    · rw [if_neg (fun e => h1 e.symm), if_neg h1]
      by_cases h2 : t = i
      · subst h2; simp [hi2]
      · rw [if_neg (fun e => h2 e.symm), if_neg h2]
  have hid : ∀ t, idB c t = idB s t := by
    intro t; unfold idB; rw [hat]
    split
    · rename_i h; subst h; rfl
    · split
      · rename_i h; subst h; rfl
      · rfl
  have hpl : ∀ t, nP c t = nP s t := by
    intro t; unfold nP; rw [hat]
    split
    · rename_i h; subst h; exact downB_len _ _
    · split
      · rename_i h; subst h; exact downB_len _ _
      · rfl
  obtain ⟨h1, h2, h3, h4, h5, h6, h7⟩ := (P_iff s).1 hp
  have hsp := endsOf_split hklt
  rw [hkv] at hsp
  have hce : endsOf c.links = endsOf (s.links.take k) ++ endsOf (s.links.drop (k + 1)) := by rw [hcl]; unfold endsOf; rw [List.flatMap_append]
  have hnd := h6
  rw [hsp, List.nodup_append] at hnd
  obtain ⟨nd1, nd2, nd3⟩ := hnd
  simp only [List.nodup_cons, List.mem_cons, not_or] at nd2
  obtain ⟨⟨nd4, nd5⟩, nd6, nd7⟩ := nd2
  have hmem : ∀ e, e ∈ endsOf c.links ↔ e ∈ endsOf s.links ∧ e ≠ ((i : Int), (x : Int)) ∧ e ≠ ((j : Int), (y : Int)) := by
    intro e
    rw [hce, hsp]
    simp only [List.mem_append, List.mem_cons]
    constructor
    · rintro (h | h)
      · refine ⟨.inl h, fun e1 => ?_, fun e1 => ?_⟩
        · subst e1; exact nd3 _ h _ (by simp) rfl
        · subst e1; exact nd3 _ h _ (by simp) rfl
      · refine ⟨.inr (.inr (.inr h)), fun e1 => ?_, fun e1 => ?_⟩
        · subst e1; exact nd5 h
        · subst e1; exact nd6 h
    · rintro ⟨h | h | h | h, g1, g2⟩
      · exact .inl h
      · exact absurd h g1
      · exact absurd h g2
      · exact .inr h
  rw [Net.ok_iff, P_iff]
  refine ⟨by rw [hlen]; exact h1, ?_, fun t ht => ?_, fun a b hab hb => ?_, fun l hl => ?_, ?_, fun t p ht hp2 => ?_⟩
  · rw [hcl]; simp; omega
  · rw [hlen] at ht
    rw [hat]
    split
    · exact downB_ok (P.ok hp he.hj) _
    · split
      · exact downB_ok (P.ok hp he.hi) _
      · exact P.ok hp ht
  · rw [hid, hid]; rw [hlen] at hb; exact h4 a b hab hb
  · rw [hlen, hpl, hpl]
    rw [hcl, List.mem_append] at hl
    refine h5 l ?_
    rcases hl with hl | hl
    · exact List.mem_of_mem_take hl
    · exact List.mem_of_mem_drop hl
  · rw [hce, List.nodup_append]
    exact ⟨nd1, nd7, fun a ha b hb => nd3 a ha b (by simp [hb])⟩
  · rw [hlen] at ht
    rw [hpl] at hp2
    rw [hmem, ← h7 t p ht hp2]
    unfold inf
    rw [hat]
    by_cases g1 : t = j
    · subst g1
      rw [if_pos rfl, downB_up hp2]
      by_cases g2 : p = y
      · subst g2; simp
      · rw [if_neg g2]
        simp only [ne_eq, Prod.mk.injEq, not_and]
        refine ⟨fun h => ⟨h, fun e => absurd e (by have := he.ne; omega), fun _ => by omega⟩, fun h => h.1⟩
    · rw [if_neg g1]
      by_cases g3 : t = i
      · subst g3
        rw [if_pos rfl, downB_up hp2]
        by_cases g2 : p = x
        · subst g2; simp
        · rw [if_neg g2]
          simp only [ne_eq, Prod.mk.injEq, not_and]
          refine ⟨fun h => ⟨h, fun _ => by omega, fun e => absurd e (by omega)⟩, fun h => h.1⟩
      · rw [if_neg g3]
        simp only [ne_eq, Prod.mk.injEq, not_and]
        refine ⟨fun h => ⟨h, fun e => absurd e (by omega), fun e => absurd e (by omega)⟩, fun h => h.1⟩

def nxtP (nx : List Int) (k : Nat) : Int := nx.getD k 0
/-- Links that were drawn between so many bridges: nx: each bridge's next free port. -/
structure Wires (L : List Link) (m : Int) (nx : List Int) : Prop where
  len : nx.length = 5
  bd : ∀ k, 0 ≤ nxtP nx k ∧ nxtP nx k ≤ 4
  lk : ∀ l ∈ L, l.a ≠ l.b ∧ 0 ≤ l.a ∧ l.a < m ∧ 0 ≤ l.b ∧ l.b < m ∧ 0 ≤ l.p ∧ l.p < nxtP nx l.a.toNat ∧ 0 ≤ l.q ∧ l.q < nxtP nx l.b.toNat
  nd : (endsOf L).Nodup
theorem Wires.nil (m : Int) : Wires [] m [0, 0, 0, 0, 0] := by
  refine ⟨rfl, fun k => ?_, by simp, by simp [endsOf]⟩
  match k with
  | 0 | 1 | 2 | 3 | 4 => simp [nxtP, List.getD]
  | k + 5 => simp [nxtP, List.getD]
theorem nxtP_set (xs : List Int) (k j : Nat) (v : Int) (hk : k < xs.length) : nxtP (xs.set k v) j = if j = k then v else nxtP xs j := by
  simp only [nxtP, List.getD_eq_getElem?_getD, List.getElem?_set]
  by_cases h : k = j
  · subst h; simp [hk]
  · simp [h, show ¬ j = k from fun e => h e.symm]
theorem Wires.add {L : List Link} {m : Int} {nx : List Int} (h : Wires L m nx) {a b : Nat} (hm : m ≤ 5) (ha : (a : Int) < m) (hb : (b : Int) < m) (hne : a ≠ b) (h1 : nxtP nx a < 4) (h2 : nxtP nx b < 4) :
    Wires (L ++ [⟨a, nxtP nx a, b, nxtP nx b⟩]) m ((nx.set a (nxtP nx a + 1)).set b (nxtP nx b + 1)) := by
  have hl := h.len
  have g : ∀ k, nxtP ((nx.set a (nxtP nx a + 1)).set b (nxtP nx b + 1)) k = if k = b then nxtP nx b + 1 else if k = a then nxtP nx a + 1 else nxtP nx k := fun k => by
    rw [nxtP_set _ _ _ _ (by simp; omega), nxtP_set _ _ _ _ (by omega)]
  have mono : ∀ k, nxtP nx k ≤ nxtP ((nx.set a (nxtP nx a + 1)).set b (nxtP nx b + 1)) k := fun k => by
    rw [g k]
    by_cases e1 : k = b
    · subst e1; simp; omega
    · by_cases e2 : k = a
      · subst e2; simp [e1]; omega
      · simp [e1, e2]
  have a0 := h.bd a
  have b0 := h.bd b
  refine ⟨by simp [hl], fun k => ?_, fun l hl2 => ?_, ?_⟩
  · have := h.bd k
    rw [g k]
    split
    · omega
    · split <;> omega
  · rcases List.mem_append.1 hl2 with h3 | h3
    · obtain ⟨c1, c2, c3, c4, c5, c6, c7, c8, c9⟩ := h.lk l h3
      have := mono l.a.toNat
      have := mono l.b.toNat
      exact ⟨c1, c2, c3, c4, c5, c6, by omega, c8, by omega⟩
    · simp at h3
      subst h3
      simp only [Int.toNat_natCast]
      rw [g a, g b, if_neg hne, if_pos rfl, if_pos rfl]
      refine ⟨by omega, by omega, ha, by omega, hb, by omega, by omega, by omega, by omega⟩
  · have e : endsOf (L ++ [⟨a, nxtP nx a, b, nxtP nx b⟩]) = endsOf L ++ [((a : Int), nxtP nx a), ((b : Int), nxtP nx b)] := by simp [endsOf]
    rw [e, List.nodup_append]
    refine ⟨h.nd, ?_, ?_⟩
    · simp
      intro e; omega
    · intro x hx y hy
      obtain ⟨l, hl2, hc⟩ := (mem_endsOf _ _).1 hx
      obtain ⟨c1, c2, c3, c4, c5, c6, c7, c8, c9⟩ := h.lk l hl2
      simp at hy
      rintro rfl
      rcases hc with rfl | rfl
      · simp only [Prod.mk.injEq] at hy
        rcases hy with ⟨e1, e2⟩ | ⟨e1, e2⟩
        · rw [e1] at c7; simp only [Int.toNat_natCast] at c7; omega
        · rw [e1] at c7; simp only [Int.toNat_natCast] at c7; omega
      · simp only [Prod.mk.injEq] at hy
        rcases hy with ⟨e1, e2⟩ | ⟨e1, e2⟩
        · rw [e1] at c9; simp only [Int.toNat_natCast] at c9; omega
        · rw [e1] at c9; simp only [Int.toNat_natCast] at c9; omega

theorem l10DrawWires {H : Heap} {c n : Nat} (hc : Cur H c n) {m : Int} (hm1 : 1 ≤ m) (hm4 : m ≤ 5) : Runs env 55 [.ptr c 0 0, .int m] H fun v H' => (∃ (q : Lf) (L : List Link) (nx : List Int) (fp : List Nat), v = .w (.lf q) ∧ IsLinkS H' q L fp ∧ Wires L m nx ∧ L.length ≤ 6 ∧ ∀ i ∈ fp, H.length ≤ i) ∧ CurTo H H' c n := by
  have hcl := hc.lt
  refine Runs.walk ok55 Try.func55 rfl (by simp [Try.f55]) fun Q hQ => ?_
  simp only [Try.f55, strip, stripL, stripI, stripG, chkT, tagsB, tagsL, tagD, addT, tagA, lookN, tagOp, elmT, ty22, ty24, ty25, ty33, ty54, ty58, ty95, ty122, Nat.reduceEqDiff, if_false, reduceIte, Option.getD_some, Option.getD_none, dstAt, dstOk, Nat.reduceLT, decide_true, if_true]
  obtain ⟨Y, hY⟩ : ∃ Y : Heap, Y = H ++ [some ⟨50, .wr, []⟩, some ⟨3, .wr, [[.i .i64 0], [.i .i64 0], [.i .i64 0], [.i .i64 0], [.i .i64 0]]⟩] := ⟨_, rfl⟩
  have bD : blkAt Y H.length = some ⟨50, .wr, []⟩ := by rw [hY]; simp
  have bN : blkAt Y (H.length + 1) = some ⟨3, .wr, ([0, 0, 0, 0, 0] : List Int).map encI⟩ := by rw [hY]; simp [encI]
  have hcY : CurTo H Y c n := by rw [hY]; exact (CurTo.refl hc).app _
  have oD : Own Y 50 (some (H.length, 0)) [] [H.length] := Own.of bD
  simp
  rw [← hY]
  clear hY
  refine wpS_loop (fun j tm A => ∃ (i : Nat) (aa : Option (Nat × Nat)) (L : List Link) (nx : List Int) (fd : List Nat), i + j = 6 ∧ L.length ≤ i ∧ Wires L m nx ∧ tm 0 = .ptr c 0 0 ∧ tm 1 = .int m ∧ tm 5 = .w (.lf (.sl aa L.length)) ∧ tm 6 = .w (.lf (.sl (some (H.length + 1, 0)) 5)) ∧ tm 7 = .int i ∧ CurTo H A c n ∧ blkAt A (H.length + 1) = some ⟨3, .wr, nx.map encI⟩ ∧ Own A 50 aa (L.map Link.enc) fd ∧ ∀ k ∈ fd, H.length ≤ k ∧ k ≠ H.length + 1) 6 (by rw [env_K]; omega)
    ⟨0, some (H.length, 0), [], [0, 0, 0, 0, 0], [H.length], by simp, by simp, Wires.nil m, by simp, by simp, by simp, by simp, by simp, hcY, bN, oD, by simp⟩ ?_
  rintro j tm A hj ⟨i, aa, L, nx, fd, hij, hLl, hw, t0, t1, t5, t6, t7, hcA, bA, oq, hfd⟩ Q2 hn2 he2 hr2
  simp [t0, t7]
  refine stpL_runs (l1Below hcA.2 7) ?_
  rintro _ B ⟨⟨u, rfl, hu0, hu1, -⟩, htoB⟩
  have hu := hu1 (by omega)
  have hcB := hcA.next htoB
  have hne : ∀ (k : Nat), H.length ≤ k → k ∉ [c] := fun k hm h => by simp at h; omega
  have oqB := oq.keep htoB.1 (fun k hk => hne k (hfd k hk).1)
  have bB := htoB.1.blk bA (hne _ (by omega))
  have hwI : IntKind.i64.wrap ((i : Int) + 1) = (i : Int) + 1 := wrap64 (by omega) (by omega)
  simp [t0, t1, t5, t6, t7]
  refine selS_intro (fun hc2 => ?_) (fun hc2 => ?_)
  · simp at hc2
    simp [t0, t1, t5, t6, t7]
    refine stpL_runs (l1Below htoB.2 m) ?_
    rintro _ D ⟨⟨a, rfl, ha0, ha1, -⟩, htoD⟩
    have ha := ha1 (by omega)
    obtain ⟨a, rfl⟩ : ∃ x : Nat, a = (x : Int) := ⟨a.toNat, by omega⟩
    have hcD := hcB.next htoD
    simp [t0, t1, t5, t6, t7]
    refine stpL_runs (l1Below htoD.2 m) ?_
    rintro _ F ⟨⟨b, rfl, hb0, hb1, -⟩, htoF⟩
    have hb := hb1 (by omega)
    obtain ⟨b, rfl⟩ : ∃ x : Nat, b = (x : Int) := ⟨b.toNat, by omega⟩
    have hcF := hcD.next htoF
    have oqF := (oqB.keep htoD.1 (fun k hk => hne k (hfd k hk).1)).keep htoF.1 (fun k hk => hne k (hfd k hk).1)
    have bF := htoF.1.blk (htoD.1.blk bB (hne _ (by omega))) (hne _ (by omega))
    have hidF := blkAt_len bF
    have hnl := hw.len
    have ha5 : a < 5 := by omega
    have hb5 : b < 5 := by omega
    have haI : (a : Int) < 5 := by omega
    have hbI : (b : Int) < 5 := by omega
    have gra : nx[a]? = some (nxtP nx a) := by rw [nxtP, List.getD_eq_getElem?_getD, List.getElem?_eq_getElem (by omega)]; rfl
    have grb : nx[b]? = some (nxtP nx b) := by rw [nxtP, List.getD_eq_getElem?_getD, List.getElem?_eq_getElem (by omega)]; rfl
    have hab := hw.bd a
    have hbb := hw.bd b
    obtain ⟨va, hva⟩ : ∃ va, va = nxtP nx a := ⟨_, rfl⟩
    obtain ⟨vb, hvb⟩ : ∃ vb, vb = nxtP nx b := ⟨_, rfl⟩
    rw [← hva] at gra hab
    rw [← hvb] at grb hbb
    simp [t0, t1, t5, t6, t7]
    repeat' (first | (refine gdL_t (fun h => ?_) (fun h => ?_) <;> simp [h, t0, t1, t5, t6, t7, indexAddrV, elemIs, hidF, bF, ha5, hb5, haI, hbI, gra, grb, encI]) | (refine gdL_f (fun h => ?_) (fun h => ?_) <;> simp [h, t0, t1, t5, t6, t7, indexAddrV, elemIs, hidF, bF, ha5, hb5, haI, hbI, gra, grb, encI]) | (refine selS_intro (fun h => ?_) (fun h => ?_) <;> simp [h, t0, t1, t5, t6, t7, indexAddrV, elemIs, hidF, bF, ha5, hb5, haI, hbI, gra, grb, encI]))
    · refine hn2 (j - 1) _ _ (by omega) ⟨i + 1, aa, L, nx, fd, by omega, by omega, hw, by simp [t0], by simp [t1], by simp [t5], by simp [t6], by simp [hwI], hcF, bF, oqF, hfd⟩
    · refine hn2 (j - 1) _ _ (by omega) ⟨i + 1, aa, L, nx, fd, by omega, by omega, hw, by simp [t0], by simp [t1], by simp [t5], by simp [t6], by simp [hwI], hcF, bF, oqF, hfd⟩
    · refine hn2 (j - 1) _ _ (by omega) ⟨i + 1, aa, L, nx, fd, by omega, by omega, hw, by simp [t0], by simp [t1], by simp [t5], by simp [t6], by simp [hwI], hcF, bF, oqF, hfd⟩
    · have hne2 : a ≠ b := by
        intro e; subst e; simp_all
      have hva4 : va < 4 := by simp_all
      have hvb4 : vb < 4 := by simp_all
      refine stpL_append (e := 50) (rows := L.map Link.enc) (ys := [Link.enc ⟨a, va, b, vb⟩]) (oqF.app _) (Sl.of (by simp [Link.enc])) rfl rfl rfl (by simp) (by simp; omega) (by simp) rfl fun a2 E fc hoE hkE hfE => ?_
      have kE : Keep fd F E := hkE.base
      have bE := kE.blk bF (fun hk => (hfd _ hk).2 rfl)
      have hidE := blkAt_len bE
      have hcE : CurTo H E c n := hcF.own kE (fun k hk => (hfd k hk).1) hcl
      have hlF := hcF.len
      have wva : IntKind.i64.wrap (va + 1) = va + 1 := wrap64 (by omega) (by omega)
      have wvb : IntKind.i64.wrap (vb + 1) = vb + 1 := wrap64 (by omega) (by omega)
      simp [t0, t1, t6, t7, indexAddrV, elemIs, hidE, bE, ha5, hb5, haI, hbI, gra, grb, encI, wva, wvb]
      obtain ⟨N2, hN2⟩ : ∃ N2, N2 = nx.set a (va + 1) := ⟨_, rfl⟩
      have hms : (List.map encI nx).set a [Lf.i .i64 (va + 1)] = N2.map encI := by rw [hN2, List.map_set]; rfl
      obtain ⟨E2, hE2⟩ : ∃ E2 : Heap, E2 = E.set (H.length + 1) (some ⟨3, .wr, N2.map encI⟩) := ⟨_, rfl⟩
      have bE2 : blkAt E2 (H.length + 1) = some ⟨3, .wr, N2.map encI⟩ := by rw [hE2]; exact blkAt_set hidE
      have hidE2 := blkAt_len bE2
      have grb2 : N2[b]? = some vb := by rw [hN2, List.getElem?_set_ne hne2]; exact grb
      have hms2 : (List.map encI N2).set b [Lf.i .i64 (vb + 1)] = (N2.set b (vb + 1)).map encI := by rw [List.map_set]; rfl
      rw [hms, ← hE2]
      simp [t0, t1, t6, t7, indexAddrV, elemIs, hidE2, bE2, ha5, hb5, haI, hbI, grb2, encI, wvb]
      rw [hms2]
      obtain ⟨E3, hE3⟩ : ∃ E3 : Heap, E3 = E2.set (H.length + 1) (some ⟨3, .wr, (N2.set b (vb + 1)).map encI⟩) := ⟨_, rfl⟩
      have bE3 : blkAt E3 (H.length + 1) = some ⟨3, .wr, (N2.set b (vb + 1)).map encI⟩ := by rw [hE3]; exact blkAt_set hidE2
      have hcE2 : CurTo H E2 c n := by rw [hE2]; exact hcE.set (by omega) (by omega) _
      have hcE3 : CurTo H E3 c n := by rw [hE3]; exact hcE2.set (by omega) (by omega) _
      have hfc : ∀ k ∈ fc, H.length ≤ k ∧ k ≠ H.length + 1 := by
        intro k hk
        rcases hfE k hk with h | h
        · exact hfd k h
        · simp at h
          omega
      have oE3 : Own E3 50 a2 ((L ++ [(⟨a, va, b, vb⟩ : Link)]).map Link.enc) fc := by
        have h1 := hoE.keep (Keep.set (id := H.length + 1) E (some ⟨3, .wr, N2.map encI⟩)) (fun k hk hk2 => by simp at hk2; exact (hfc k hk).2 hk2)
        rw [← hE2] at h1
        have h2 := h1.keep (Keep.set (id := H.length + 1) E2 (some ⟨3, .wr, (N2.set b (vb + 1)).map encI⟩)) (fun k hk hk2 => by simp at hk2; exact (hfc k hk).2 hk2)
        rw [← hE3] at h2
        simpa using h2
      have hw2 : Wires (L ++ [⟨a, va, b, vb⟩]) m (N2.set b (vb + 1)) := by
        rw [hN2, hva, hvb]
        exact hw.add hm4 ha hb hne2 (by omega) (by omega)
      rw [← hE3]
      simp [t7, hwI]

      refine hn2 (j - 1) _ _ (by omega) ⟨i + 1, a2, L ++ [⟨a, va, b, vb⟩], N2.set b (vb + 1), fc, by omega, by simp; omega, hw2, by simp [t0], by simp [t1], by simp, by simp [t6], by simp [hwI], hcE3, bE3, oE3, hfc⟩
  · simp at hc2
    simp
    refine he2 _ _ _ ?_
    simp [t5]
    refine hQ _ _ _ (by simp) ?_
    simp [Try.f55]
    refine ⟨?_, hcB.leave hc _⟩
    rcases leave_opt H B [W.lf (.sl aa L.length)] with e | ⟨e, hr⟩ <;> rw [e]
    · exact ⟨L, nx, fd, ⟨aa, rfl, oqB⟩, hw, by omega, fun k hk => (hfd k hk).1⟩
    · exact ⟨L, nx, [], (IsSl.free ⟨aa, rfl, oqB⟩ (by simpa [W.free] using hr) H), hw, by omega, by simp⟩

/-- A bridge of a net of our own, and another one put in its place. -/
theorem netPut {H : Heap} {l : List Lf} {n : Net} {fp : List Nat} (hI : IsNet H l n fp) {t : Nat} (ht : t < n.bridges.length) :
    ∃ (bid : Nat) (blo : Blk) (l0 : List Lf) (q1 : Lf), l = [.sl (some (bid, 0)) n.bridges.length, q1] ∧ bid ∈ fp ∧ bid < H.length ∧ blkAt H bid = some blo ∧ blo.elem = 56 ∧ blo.md = .wr ∧ blo.rows[t]? = some l0 ∧ l0.length = 2 ∧ RdBridge H l0 (bAt n t) ∧
      ∀ (H1 : Heap) (l2 : List Lf) (b : Bridge) (f2 : List Nat), Keep [] H H1 → IsBridge H1 l2 b f2 → (∀ i ∈ f2, H.length ≤ i) → ∃ fp', IsNet (H1.set bid (some ⟨56, .wr, blo.rows.set t l2⟩)) l (setBr n t b) fp' ∧ Keep fp H (H1.set bid (some ⟨56, .wr, blo.rows.set t l2⟩)) ∧ ∀ i ∈ fp', i ∈ fp ∨ H.length ≤ i := by
  have hlt := hI.lt
  obtain ⟨_, _, _, f1, rfl, ⟨a, rows, fp0, fps, rfl, ho, hp, rfl, hnd0⟩, ⟨a1, rfl, o1⟩, rfl, hnd⟩ := hI
  have hdis : ∀ i ∈ fp0, i ∉ fps.flatten := fun i hi hj => (List.nodup_append.1 hnd0).2.2 i hi i hj rfl
  have x01 : ∀ i ∈ f1, i ∉ fp0 := fun i hi hj => (List.nodup_append.1 hnd).2.2 i (by simp only [List.mem_append]; exact .inl hj) i hi rfl
  have x11 : ∀ i ∈ f1, i ∉ fps.flatten := fun i hi hj => (List.nodup_append.1 hnd).2.2 i (by simp only [List.mem_append]; exact .inr hj) i hi rfl
  obtain ⟨h1, h2, h3⟩ := hp.get ht
  obtain ⟨bid, blo, rfl, hf, hb, hbe, hm, hpre⟩ := ho.blk (by rintro rfl; simp at h1)
  obtain ⟨tl, htl⟩ := hpre
  refine ⟨bid, blo, rows[t], .sl a1 n.links.length, rfl, by simp [hf], blkAt_len hb, hb, hbe, hm, by rw [← htl, List.getElem?_append_left h1, List.getElem?_eq_getElem h1], h3.len, by rw [bAt_eq ht]; exact h3.rd, fun H1 l2 b f2 hk hr hf2 => ?_⟩
  have hb1 := hk.blk hb (by simp)
  have hlo := ho.lt
  have hl1 := o1.lt
  have hkl := hk.1
  obtain ⟨p1, p2, p3, p4⟩ := placeAt ho hp hdis ht hk hr hf2 hb1
  have eb : (some { blo with rows := blo.rows.set t l2 } : Option Blk) = some ⟨56, .wr, blo.rows.set t l2⟩ := by rw [← hbe, ← hm]
  rw [eb] at p1 p2 p3
  have o1' := o1.keep p3 x01
  have nd1 := ho.nodup
  have nd2 := p2.nodup
  have nd3 := o1.nodup
  have nf : (fp0 ++ (fps.set t f2).flatten).Nodup := nodup_app nd1 nd2 (fun i hi hj => by
    rcases p4 i hj with h | h
    · exact hdis i hi h
    · have := hlo i hi; omega)
  refine ⟨(fp0 ++ (fps.set t f2).flatten) ++ f1, ⟨_, _, _, f1, rfl, ⟨some (bid, 0), rows.set t l2, fp0, fps.set t f2, by simp [setBr], p1, p2, rfl, nf⟩, ⟨a1, rfl, o1'⟩, rfl, ?_⟩, p3.more (fun i hi _ => by simp [hi]), fun i hi => ?_⟩
  · refine nodup_app nf nd3 (fun i hi hj => ?_)
    rcases List.mem_append.1 hi with h | h
    · exact x01 i hj h
    · rcases p4 i h with h | h
      · exact x11 i hj h
      · have := hl1 i hj; omega
  · simp only [List.mem_append] at hi ⊢
    rcases hi with (h | h) | h
    · exact .inl (.inl (.inl h))
    · rcases p4 i h with h | h
      · exact .inl (.inl (.inr h))
      · exact .inr h
    · exact .inl (.inr h)

/-- What is drawn for a net makes one. -/
theorem netDrawn {xs : List Int} {L : List Link} {nx : List Int} (hx : xs.Nodup) (hr : ∀ x ∈ xs, 1 ≤ x ∧ x ≤ 9) (h1 : 1 ≤ xs.length) (h4 : xs.length ≤ 4) (hw : Wires L xs.length nx) (hL : L.length ≤ 6) : (netNew xs L).2 = true ∧ (netNew xs L).1.bridges.length = xs.length ∧ (netNew xs L).1.links = L ∧ (netNew xs L).1.ok = true := by
  have hlen : (newBs (endsOf L) xs).length = xs.length := by simp [newBs]; omega
  have htk : xs.take 6 = xs := List.take_of_length_le (by omega)
  have hat : ∀ i (hi : i < xs.length), (newBs (endsOf L) xs)[i]? = some (upB xs[i] (upAt (endsOf L) i)) := by
    intro i hi
    have := hr _ (List.getElem_mem hi)
    simp only [newBs, htk, List.getElem?_mapIdx, List.getElem?_eq_getElem hi, Option.map_some, newB, if_pos this]
  have hb : ∀ i (hi : i < xs.length), bAt (⟨newBs (endsOf L) xs, L⟩ : Net) i = upB xs[i] (upAt (endsOf L) i) := by
    intro i hi
    simp only [bAt, List.getD_eq_getElem?_getD, hat i hi]; rfl
  have hok : (⟨newBs (endsOf L) xs, L⟩ : Net).ok = true := by
    rw [Net.ok_iff, P_iff]
    have hn : nB (⟨newBs (endsOf L) xs, L⟩ : Net) = xs.length := hlen
    rw [hn]
    refine ⟨⟨h1, by omega⟩, hL, fun i hi => ?_, fun i j hij hj => ?_, fun l hl => ?_, hw.nd, fun i k hi hk => ?_⟩
    · rw [hb i hi]
      have := hr _ (List.getElem_mem hi)
      have pk : ∀ b, (pq b).ok = true := by intro b; cases b <;> decide
      have e1 : (upB xs[i] (upAt (endsOf L) i)).id = xs[i] := rfl
      refine Bridge.ok_of (fun p hp => ?_) (by rw [e1]; exact ⟨this.1, this.2, by simp [upB], by simp [upB]⟩)
      simp [upB] at hp
      rcases hp with rfl | rfl | rfl | rfl <;> exact pk _
    · unfold idB
      rw [hb i (by omega), hb j hj]
      show xs[i] ≠ xs[j]
      exact (List.pairwise_iff_getElem.1 hx) i j (by omega) hj hij
    · obtain ⟨c1, c2, c3, c4, c5, c6, c7, c8, c9⟩ := hw.lk l hl
      have b1 := hw.bd l.a.toNat
      have b2 := hw.bd l.b.toNat
      have e1 := hb l.a.toNat (by omega)
      have e2 := hb l.b.toNat (by omega)
      unfold nP
      rw [e1, e2]
      simp only [upB, List.length_cons, List.length_nil]
      refine ⟨c1, ⟨c2, by omega, c6, by omega⟩, ⟨c4, by omega, c8, by omega⟩⟩
    · unfold nP at hk
      unfold inf
      rw [hb i hi] at hk ⊢
      have hk4 : k < 4 := by simpa [upB] using hk
      have e : pt (upB xs[i] (upAt (endsOf L) i)) k = pq (upAt (endsOf L) i k) := by
        rcases (show k = 0 ∨ k = 1 ∨ k = 2 ∨ k = 3 by omega) with rfl | rfl | rfl | rfl <;> rfl
      rw [e]
      have : (pq (upAt (endsOf L) i k)).up = upAt (endsOf L) i k := by unfold pq; split <;> simp_all [desP]
      rw [this, upAt, decide_eq_true_iff]
  have : netNew xs L = (⟨newBs (endsOf L) xs, L⟩, true) := by unfold netNew; rw [if_pos hok]
  rw [this]
  exact ⟨rfl, hlen, rfl, hok⟩
theorem settle_fit {n : Net} (hn : n.P) (k : Int) : Fit n (settle n k) := by
  unfold settle
  split
  · exact (stN_ga hn _).1
  · exact Fit.refl hn
theorem settle_w {n : Net} (hn : n.ok = true) (k : Int) : NetW (settle n k) ∧ (settle n k).bridges.length = n.bridges.length ∧ (settle n k).links = n.links := by
  have := settle_fit ((Net.ok_iff n).1 hn) k
  exact ⟨NetW.of this.p, this.len, this.links⟩

def NetSt (H A : Heap) (c n K : Nat) : Prop := ∃ (l : List Lf) (m : Net) (fp : List Nat), blkAt A K = some ⟨27, .wr, [l]⟩ ∧ IsNet A l m fp ∧ NetW m ∧ 1 ≤ m.bridges.length ∧ (∀ i ∈ fp, H.length + 1 ≤ i ∧ i ≠ K) ∧ CurTo H A c n ∧ blkAt A H.length = some ⟨27, .wr, [[.sl none 0, .sl none 0]]⟩
theorem NetSt.next {H H1 H2 : Heap} {c n K : Nat} (h : NetSt H H1 c n K) (h2 : CurTo H1 H2 c n) (hc : c < H.length) (hK : H.length < K) : NetSt H H2 c n K := by
  obtain ⟨l, b, fp, h3, h4, hw, h1, h5, h7, h8⟩ := h
  exact ⟨l, b, fp, h2.1.blk h3 (by simp; omega), h4.keep h2.1 (fun k hk hk2 => by have := h5 k hk; simp at hk2; omega), hw, h1, h5, h7.next h2, h2.1.blk h8 (by simp; omega)⟩
theorem NetSt.app {H H1 : Heap} {c n K : Nat} (h : NetSt H H1 c n K) (hc : c < H.length) (hK : H.length < K) (G : Heap) : NetSt H (H1 ++ G) c n K := by
  have h7 : CurTo H H1 c n := by obtain ⟨_, _, _, _, _, _, _, _, h7, _⟩ := h; exact h7
  exact h.next ((CurTo.refl h7.2).app G) hc hK
theorem l10DrawRight {H : Heap} {c n : Nat} (hc : Cur H c n) : Runs env 89 [.ptr c 0 0] H fun v H' => (∃ (l : List Lf) (m : Net) (fp : List Nat), v = .agg l ∧ IsNet H' l m fp ∧ NetW m ∧ 1 ≤ m.bridges.length ∧ ∀ i ∈ fp, H.length ≤ i) ∧ CurTo H H' c n := by
  have hcl := hc.lt
  refine Runs.walk ok89 Try.func89 rfl (by simp [Try.f89]) fun Q hQ => ?_
  simp only [Try.f89, strip, stripL, stripI, stripG, chkT, tagsB, tagsL, tagD, addT, tagA, lookN, tagOp, elmT, ty22, ty24, ty25, ty33, ty54, ty58, ty95, ty122, Nat.reduceEqDiff, if_false, reduceIte, Option.getD_some, Option.getD_none, dstAt, dstOk, Nat.reduceLT, decide_true, if_true]
  obtain ⟨X, hX⟩ : ∃ X : Heap, X = H ++ [some ⟨27, .wr, [[.sl none 0, .sl none 0]]⟩] := ⟨_, rfl⟩
  have bzX : blkAt X H.length = some ⟨27, .wr, [[.sl none 0, .sl none 0]]⟩ := by rw [hX]; simp
  have hlX : X.length = H.length + 1 := by rw [hX]; simp
  have toX : CurTo H X c n := by rw [hX]; exact (CurTo.refl hc).app _
  simp
  rw [← hX]
  clear hX
  refine stpL_runs (l10DrawIds toX.2) ?_
  rintro _ B ⟨⟨q, xs, fx, rfl, ox, hxn, hxr, hx1, hx4, hfx⟩, htoB⟩
  have hxi : ∀ (k : Nat), X.length ≤ k → k ∉ [c] := fun k hm h => by simp at h; omega
  have toB := toX.next htoB
  have bzB := htoB.1.blk bzX (by simp; omega)
  obtain ⟨ax, rfl, ox'⟩ := id ox
  simp [builtinV, pureB, lenV]
  refine stpL_runs (l10DrawWires htoB.2 (m := (xs.length : Int)) (by omega) (by omega)) ?_
  rintro _ D ⟨⟨q2, L, nx, fl, rfl, oL, hw, hL6, hfl⟩, htoD⟩
  have toD := toB.next htoD
  have bzD := htoD.1.blk bzB (by simp; omega)
  have oxD := ox.keep htoD.1 (fun k hk => hxi k (hfx k hk))
  simp
  refine stpL_runs (specNetNew_is oxD.rd (by omega) oL.rd (by omega)) ?_
  rintro _ _ ⟨l, fp, rfl, oN, ⟨⟨G, rfl⟩, hfp⟩⟩
  obtain ⟨n1, n2, n3, n4⟩ := netDrawn hxn hxr hx1 hx4 hw hL6
  generalize (netNew xs L).1 = m0 at oN n2 n3 n4
  have hw0 := NetW.ofOk n4
  have hLn := oN.len
  have hTn : l.take l.length = l := List.take_length
  rw [hLn] at hTn
  simp [hLn, hTn]
  obtain ⟨K, hK⟩ : ∃ K, K = D.length + G.length := ⟨_, rfl⟩
  have hDl := toD.len
  have hBl := htoB.len
  have hDl2 := htoD.len
  have hKl : H.length < K := by omega
  have hlt := oN.lt
  have hKe : (D ++ G).length = K := by simp [hK]
  have hfp' : ∀ k ∈ fp, H.length + 1 ≤ k ∧ k ≠ K := fun k hk => by
    have a1 := hfp k hk
    have a2 := hlt k hk
    rw [hKe] at a2
    omega
  rw [← hK]
  have hKe2 : (D ++ (G ++ [some ⟨27, .wr, [l]⟩]) : Heap).length = K + 1 := by simp [hK]
  obtain ⟨E, hE⟩ : ∃ E : Heap, E = D ++ (G ++ [some ⟨27, .wr, [l]⟩]) := ⟨_, rfl⟩
  obtain ⟨F, hF⟩ : ∃ F : Heap, F = D ++ (G ++ [some ⟨27, .wr, [l]⟩, some ⟨3, .wr, [[.i .i64 0], [.i .i64 1], [.i .i64 5], [.i .i64 30]]⟩]) := ⟨_, rfl⟩
  have hEF : F = E ++ [some ⟨3, .wr, [0, 1, 5, 30].map encI⟩] := by rw [hF, hE]; simp [encI]
  have bKF : blkAt F K = some ⟨27, .wr, [l]⟩ := by rw [hF, hK]; simp
  have toF : CurTo H F c n := by rw [hF, ← List.append_assoc]; exact (toD.app _).app _
  have bzF : blkAt F H.length = some ⟨27, .wr, [[.sl none 0, .sl none 0]]⟩ := by rw [hF]; exact blkAt_app bzD _
  have oF : IsNet F l m0 fp := by rw [hF, ← List.append_assoc]; exact oN.app _
  rw [← hE] at hKe2
  have hsl : Sl F 3 (some (K + 1, 0)) ([0, 1, 5, 30].map encI) := by
    rw [hEF, ← hKe2]
    exact Sl.of (by simp [encI])
  rw [← hF, show D.length + (G.length + 1) = K + 1 by omega]
  clear hE hF hEF oN hfp hlt hKe hK
  refine stpL_cur (l1PickInt (xs := [0, 1, 5, 30]) toF.2 hsl (by simp) (by simp)) toF.2 (by rintro _ _ ⟨_, h⟩; exact h) ?_
  rintro _ A ⟨⟨r, rfl, hr⟩, htoA⟩
  have hrI : I64 r := by simp at hr; rcases hr with rfl | rfl | rfl | rfl <;> exact ⟨by omega, by omega⟩
  have toA := toF.next htoA
  have oA := oF.keep htoA.1 (fun k hk hk2 => by have := hfp' k hk; simp at hk2; omega)
  have bKA := htoA.1.blk bKF (by simp; omega)
  have bzA := htoA.1.blk bzF (by simp; omega)
  obtain ⟨sw, sl, -⟩ := settle_w n4 r
  simp
  refine stpL_runs_f (specSettle_is oA.rd hw0.sz r hrI) (by rintro _ _ ⟨_, _, _, _, hf⟩; exact hf.1) ?_
  rintro _ _ ⟨l2, fp2, rfl, o2, ⟨⟨G2, rfl⟩, hfp2⟩⟩
  generalize settle m0 r = m2 at o2 sw sl
  have hL2 := o2.len
  have hT2 : l2.take l2.length = l2 := List.take_length
  rw [hL2] at hT2
  have hlt2 := o2.lt
  have bKG := blkAt_app bKA G2
  have hKA := blkAt_len bKA
  have hKG := blkAt_len bKG
  have hl0 : l.drop 2 = [] := by rw [← hLn]; exact List.drop_length
  simp [bKG, hKG, hL2, hT2, hl0, hLn]
  have st0 : NetSt H ((A ++ G2).set K (some ⟨27, .wr, [l2]⟩)) c n K := by
    refine ⟨l2, m2, fp2, blkAt_set hKG, o2.keep (Keep.set _ _) (fun k hk hk2 => ?_), sw, by omega, fun k hk => ?_, (toA.app G2).set (by omega) (by omega) _, by rw [blkAt_set_ne (by omega)]; exact blkAt_app bzA G2⟩
    · have := hfp2 k hk; simp at hk2; omega
    · have := hfp2 k hk; have := toA.len; omega
  obtain ⟨Z, hZ⟩ : ∃ Z : Heap, Z = (A ++ G2).set K (some ⟨27, .wr, [l2]⟩) := ⟨_, rfl⟩
  rw [← hZ] at st0 ⊢
  clear hZ
  have ret : ∀ (HF : Heap) (tm : Ab.T), tm 2 = .ptr H.length 0 0 → (∃ (l : List Lf) (m : Net) (fp : List Nat), blkAt HF H.length = some ⟨27, .wr, [l]⟩ ∧ IsNet HF l m fp ∧ NetW m ∧ 1 ≤ m.bridges.length ∧ (∀ k ∈ fp, H.length ≤ k) ∧ CurTo H HF c n) → Q .ret tm HF := by
    rintro HF tm t2 ⟨l, m, fp, h1, h2, h3, h4, h5, h6⟩
    have hL := h2.len
    have hT : l.take l.length = l := List.take_length
    rw [hL] at hT
    refine hQ _ _ _ (by simp) ?_
    have hres : resT env.τ tm HF (Try.f89.results.toList) = some [W.agg l] := by simp [Try.f89, t2, h1, hL, hT]
    rw [hres, optK_some]
    refine ⟨?_, h6.leave hc _⟩
    rcases leave_opt H HF [W.agg l] with e | ⟨e, hr⟩ <;> rw [e]
    · exact ⟨l, m, fp, rfl, h2, h3, h4, h5⟩
    · exact ⟨l, m, [], rfl, h2.free (by simpa using hr) H, h3, h4, by simp⟩
  clear hw n1 n2 n3 n4 hL2 hT2 hlt2 o2
  refine wpS_loop (fun j tm H' => ∃ i : Nat, i + j = 4 ∧ tm 0 = .ptr c 0 0 ∧ tm 2 = .ptr H.length 0 0 ∧ tm 4 = .ptr K 0 0 ∧ tm 6 = .int i ∧ NetSt H H' c n K) 4 (by rw [env_K]; omega) ⟨0, by simp, by simp, by simp, by simp, by simp, st0⟩ ?_
  rintro j tm A1 hj ⟨i, hij, t0, t2, t4, t6, st⟩ Q2 hn2 he2 hr2
  have hcA1 : Cur A1 c n := by obtain ⟨_, _, _, _, _, _, _, _, h7, _⟩ := st; exact h7.2
  simp [t0, t6]
  refine stpL_runs (l1Below hcA1 4) ?_
  rintro _ B1 ⟨⟨u, rfl, hu0, hu1, -⟩, htoB1⟩
  have hu := hu1 (by omega)
  have st1 := st.next htoB1 hcl hKl
  clear st
  have hw : IntKind.i64.wrap ((i : Int) + 1) = (i : Int) + 1 := wrap64 (by omega) (by omega)
  obtain ⟨l1, m1, f1, k1, o1, w1, p1, hf1, to1, z1⟩ := id st1
  have d1 := blkAt_len k1
  obtain ⟨q0, q1, f10, f11, e1, ⟨a1, rows1, fa, fb, e2, _⟩, _⟩ := id o1
  simp only [Net.enc] at e1
  subst e2
  have p1I : 0 < (m1.bridges.length : Int) := by omega
  have p1N : 0 < m1.bridges.length := by omega
  by_cases hc2 : (i : Int) < u
  · simp [hc2, t0, t2, t4, t6, k1, d1, e1, builtinV, pureB, lenV, p1N]
    refine stpL_runs (l1Below to1.2 m1.bridges.length) ?_
    rintro _ C1 ⟨⟨k, rfl, hk0, hk1, -⟩, htoC1⟩
    have hk := hk1 (by omega)
    obtain ⟨k, rfl⟩ : ∃ x : Nat, k = (x : Int) := ⟨k.toNat, by omega⟩
    have hkN : k < m1.bridges.length := by omega
    simp [t0, t2, t4, t6]
    refine stpL_runs (l8DrawIn htoC1.2) ?_
    rintro _ D1 ⟨⟨x, rfl⟩, htoD1⟩
    have hto2 := htoC1.next htoD1
    have st2 := ((st1.next hto2 hcl hKl).app hcl hKl [some ⟨62, .wr, [x.enc]⟩])
    have o3 := (o1.keep hto2.1 (fun k hk hk2 => by have := hf1 k hk; simp at hk2; omega)).app [some ⟨62, .wr, [x.enc]⟩]
    have k3 := blkAt_app (hto2.1.blk k1 (by simp; omega)) [some ⟨62, .wr, [x.enc]⟩]
    have z3 := blkAt_app (hto2.1.blk z1 (by simp; omega)) [some ⟨62, .wr, [x.enc]⟩]
    have to3 : CurTo H (D1 ++ [some ⟨62, .wr, [x.enc]⟩]) c n := (to1.next hto2).app _
    have bx : blkAt (D1 ++ [some ⟨62, .wr, [x.enc]⟩]) D1.length = some ⟨62, .wr, [x.enc]⟩ := by simp
    simp only [In.enc] at bx o3 k3 z3 to3 st2
    simp [In.enc]
    obtain ⟨D2, hD2⟩ : ∃ D2 : Heap, D2 = D1 ++ [some ⟨62, .wr, [[.i .i64 x.kind, .i .i64 x.port, .i .i64 x.vec.root, .i .i64 x.vec.cost, .i .i64 x.vec.bridge, .i .i64 x.vec.port, .i .i64 x.hops, .b x.up]]⟩] := ⟨_, rfl⟩
    rw [← hD2] at bx o3 k3 z3 to3 st2 ⊢
    have dx := blkAt_len bx
    have d3 := blkAt_len k3
    clear hD2
    by_cases hk1 : x.kind = 1
    · obtain ⟨bid, blo, l0, q1', e3, hbm1, hbl, hbb, hbe, hbm, hrow, hL0, hrd, hput⟩ := netPut o3 hkN
      rw [e1] at e3
      simp at e3
      obtain ⟨e5, -⟩ := e3
      have hT0 : l0.take l0.length = l0 := List.take_length
      rw [hL0] at hT0
      have hD0 : l0.drop 2 = [] := by rw [← hL0]; exact List.drop_length
      have hsz : (bAt m1 k).sz ≤ 1048576 := by
        have := (Bridge.ok_all (bAt_ok w1 hkN)).2.2.2.2
        unfold Bridge.sz; omega
      have hrun := specReact hrd hsz x
      simp only [In.enc] at hrun
      simp [hk1, t0, t2, t4, t6, k3, d3, bx, dx, e1, e5, indexAddrV, elemIs, hbl, hbb, hbe, hk, hrow, hL0, hT0, In.enc]
      rw [hk1] at hrun
      refine stpL_runs_f hrun (by rintro _ _ ⟨_, _, _, _, _, _, _, hf, _⟩; exact hf.1) ?_
      rintro _ _ ⟨l5, f5, q5, fq5, rfl, o5, oq5, ⟨⟨G5, rfl⟩, hf5⟩, -⟩
      have hL5 := o5.len
      have hT5 : l5.take l5.length = l5 := List.take_length
      rw [hL5] at hT5
      have hbb5 := blkAt_app hbb G5
      have hid5 := blkAt_len hbb5
      obtain ⟨f6, o6, k6, hf6⟩ := hput _ l5 _ f5 (Keep.app [] D2 G5) o5 (fun j hj => hf5 j (by simp [hj]))
      have st6 : NetSt H ((D2 ++ G5).set bid (some ⟨56, .wr, blo.rows.set k l5⟩)) c n K := by
        refine ⟨l1, _, f6, k6.blk k3 (fun hh => (hf1 K hh).2 rfl), o6, w1.set hkN (reactB_ok _ (bAt_ok w1 hkN)) (reactB_len _ _), by simp [setBr]; omega, fun i hi => ?_, to3.own k6 (fun i hi => by have := hf1 i hi; omega) hcl, k6.blk z3 (fun hh => by have := hf1 _ hh; omega)⟩
        rcases hf6 i hi with h | h
        · exact hf1 i h
        · omega
      simp [hbb5, hid5, hbe, hbm, hk, hrow, hL0, hL5, hT5, hD0, indexAddrV, elemIs, t6, hw]
      exact hn2 (j - 1) _ _ (by omega) ⟨i + 1, by omega, by simp [t0], by simp [t2], by simp [t4], by simp, st6⟩
    · simp [hk1, bx, dx, t6, hw]
      exact hn2 (j - 1) _ _ (by omega) ⟨i + 1, by omega, by simp [t0], by simp [t2], by simp [t4], by simp [hw], st2⟩
  · simp [hc2, t0, t2, t4, t6]
    refine he2 _ _ _ ?_
    have hL1 := o1.len
    have hT1 : l1.take l1.length = l1 := List.take_length
    rw [hL1] at hT1
    have dz1 := blkAt_len z1
    simp [t2, t4, k1, d1, hL1, hT1, z1, dz1]
    refine ret _ _ (by simp [t2]) ⟨l1, m1, f1, blkAt_set dz1, o1.keep (Keep.set _ _) (fun k hk hk2 => by have := hf1 k hk; simp at hk2; omega), w1, p1, fun k hk => by have := hf1 k hk; omega, to1.set (Nat.le_refl _) hcl _⟩

theorem drawPlugged {H : Heap} {a : Option (Nat × Nat)} {bs : List Int} (hs : Sl H 5 a (bs.map encU)) (hn : bs.length ≤ 1048576) : Runs env 45 [.w (.lf (.sl a bs.length))] H fun v H' => (∃ (l : List Lf) (m : Net) (fp : List Nat), v = .agg l ∧ IsNet H' l m fp ∧ NetW m ∧ 1 ≤ m.bridges.length) ∧ Keep [] H H' := by
  refine Runs.walk ok45 Try.func45 rfl (by simp [Try.f45]) fun Q hQ => ?_
  simp only [Try.f45, strip, stripL, stripI, stripG, chkT, tagsB, tagsL, tagD, addT, tagA, lookN, tagOp, elmT, ty22, ty24, ty25, ty33, ty54, ty58, ty95, ty122, Nat.reduceEqDiff, if_false, reduceIte, Option.getD_some, Option.getD_none, dstAt, dstOk, Nat.reduceLT, decide_true, if_true]
  obtain ⟨X0, hX0⟩ : ∃ X0 : Heap, X0 = H ++ [some ⟨27, .wr, [[.sl none 0, .sl none 0]]⟩] := ⟨_, rfl⟩
  have bz0 : blkAt X0 H.length = some ⟨27, .wr, [[.sl none 0, .sl none 0]]⟩ := by rw [hX0]; simp
  have k0 : Keep [] H X0 := by rw [hX0]; exact Keep.app _ _ _
  have hl0 : X0.length = H.length + 1 := by rw [hX0]; simp
  have hs0 : Sl X0 5 a (bs.map encU) := by rw [hX0]; exact hs.app _
  simp
  rw [← hX0]
  refine stpL_runs (l1New hs0 hn) ?_
  rintro _ X ⟨c, rfl, hc, hcl, hk⟩
  have bz := hk.blk bz0 (by simp)
  simp
  refine stpL_runs (l10DrawRight hc) ?_
  rintro _ Y ⟨⟨l, m, fp, rfl, om, hms1, hms2, hfp⟩, hto⟩
  have bz2 := hto.1.blk bz (fun h => by simp at h; omega)
  have hY := blkAt_len bz2
  have hX := blkAt_len bz
  have hL := om.len
  have hT : l.take l.length = l := List.take_length
  rw [hL] at hT
  simp [bz2, hY, hL, hT, -set_lt]
  refine hQ _ _ _ (by simp) ?_
  obtain ⟨HF, hHF⟩ : ∃ HF : Heap, HF = Y.set H.length (some ⟨27, .wr, [l]⟩) := ⟨_, rfl⟩
  rw [← hHF]
  have b2 : blkAt HF H.length = some ⟨27, .wr, [l]⟩ := by rw [hHF]; exact blkAt_set hY
  have kF : Keep [H.length] Y HF := by rw [hHF]; exact Keep.set _ _
  have kA : Keep [] H HF := ((k0.next hk (by simp)).next hto.1 (by simp; omega)).next kF (by simp)
  have oF := om.keep kF (fun i hi h => by have := hfp i hi; simp at h; omega)
  simp [Try.f45, b2, hL, hT]
  rcases leave_opt H HF [W.agg l] with e | ⟨e, hr⟩ <;> rw [e]
  · exact ⟨⟨m, ⟨fp, oF⟩, hms1, hms2⟩, kA⟩
  · exact ⟨⟨m, ⟨[], oF.free (by simpa using hr) H⟩, hms1, hms2⟩, Keep.refl _ _⟩

theorem cutLaw {H : Heap} {a : Option (Nat × Nat)} {bs : List Int} (hs : Sl H 5 a (bs.map encU)) (hR : ∀ x ∈ bs, 0 ≤ x ∧ x ≤ 255) : Runs env 8 [.w (.lf (.sl a bs.length))] H fun v _ => v = .bool true := by
  have eb := fun (H : Heap) => bigL (H := H) (a := a) (n := bs.length)
  refine Runs.walk ok8 Try.func8 rfl (by simp [Try.f8]) fun Q hQ => ?_
  simp only [Try.f8, strip, stripL, stripI, stripG, chkT, tagsB, tagsL, tagD, addT, tagA, lookN, tagOp, elmT, ty22, ty24, ty25, ty33, ty54, ty58, ty95, ty122, Nat.reduceEqDiff, if_false, reduceIte, Option.getD_some, Option.getD_none, dstAt, dstOk, Nat.reduceLT, decide_true, if_true]
  simp [eb]
  refine selS_intro (fun hb => ?_) (fun hb => ?_)
  · simp
    refine hQ _ _ _ (by simp) ?_
    simp [Try.f8]
  simp at hb
  have hn : bs.length ≤ 1048576 := by omega
  simp
  refine stpL_runs (drawPlugged hs hn) ?_
  rintro _ X ⟨⟨l, m, fp, rfl, om, hw, -⟩, kX⟩
  have hL := om.len
  have hT : l.take l.length = l := List.take_length
  rw [hL] at hT
  have hsz := hw.sz
  obtain ⟨Y, hY⟩ : ∃ Y : Heap, Y = X ++ [some ⟨27, .wr, [l]⟩] := ⟨_, rfl⟩
  have b3 : blkAt Y X.length = some ⟨27, .wr, [l]⟩ := by rw [hY]; simp
  have d3 := blkAt_len b3
  have oY : IsNet Y l m fp := by rw [hY]; exact om.app _
  have hsY : Sl Y 5 a (bs.map encU) := by rw [hY]; exact (hs.keep kX (by simp)).app _
  have e1 := implNetOk_is oY.rd hsz
  have e2 := specNetOk_is oY.rd hsz
  have hl6 := hw.len.2
  obtain ⟨qa, qb, e0, _, ⟨alm, e0', _⟩⟩ := id oY.rd
  simp only [Net.enc] at e0
  subst e0'
  simp [hL, hT]
  simp [← hY, b3, d3, hL, hT, e1]
  by_cases hok : m.ok = true ∧ m.links.length ≠ 0
  · obtain ⟨hok, hl0⟩ := hok
    rw [hok] at e1
    have hl0I : ¬ (m.links.length : Int) = 0 := by omega
    have rY := oY.rd
    rw [e0] at rY
    simp [hok, b3, d3, hL, hT, e0, builtinV, pureB, lenV, hl0, hl0I]
    refine stpL_runs (implSettle_is rY hsz 90 ⟨by omega, by omega⟩) ?_
    rintro _ _ ⟨l2, fp2, rfl, o2, ⟨⟨G2, rfl⟩, hfp2⟩⟩
    obtain ⟨hw2, hsb, hslk⟩ := settle_w hok 90
    have hsok : (settle m 90).ok = true := (settle_tree hok).2.2.2
    have hsz2 : (settle m 90).sz ≤ 1048576 := settle_sz0 hsz
    have hsll : (settle m 90).links.length ≠ 0 := by rw [hslk]; exact hl0
    clear hsb hslk
    generalize settle m 90 = s at o2 hsz2 hw2 hsok hsll
    have hL2 := o2.len
    have hT2 : l2.take l2.length = l2 := List.take_length
    rw [hL2] at hT2
    obtain ⟨Z, hZ⟩ : ∃ Z : Heap, Z = Y ++ (G2 ++ [some ⟨27, .wr, [l2]⟩]) := ⟨_, rfl⟩
    obtain ⟨K, hK⟩ : ∃ K, K = Y.length + G2.length := ⟨_, rfl⟩
    have b4 : blkAt Z K = some ⟨27, .wr, [l2]⟩ := by rw [hZ, hK]; simp
    have oZ : IsNet Z l2 s fp2 := by rw [hZ, ← List.append_assoc]; exact o2.app _
    have hsZ : Sl Z 5 a (bs.map encU) := by rw [hZ]; exact hsY.app _
    obtain ⟨q0, q1, e5, ⟨ab, rws, e1', hsB, hlen, hat⟩, ⟨al, e2', hsL⟩⟩ := id oZ.rd
    simp only [Net.enc] at e5
    subst e1' e2'
    obtain ⟨hl5, hl6'⟩ := hw2.len
    have d4 := blkAt_len b4
    obtain ⟨v, hv0, hv1, hv⟩ := atL hsZ hR hn
    simp [hL2, hT2]
    simp [← hZ, ← hK]
    have hslI : ¬ (s.links.length : Int) = 0 := by omega
    simp [b4, d4, e5, hv, builtinV, pureB, lenV, hslI, hsll]
    have hk0 := Int.tmod_nonneg (s.links.length : Int) hv0
    have hk1 := Int.tmod_lt_of_pos v (show 0 < (s.links.length : Int) by omega)
    obtain ⟨k, hk⟩ : ∃ k : Nat, v.tmod (s.links.length : Int) = k := ⟨(v.tmod (s.links.length : Int)).toNat, by omega⟩
    rw [hk] at hk0 hk1 ⊢
    have hkl : k < s.links.length := by omega
    obtain ⟨id2, r, bl, ha2, hbl, hbe, hrow⟩ := hsL k _ (by simp [hkl]; rfl)
    have hid := blkAt_len hbl
    obtain ⟨L, hLL⟩ : ∃ L, L = s.links[k] := ⟨_, rfl⟩
    have hat2 : s.links[k]? = some L := by rw [hLL]; exact List.getElem?_eq_getElem hkl
    rw [← hLL] at hrow
    subst ha2
    have hsP := (Net.ok_iff s).1 hsok
    obtain ⟨hab, ⟨na0, na1, np0, np1⟩, ⟨nb0, nb1, nq0, nq1⟩⟩ := ((P_iff s).1 hsP).2.2.2.2.1 L (List.mem_of_getElem? hat2)
    obtain ⟨iA, rA, blA, qA, hA1, hA2, hA3, hA4, hA5, hA6⟩ := bridgeAt hlen hsB hat na1
    obtain ⟨iB, rB, blB, qB, hB1, hB2, hB3, hB4, hB5, hB6⟩ := bridgeAt hlen hsB hat nb1
    rw [hA1] at hB1
    injection hB1 with hB1
    injection hB1 with hB1 hB1'
    subst hB1 hB1'
    rw [hA3] at hB3
    injection hB3 with hB3
    subst hB3
    have na1 : L.a.toNat < s.bridges.length := na1
    have nb1 : L.b.toNat < s.bridges.length := nb1
    have aI : L.a < (s.bridges.length : Int) := by omega
    have bI : L.b < (s.bridges.length : Int) := by omega
    rw [← bAt_eq na1] at hA5 hA6
    rw [← bAt_eq nb1] at hB5 hB6
    have szA : (bAt s L.a.toNat).sz ≤ 1048576 := by have := (Bridge.ok_all (bAt_ok hw2 na1)).2.2.2.2; unfold Bridge.sz; omega
    have szB : (bAt s L.b.toNat).sz ≤ 1048576 := by have := (Bridge.ok_all (bAt_ok hw2 nb1)).2.2.2.2; unfold Bridge.sz; omega
    obtain ⟨Z2, hZ2⟩ : ∃ Z2 : Heap, Z2 = Z ++ [some ⟨50, .wr, [[.i .i64 L.a, .i .i64 L.p, .i .i64 L.b, .i .i64 L.q]]⟩] := ⟨_, rfl⟩
    have kZ2 : Keep [] Z Z2 := by rw [hZ2]; exact Keep.app _ _ _
    have bL : blkAt Z2 Z.length = some ⟨50, .wr, [[.i .i64 L.a, .i .i64 L.p, .i .i64 L.b, .i .i64 L.q]]⟩ := by rw [hZ2]; simp
    have hr1 := implReact (H := Z2) (b := bAt s L.a.toNat) (l := (bAt s L.a.toNat).enc qA) ⟨qA, rfl, hA6.keep kZ2 (by simp)⟩ szA (dnIn L.p)
    simp only [In.enc, Bridge.enc, dnIn] at hr1 hA5 hB5
    simp [b4, d4, e5, indexAddrV, elemIs, hid, hbl, hbe, hkl, hrow, Link.enc]
    rw [← hZ2]
    have b42 := kZ2.blk b4 (by simp)
    have hA32 := kZ2.blk hA3 (by simp)
    have hbl2 := kZ2.blk hbl (by simp)
    have d42 := blkAt_len b42
    have dA2 := blkAt_len hA32
    have dL := blkAt_len bL
    simp [b42, d42, e5, bL, dL, hA1, hA32, dA2, hA4, hA5, na0, aI]
    refine stpL_runs_f hr1 (by rintro _ _ ⟨_, _, _, _, _, _, _, hf, _⟩; exact hf.1) ?_
    rintro _ _ ⟨l5, f5, q5, fq5, rfl, o5, -, ⟨⟨G5, rfl⟩, hf5⟩, -⟩
    have hL5 := o5.len
    have hT5 : l5.take l5.length = l5 := List.take_length
    rw [hL5] at hT5
    obtain ⟨Z3, hZ3⟩ : ∃ Z3 : Heap, Z3 = Z2 ++ (G5 ++ [some ⟨56, .wr, [l5]⟩]) := ⟨_, rfl⟩
    obtain ⟨K7, hK7⟩ : ∃ K7, K7 = Z2.length + G5.length := ⟨_, rfl⟩
    have kZ3 : Keep [] Z2 Z3 := by rw [hZ3]; exact Keep.app _ _ _
    have b7 : blkAt Z3 K7 = some ⟨56, .wr, [l5]⟩ := by rw [hZ3, hK7]; simp
    have o53 : IsBridge Z3 l5 (reactB (bAt s L.a.toNat) (dnIn L.p)).1 f5 := by rw [hZ3, ← List.append_assoc]; exact o5.app _
    have b43 := kZ3.blk b42 (by simp)
    have hA33 := kZ3.blk hA32 (by simp)
    have hbl3 := kZ3.blk hbl2 (by simp)
    have bL3 := kZ3.blk bL (by simp)
    have d43 := blkAt_len b43
    have dA3 := blkAt_len hA33
    have dL3 := blkAt_len bL3
    have hr2 := implReact (H := Z3) (b := bAt s L.b.toNat) (l := (bAt s L.b.toNat).enc qB) ⟨qB, rfl, (hB6.keep kZ2 (by simp)).keep kZ3 (by simp)⟩ szB (dnIn L.q)
    simp only [In.enc, Bridge.enc, dnIn] at hr2
    simp [hL5, hT5]
    rw [← hZ3, ← hK7]
    simp [b43, d43, e5, bL3, dL3, hA1, hA33, dA3, hA4, hB5, nb0, bI, indexAddrV, elemIs]
    refine stpL_runs_f hr2 (by rintro _ _ ⟨_, _, _, _, _, _, _, hf, _⟩; exact hf.1) ?_
    rintro _ _ ⟨l6, f6, q6, fq6, rfl, o6, -, ⟨⟨G6, rfl⟩, hf6⟩, -⟩
    have hL6 := o6.len
    have hT6 : l6.take l6.length = l6 := List.take_length
    rw [hL6] at hT6
    obtain ⟨Z4, hZ4⟩ : ∃ Z4 : Heap, Z4 = Z3 ++ (G6 ++ [some ⟨56, .wr, [l6]⟩, some ⟨56, .wr, []⟩]) := ⟨_, rfl⟩
    obtain ⟨K9, hK9⟩ : ∃ K9, K9 = Z3.length + G6.length := ⟨_, rfl⟩
    have kZ4 : Keep [] Z3 Z4 := by rw [hZ4]; exact Keep.app _ _ _
    have b9 : blkAt Z4 K9 = some ⟨56, .wr, [l6]⟩ := by rw [hZ4, hK9]; simp
    have bE : blkAt Z4 (K9 + 1) = some ⟨56, .wr, []⟩ := by rw [hZ4, hK9]; simp [Nat.add_assoc]
    have o64 : IsBridge Z4 l6 (reactB (bAt s L.b.toNat) (dnIn L.q)).1 f6 := by rw [hZ4, ← List.append_assoc]; exact o6.app _
    have hKE : Z3.length + (G6.length + 1) = K9 + 1 := by omega
    have b44 := kZ4.blk b43 (by simp)
    have hA34 := kZ4.blk hA33 (by simp)
    have hbl4 := kZ4.blk hbl3 (by simp)
    have bL4 := kZ4.blk bL3 (by simp)
    have b74 := kZ4.blk b7 (by simp)
    have d44 := blkAt_len b44
    have kZ : Keep [] Z Z4 := (kZ2.next kZ3 (by simp)).next kZ4 (by simp)
    have hsB4 := hsB.keep kZ (by simp)
    simp [hL6, hT6]
    rw [← hZ4, ← hK9, hKE]
    have hK9Z : Z.length ≤ K9 := by have := kZ2.1; have := kZ3.1; omega
    clear hZ4 hZ3 hZ2 hr1 hr2
    simp [b44, d44, e5]
    refine stpL_append (e := 56) (rows := []) (ys := rws) (Own.of bE) hsB4 rfl rfl rfl (by simp) (by simp; omega) (by simp) hlen fun a3 W1 f7 hoW hkW hfW => ?_
    rw [List.nil_append] at hoW
    have hrl : rws.length = s.bridges.length := hlen
    obtain ⟨nid, nb, ha3, hf7, hnb, hnbe, hnbm, hpre⟩ := hoW.blk (by rintro rfl; simp at hrl; omega)
    subst ha3 hf7
    obtain ⟨tl, htl⟩ := hpre
    have hnZ : K9 + 1 ≤ nid := by
      rcases hfW nid (by simp) with h | h
      · simp at h; omega
      · have := blkAt_len bE; omega
    have kW : Keep [] Z W1 := kZ.next hkW (fun i hi => by simp at hi; omega)
    have bL5 := hkW.blk bL4 (fun h => by have := blkAt_len bL3; simp at h; omega)
    have b75 := hkW.blk b74 (fun h => by have := blkAt_len b7; have := kZ4.1; simp at h; omega)
    have b95 := hkW.blk b9 (fun h => by simp at h)
    have b45 := hkW.blk b44 (fun h => by simp at h; omega)
    have hbl5 := hkW.blk hbl4 (fun h => by simp at h; omega)
    have dn := blkAt_len hnb
    have rowAt : ∀ i, i < s.bridges.length → ∃ ra : List Lf, nb.rows[i]? = some ra ∧ ra.length = 2 ∧ ra.drop 2 = [] := by
      intro i hi
      have hri : i < rws.length := by omega
      have h1 := (hat i _ _ (List.getElem?_eq_getElem hri) (List.getElem?_eq_getElem hi)).len
      exact ⟨rws[i], by rw [← htl, List.getElem?_append_left hri, List.getElem?_eq_getElem hri], h1, by rw [← h1]; exact List.drop_length⟩
    obtain ⟨ra, ha1, ha2, ha3⟩ := rowAt _ na1
    obtain ⟨rb, hb1, hb2, hb3⟩ := rowAt _ nb1
    simp [bL5, blkAt_len bL5, b75, blkAt_len b75, hL5, hT5, indexAddrV, elemIs, hnb, dn, hnbe, na0, aI, hnbm, ha1, ha2, ha3]
    obtain ⟨W2, hW2⟩ : ∃ W2 : Heap, W2 = W1.set nid (some ⟨56, .wr, nb.rows.set L.a.toNat l5⟩) := ⟨_, rfl⟩
    have e2' : (some { nb with rows := nb.rows.set L.a.toNat l5 } : Option Blk) = some ⟨56, .wr, nb.rows.set L.a.toNat l5⟩ := by rw [← hnbe, ← hnbm]
    have oW2 : Own W2 56 (some (nid, 0)) (rws.set L.a.toNat l5) [nid] := by
      have := hoW.set (row := l5) hnb (i := L.a.toNat) (by omega)
      rw [e2'] at this
      rw [hW2]; exact this
    have kW2 : Keep [nid] W1 W2 := by rw [hW2]; exact Keep.set _ _
    have hnb2 : blkAt W2 nid = some ⟨56, .wr, nb.rows.set L.a.toNat l5⟩ := by rw [hW2]; exact blkAt_set dn
    have dn2 := blkAt_len hnb2
    have bL6 := kW2.blk bL5 (fun h => by have := blkAt_len bL3; simp at h; omega)
    have b96 := kW2.blk b95 (fun h => by simp at h; omega)
    have b46 := kW2.blk b45 (fun h => by simp at h; omega)
    have hbl6 := kW2.blk hbl5 (fun h => by simp at h; omega)
    have habn : ¬ L.a.toNat = L.b.toNat := by omega
    have hb1' : (nb.rows.set L.a.toNat l5)[L.b.toNat]? = some rb := by rw [List.getElem?_set_ne habn]; exact hb1
    rw [← hW2]
    simp [bL6, blkAt_len bL6, b96, blkAt_len b96, hL6, hT6, indexAddrV, elemIs, hnb2, dn2, nb0, bI, hb1', hb2, hb3]
    obtain ⟨W3, hW3⟩ : ∃ W3 : Heap, W3 = W2.set nid (some ⟨56, .wr, (nb.rows.set L.a.toNat l5).set L.b.toNat l6⟩) := ⟨_, rfl⟩
    have oW3 : Own W3 56 (some (nid, 0)) ((rws.set L.a.toNat l5).set L.b.toNat l6) [nid] := by
      have := oW2.set (row := l6) hnb2 (i := L.b.toNat) (by simp; omega)
      rw [hW3]; exact this
    have kW3 : Keep [nid] W2 W3 := by rw [hW3]; exact Keep.set _ _
    have b47 := kW3.blk b46 (fun h => by simp at h; omega)
    have hbl7 := kW3.blk hbl6 (fun h => by simp at h; omega)
    have kZW3 : Keep [] Z W3 := (kW.next kW2 (by simp; omega)).next kW3 (by simp; omega)
    have r5 : RdBridge W3 l5 (reactB (bAt s L.a.toNat) (dnIn L.p)).1 := by
      have lt5 : ∀ i ∈ f5, i < K7 := fun i hi => by have := o5.lt i hi; rw [List.length_append] at this; omega
      have l7 := blkAt_len b7
      have := kZ4.1
      exact ((((o53.keep kZ4 (by simp)).keep hkW (fun i hi h => by have := lt5 i hi; simp at h; omega)).keep kW2 (fun i hi h => by have := lt5 i hi; simp at h; omega)).keep kW3 (fun i hi h => by have := lt5 i hi; simp at h; omega)).rd
    have r6 : RdBridge W3 l6 (reactB (bAt s L.b.toNat) (dnIn L.q)).1 := by
      have lt6 : ∀ i ∈ f6, i < K9 := fun i hi => by have := o6.lt i hi; rw [List.length_append] at this; omega
      exact (((o64.keep hkW (fun i hi h => by have := lt6 i hi; simp at h; omega)).keep kW2 (fun i hi h => by have := lt6 i hi; simp at h; omega)).keep kW3 (fun i hi h => by have := lt6 i hi; simp at h; omega)).rd
    have rB : RdBridgeS W3 (.sl (some (nid, 0)) s.bridges.length) (cutN s k L).bridges := by
      refine ⟨some (nid, 0), _, by simp [cutN], oW3.sl, by simp [cutN]; omega, fun i row x h1 h2 => ?_⟩
      simp only [cutN] at h2
      have hi : i < s.bridges.length := by have := (List.getElem?_eq_some_iff.1 h2).1; simpa using this
      have hri : i < rws.length := by omega
      rw [List.getElem?_set] at h1 h2
      by_cases g1 : L.b.toNat = i
      · rw [if_pos g1] at h1 h2
        simp only [List.length_set] at h1 h2
        rw [if_pos (by omega)] at h1 h2
        injection h1 with h1; injection h2 with h2
        subst h1 h2
        exact r6
      · rw [if_neg g1] at h1 h2
        rw [List.getElem?_set] at h1 h2
        by_cases g2 : L.a.toNat = i
        · rw [if_pos g2] at h1 h2
          rw [if_pos (by omega)] at h1 h2
          injection h1 with h1; injection h2 with h2
          subst h1 h2
          exact r5
        · rw [if_neg g2] at h1 h2
          exact (hat i row x h1 h2).base kZW3
    rw [← hW3]
    have b48 := blkAt_app b47 [some ⟨50, .wr, []⟩]
    have d48 := blkAt_len b48
    have hbl8 := blkAt_app hbl7 [some ⟨50, .wr, []⟩]
    have d88 := blkAt_len hbl8
    have k1 : bnd s.links.length s.links.length (some (V.int (k : Int))) = some k := by
      simp [bnd]
      omega
    have k2 : bnd 0 k none = some 0 := by simp [bnd]
    simp [b48, d48, e5, sliceV, elemIs, hbl8, hbe, k1, k2]
    have sT : Sl (W3 ++ [some ⟨50, .wr, []⟩]) 50 (some (id2, r)) ((s.links.take k).map Link.enc) := by
      intro i row hr
      have hi : i < k := by have := (List.getElem?_eq_some_iff.1 hr).1; simp at this; omega
      refine ((hsL.keep kZW3 (by simp)).app _) i row ?_
      rw [← hr]
      simp [List.getElem?_take, hi]
    have oE3 : Own (W3 ++ [some ⟨50, .wr, []⟩]) 50 (some (W2.length, 0)) [] [W2.length] := Own.of (by
      have : W3.length = W2.length := by rw [hW3]; simp
      rw [← this]; simp)
    refine stpL_append (e := 50) (rows := []) (ys := (s.links.take k).map Link.enc) oE3 sT rfl rfl rfl (by simp) (by simp; omega) (by simp) (by simp; omega) fun a5 W4 f8 oW4 kW4 hf8 => ?_
    rw [List.nil_append] at oW4
    have hlW : W3.length = W2.length := by rw [hW3]; simp
    have kW34 : Keep [] W3 W4 := (Keep.app [] W3 _).next kW4 (fun i hi => by simp at hi; omega)
    have kZW4 : Keep [] Z W4 := kZW3.next kW34 (by simp)
    have b49 := kW34.blk b47 (by simp)
    have d49 := blkAt_len b49
    have hbl9 := kW34.blk hbl7 (by simp)
    have d89 := blkAt_len hbl9
    have w1 : IntKind.i64.wrap ((k : Int) + 1) = (k : Int) + 1 := wrap64 (by omega) (by omega)
    have k3 : bnd s.links.length s.links.length none = some s.links.length := by simp [bnd]
    have k4 : bnd 0 s.links.length (some (V.int ((k : Int) + 1))) = some (k + 1) := by
      simp [bnd]
      omega
    simp [b49, d49, e5, w1, sliceV, elemIs, hbl9, d89, hbe, k3, k4]
    have sD : Sl W4 50 (some (id2, r + (k + 1))) ((s.links.drop (k + 1)).map Link.enc) := by
      intro i row hr
      obtain ⟨i2, r2, bl2, g1, g2, g3, g4⟩ := (hsL.keep kZW4 (by simp)) (k + 1 + i) row (by rw [← hr]; simp)
      cases g1
      exact ⟨id2, r + (k + 1), bl2, rfl, g2, g3, by rw [← g4]; congr 1; omega⟩
    refine stpL_append (e := 50) (rows := (s.links.take k).map Link.enc) (ys := (s.links.drop (k + 1)).map Link.enc) oW4 sD rfl rfl rfl (by simp) (by simp; omega) (by simp; omega) (by simp) fun a6 W5 f9 oW5 kW5 hf9 => ?_
    have hf8' : ∀ i ∈ f8, W3.length ≤ i := fun i hi => by
      rcases hf8 i hi with h | h
      · simp at h; omega
      · simp at h; omega
    have kW35 : Keep [] W3 W5 := kW34.next kW5 hf8'
    have hcl2 : (cutN s k L).links.length = k + (s.links.length - (k + 1)) := by simp [cutN]; omega
    have hcb2 : (cutN s k L).bridges.length = s.bridges.length := by simp [cutN]
    have rN : RdNet W5 [.sl (some (nid, 0)) s.bridges.length, .sl a6 (k + (s.links.length - (k + 1)))] (cutN s k L) := by
      refine ⟨_, _, rfl, rB.base (fun h hk => h.base hk) kW35, ⟨a6, by rw [hcl2], ?_⟩⟩
      have := oW5.sl
      rw [← List.map_append] at this
      exact this
    have hcok := cutN_ok hsok hat2
    have hszc : (cutN s k L).sz ≤ 1048576 := (NetW.ofOk hcok).sz
    have hct := (settle_tree hcok).1
    have hszc2 : (settle (cutN s k L) 90).sz ≤ 1048576 := settle_sz0 hszc
    obtain ⟨W6, hW6⟩ : ∃ W6 : Heap, W6 = W5 ++ [some ⟨27, .wr, [[.sl (some (nid, 0)) s.bridges.length, .sl a6 (k + (s.links.length - (k + 1)))]]⟩] := ⟨_, rfl⟩
    have b6 : blkAt W6 W5.length = some ⟨27, .wr, [[.sl (some (nid, 0)) s.bridges.length, .sl a6 (k + (s.links.length - (k + 1)))]]⟩ := by rw [hW6]; simp
    have d6 := blkAt_len b6
    have rN6 : RdNet W6 [.sl (some (nid, 0)) s.bridges.length, .sl a6 (k + (s.links.length - (k + 1)))] (cutN s k L) := by rw [hW6]; exact rN.app _
    have g1 := implNetOk_is rN6 hszc
    rw [hcok] at g1
    simp
    rw [← hW6]
    simp [b6, d6, g1]
    refine stpL_runs (implSettle_is rN6 hszc 90 ⟨by omega, by omega⟩) ?_
    rintro _ _ ⟨l8, fp8, rfl, o8, ⟨⟨G8, rfl⟩, -⟩⟩
    have g2 := implIsTree_is o8.rd hszc2
    rw [hct] at g2
    simp [g2]
    refine hQ _ _ _ (by simp) ?_
    simp [Try.f8]
  · have fin : ∀ tm HH, tm 2 = .bool true → Q .ret tm HH := by
      intro tm HH t2
      refine hQ _ _ _ (by simp) ?_
      simp [Try.f8, t2]
    cases hm : m.ok
    · rw [hm] at e1 e2
      simp [b3, d3, hL, hT, e1, e2]
      exact fin _ _ (by simp)
    · rw [hm] at e1 e2
      have hl0 : m.links.length = 0 := by
        by_cases h : m.links.length = 0
        · exact h
        · exact absurd ⟨hm, h⟩ hok
      have rY := oY.rd
      simp [b3, d3, hL, hT, e0, hl0, builtinV, pureB, lenV]
      simp only [e0, hl0] at e1 e2
      simp [b3, d3, hL, hT, e1, e2, e0, hl0]
      exact fin _ _ (by simp)
end W
end Go.Proofs.Ytjgjjaidpceieaa
