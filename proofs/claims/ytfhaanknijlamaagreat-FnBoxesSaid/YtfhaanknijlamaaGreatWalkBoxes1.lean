/- The functions that this law reaches: what each computes. Conditions: those that each theorem names. -/
import Derived.Test.YtfhaanknijlamaaGreatWalkBoxes
set_option maxRecDepth 100000
set_option maxHeartbeats 4000000
set_option linter.unusedSimpArgs false
set_option linter.unusedVariables false
set_option linter.unnecessarySimpa false
namespace Go.Proofs.YtfhaanknijlamaaGreat
open Go Go.Ab Go.ChangeShapes Go.WideShapes Go.ChangeAt Go.RowKit
namespace W
theorem specDecide {H : Heap} {l : List Lf} {b : Bridge} (h : RdBridge H l b) (hok : b.ok = true) : Runs env 139 [.agg l] H fun v H' => ∃ l' fp, v = .agg l' ∧ IsBridge H' l' (decideB b) fp ∧ Fresh H H' fp := by
  obtain ⟨hpok, -, -, hl1, hl4⟩ := Bridge.ok_all hok
  have hR := h
  have hsz : b.sz ≤ 1048576 := by have : b.sz = b.ports.length := rfl; omega
  have e1 := fun G => specBridgeOk_is (hR.app G) hsz
  have e2 := fun G => specRootPort (hR.app G) hsz
  have hrp : rootPort b = (rootAt b, decide (0 ≤ rootAt b)) := by simp [rootPort, hok]
  rw [hrp] at e2
  rw [hok] at e1
  obtain ⟨a, rfl, h_⟩ := h
  simp only [Bridge.enc] at e1 e2
  refine Runs.walk ok139 Tryz.func139 rfl (by simp [Tryz.f139]) fun Q hQ => ?_
  simp only [Tryz.f139, strip, stripL, stripI, stripG, chkT, tagsB, tagsL, tagD, addT, tagA, lookN, tagOp, elmT, ty22, ty26, ty27, ty28, ty29, ty30, ty41, ty53, ty56, Nat.reduceEqDiff, if_false, reduceIte, Option.getD_some, Option.getD_none, dstAt, dstOk, Nat.reduceLT, decide_true, if_true]
  simp [Bridge.enc]
  refine stpL_runs (specCopyB (hR.app _) hsz) ?_
  rintro _ _ ⟨_, f1, rfl, ⟨a1, rfl, o1⟩, ⟨⟨G1, rfl⟩, hf1⟩⟩
  have hlt1 := o1.lt
  simp [Bridge.enc, e1, e2]
  obtain ⟨H3, hH3⟩ : ∃ H3 : Heap, H3 = H ++ some ⟨43, .wr, [[.i .i64 b.id, .sl a b.ports.length]]⟩ :: some ⟨43, .wr, [[.i .i64 0, .sl none 0]]⟩ :: (G1 ++ [some ⟨43, .wr, [[.i .i64 b.id, .sl a1 b.ports.length]]⟩]) := ⟨_, rfl⟩
  have b1 : blkAt H3 H.length = some ⟨43, .wr, [[.i .i64 b.id, .sl a b.ports.length]]⟩ := by rw [hH3]; simp
  have b2 : blkAt H3 (H.length + 1) = some ⟨43, .wr, [[.i .i64 0, .sl none 0]]⟩ := by rw [hH3]; simp
  have b3 : blkAt H3 (H.length + (G1.length + 1 + 1)) = some ⟨43, .wr, [[.i .i64 b.id, .sl a1 b.ports.length]]⟩ := by rw [hH3]; simp
  have o3 : Own H3 99 a1 (b.ports.map Port.enc) f1 := by
    rw [hH3]
    have := o1.app [some ⟨43, .wr, [[.i .i64 b.id, .sl a1 b.ports.length]]⟩]
    simpa [Bridge.enc] using this
  have k03 : Keep [] H H3 := by rw [hH3]; exact Keep.app _ _ _
  have n1 : H.length ∉ f1 := fun hi => by have := hf1 _ hi; simp only [List.length_append, List.length_cons, List.length_nil] at this; omega
  have n2 : H.length + 1 ∉ f1 := fun hi => by have := hf1 _ hi; simp only [List.length_append, List.length_cons, List.length_nil] at this; omega
  have n3 : H.length + (G1.length + 1 + 1) ∉ f1 := fun hi => by have := hlt1 _ hi; simp only [List.length_append, List.length_cons, List.length_nil] at this; omega
  have n0 : ∀ i ∈ f1, H.length ≤ i := fun i hi => by have := hf1 _ hi; simp only [List.length_append, List.length_cons, List.length_nil] at this; omega
  rw [← hH3]
  clear o1 hH3 hf1 hlt1
  refine wpS_loop (fun j tm H' => ∃ i, i + j = b.ports.length ∧ tm 1 = .ptr H.length 0 0 ∧ tm 2 = .ptr (H.length + 1) 0 0 ∧ tm 3 = .ptr (H.length + (G1.length + 1 + 1)) 0 0 ∧ tm 4 = .int (rootAt b) ∧ tm 6 = .int i ∧ Own H' 99 a1 ((mixL (decP b) b.ports i).map Port.enc) f1 ∧ Keep f1 H3 H') b.ports.length (by rw [env_K]; omega) ⟨0, by simp, by simp, by simp, by simp, by simp, by simp, by rw [mixL_zero]; exact o3, Keep.refl _ _⟩ ?_
  rintro j tm H1 hj ⟨i, hij, t1, t2, t3, t4, t6, ho1, hk1⟩ Q' hn' he' hr'
  have c1 := hk1.blk b1 n1
  have c2 := hk1.blk b2 n2
  have c3 := hk1.blk b3 n3
  have d1 := blkAt_len c1
  have d2 := blkAt_len c2
  have d3 := blkAt_len c3
  have k01 : Keep [] H H1 := k03.next hk1 n0
  simp [t1, t6, c1, builtinV, pureB, lenV]
  refine selS_intro (fun hc => ?_) (fun hc => ?_)
  · simp at hc
    have hR1 := hR.base k01
    have h1 := h_.keep k01 (by simp)
    obtain ⟨id2, r2, bl2, rfl, hbl, hbe, hrow⟩ := h1 i _ (by simp [hc]; rfl)
    have hid2 := blkAt_len hbl
    obtain ⟨pid, pb, rfl, rfl, hpb, hpe, hpm, hpre⟩ := ho1.blk (by intro h; have := congrArg List.length h; simp only [List.length_map, mixL_len, List.length_nil] at this; omega)
    have hpl := blkAt_len hpb
    obtain ⟨t, ht⟩ := hpre
    have hrw : ∃ row, pb.rows[i]? = some row ∧ row.length = 11 := by
      refine ⟨b.ports[i].enc, ?_, rfl⟩
      rw [← ht, List.getElem?_append_left (by simp; omega), List.getElem?_map, mixL_at _ _ (Nat.le_refl _), List.getElem?_eq_getElem hc]; rfl
    obtain ⟨row0, hrw, hrlen⟩ := hrw
    obtain ⟨hrl, hrw⟩ := List.getElem?_eq_some_iff.1 hrw
    have hdrop : row0.drop 11 = [] := List.drop_of_length_le (by omega)
    have g4 : IntKind.i64.wrap ((i : Int) + 1) = (i : Int) + 1 := wrap64 (by omega) (by omega)
    have eo := fun G => specOwn (hR1.app G) hok (port := (i : Int)) (by omega) (by omega)
    simp only [Bridge.enc] at eo
    have next : ∀ (tm' : Ab.T) (G' : Heap) (row : List Lf), tm' 1 = .ptr H.length 0 0 → tm' 2 = .ptr (H.length + 1) 0 0 → tm' 3 = .ptr (H.length + (G1.length + 1 + 1)) 0 0 → tm' 4 = .int (rootAt b) → tm' 6 = .int ((i : Int) + 1) → row = (decP b i b.ports[i]).enc → Q' .normal tm' (H1.set pid (some ⟨99, .wr, pb.rows.set i row⟩) ++ G') := by
      rintro tm' G' row a1 a2 a3 a4 a6 rfl
      refine hn' (j - 1) _ _ (by omega) ⟨i + 1, by omega, a1, a2, a3, a4, by simpa using a6, ?_, ?_⟩
      · have := ho1.set (row := (decP b i b.ports[i]).enc) hpb (i := i) (by simp; omega)
        rw [hpm, hpe] at this
        rw [← mixL_step _ _ hc, List.map_set]
        exact this.app _
      · exact Keep.trans (h := [pid]) (hk1.trans (h := [pid]) (Keep.set _ _) (by simp) (by simp)) (Keep.app [] _ _) (by simp) (by simp)
    have keepit : ∀ (tm' : Ab.T) (G' : Heap), tm' 1 = .ptr H.length 0 0 → tm' 2 = .ptr (H.length + 1) 0 0 → tm' 3 = .ptr (H.length + (G1.length + 1 + 1)) 0 0 → tm' 4 = .int (rootAt b) → tm' 6 = .int ((i : Int) + 1) → b.ports[i].up = false → Q' .normal tm' (H1 ++ G') := by
      intro tm' G' a1 a2 a3 a4 a6 hu
      refine hn' (j - 1) _ _ (by omega) ⟨i + 1, by omega, a1, a2, a3, a4, by simpa using a6, ?_, hk1.trans (Keep.app [] _ _) (by simp) (by simp)⟩
      rw [mixL_same _ _ hc (by unfold decP; rw [if_neg (by rw [hu]; simp)])]
      exact ho1.app _
    obtain ⟨p, hp⟩ : ∃ p, p = b.ports[i] := ⟨_, rfl⟩
    rw [← hp] at hrow next keepit
    have eT : ∀ H role, run env 162 [.agg [.b p.up, .b p.has, .i .i64 p.vec.root, .i .i64 p.vec.cost, .i .i64 p.vec.bridge, .i .i64 p.vec.port, .i .i64 p.hops, .i .i64 p.left, .i .i64 p.role, .i .i64 p.wait, .b p.opn], .int role] H = some (.agg (turnP p role).enc, H) := fun H role => specTurn H p role
    have eB : ∀ H, run env 159 [.agg [.i .i64 p.vec.root, .i .i64 p.vec.cost, .i .i64 p.vec.bridge, .i .i64 p.vec.port], .agg (ownV b i).enc] H = some (.bool (better p.vec (ownV b i)), H) := fun H => specBetter H p.vec (ownV b i)
    simp only [Port.enc] at hrow
    simp [t1, t2, t3, t4, t6, c1, c2, c3, d1, d2, d3, indexAddrV, elemIs, hid2, hbl, hbe, hc, hrow]
    have fin : ∀ role, roleB b i p = role → p.up = true → decP b i p = turnP p role := fun role h1 h2 => by rw [decP, if_pos h2, h1]
    cases hup : p.up
    · rw [hup] at hrow eT
      by_cases hir : (i : Int) = rootAt b
      · simp [hir, t1, t2, t3, t4, t6]
        rw [← hir]
        simp [t1, t2, t3, t4, t6, g4]
        exact keepit _ _ (by simp [t1]) (by simp [t2]) (by simp [t3]) (by simp [t4]) (by simp) hup
      · simp [hir]
        cases hha : p.has
        · simp [t1, t2, t3, t4, t6, g4]
          exact keepit _ _ (by simp [t1]) (by simp [t2]) (by simp [t3]) (by simp [t4]) (by simp) hup
        · simp [t1, t6, c1, d1, eo, eB]
          refine selS_intro (fun hd => ?_) (fun hd => ?_)
          all_goals (simp [t1, t2, t3, t4, t6, g4]; exact keepit _ _ (by simp [t1]) (by simp [t2]) (by simp [t3]) (by simp [t4]) (by simp) hup)
    rw [hup] at hrow eT
    by_cases hir : (i : Int) = rootAt b
    · simp [hir, t1, t2, t3, t4, t6]
      rw [← hir]
      simp [t1, t2, t3, t4, t6, c1, c2, c3, d1, d2, d3, indexAddrV, elemIs, hpl, hpb, hpe, hpm, hc, hrw, hrlen, hdrop, hrl, eT, g4]
      exact next _ _ _ (by simp [t1]) (by simp [t2]) (by simp [t3]) (by simp [t4]) (by simp) (by rw [fin 1 (by simp [roleB, hir]) hup])
    · simp [hir]
      cases hha : p.has
      · rw [hha] at hrow eT
        simp [t1, t2, t3, t4, t6, c1, c2, c3, d1, d2, d3, indexAddrV, elemIs, hpl, hpb, hpe, hpm, hc, hrw, hrlen, hdrop, hrl, eT, g4]
        exact next _ _ _ (by simp [t1]) (by simp [t2]) (by simp [t3]) (by simp [t4]) (by simp) (by rw [fin 2 (by simp [roleB, hir, hha]) hup])
      · rw [hha] at hrow eT
        simp [t1, t6, c1, d1, eo, eB]
        refine selS_intro (fun hd => ?_) (fun hd => ?_)
        · simp [t1, t2, t3, t4, t6, c1, c2, c3, d1, d2, d3, indexAddrV, elemIs, hpl, hpb, hpe, hpm, hc, hrw, hrlen, hdrop, hrl, eT, g4]
          exact next _ _ _ (by simp [t1]) (by simp [t2]) (by simp [t3]) (by simp [t4]) (by simp) (by rw [fin 3 (by simp [roleB, hir, hha, hd]) hup])
        · simp [t1, t2, t3, t4, t6, c1, c2, c3, d1, d2, d3, indexAddrV, elemIs, hpl, hpb, hpe, hpm, hc, hrw, hrlen, hdrop, hrl, eT, g4]
          exact next _ _ _ (by simp [t1]) (by simp [t2]) (by simp [t3]) (by simp [t4]) (by simp) (by rw [fin 2 (by simp [roleB, hir, hha, hd]) hup])
  · simp at hc
    obtain rfl : i = b.ports.length := by omega
    simp [t1, t6]
    refine he' _ _ _ ?_
    simp [t2, t3, c2, c3, d2, d3]
    refine hQ _ _ _ (by simp) ?_
    rw [mixL_all _ _ (Nat.le_refl _)] at ho1
    simp [Tryz.f139, t2, blkAt_set d2]
    have kf : Keep [] H (H1.set (H.length + 1) (some ⟨43, .wr, [[.i .i64 b.id, .sl a1 b.ports.length]]⟩)) := k01.next (Keep.set _ _) (by simp)
    have ho : IsBridge (H1.set (H.length + 1) (some ⟨43, .wr, [[.i .i64 b.id, .sl a1 b.ports.length]]⟩)) [.i .i64 b.id, .sl a1 b.ports.length] (decideB b) f1 := ⟨a1, by simp [Bridge.enc, decideB], ho1.keep (Keep.set _ _) (fun i hi hj => by simp at hj; subst hj; exact n2 hi)⟩
    exact ho.leave ⟨kf.ext, n0⟩ (by simp)

theorem leave_both (H H' : Heap) (ws : List W) : leave H H' ws = H' ∨ (leave H H' ws = H ∧ ws.all W.free = true ∧ ∃ G, H' = H ++ G) := by
  unfold leave
  split
  · rename_i h
    refine .inr ⟨rfl, h.1, H'.drop H.length, ?_⟩
    have := List.take_append_drop H.length H'
    rw [h.2] at this
    exact this.symm
  · exact .inl rfl
theorem grow_next {H2 H' H'' T : Heap} {fp' fp'' : List Nat} (hK : Keep [] H2 H') (hf : ∀ j ∈ fp', H2.length ≤ j) (hk : Keep fp' (H' ++ T) H'') (h : ∀ j ∈ fp'', j ∈ fp' ∨ (H' ++ T).length ≤ j) : Keep [] H2 H'' ∧ ∀ j ∈ fp'', H2.length ≤ j := by
  have h1 := hK.1
  refine ⟨(Keep.trans (h := []) hK (Keep.app [] H' T) (by simp) (by simp)).next hk hf, fun j hj => ?_⟩
  rcases h j hj with h2 | h2
  · exact hf j h2
  · rw [List.length_append] at h2; omega
theorem keep_more0 {H H' : Heap} (h : Keep [] H H') (T : Heap) : Keep [] H (H' ++ T) := Keep.trans (h := []) h (Keep.app [] _ _) (by simp) (by simp)

def upPort : Port := ⟨true, false, ⟨0, 0, 0, 0⟩, 0, 0, 3, 0, false⟩
def inB (b : Bridge) (x : In) : Bridge := if x.kind = 1 then ⟨b.id, b.ports.set x.port.toNat (claimP (b.ports.getD x.port.toNat default) x.vec x.hops)⟩ else if x.kind = 2 then tickB b else ⟨b.id, b.ports.set x.port.toNat (if x.up = true then upPort else Port.zv)⟩
/-- A link that is as it was: nothing turns. -/
def quiet (b : Bridge) (x : In) : Prop := x.kind = 3 ∧ (b.ports.getD x.port.toNat default).up = x.up
instance (b : Bridge) (x : In) : Decidable (quiet b x) := inferInstanceAs (Decidable (_ ∧ _))
def nextB (b : Bridge) (x : In) : Bridge := if quiet b x then b else decideB (inB b x)
theorem inB_id (b : Bridge) (x : In) : (inB b x).id = b.id := by unfold inB; split <;> (try split) <;> rfl
theorem inB_len (b : Bridge) (x : In) : (inB b x).ports.length = b.ports.length := by unfold inB; split <;> (try split) <;> simp [tickB]
theorem set_ok {b : Bridge} (h : b.ok = true) {k : Nat} {p : Port} (hp : p.ok = true) : (⟨b.id, b.ports.set k p⟩ : Bridge).ok = true := by
  obtain ⟨h1, h2⟩ := Bridge.ok_all h
  refine Bridge.ok_of (fun q hq => ?_) (by simpa using h2)
  rcases List.mem_or_eq_of_mem_set hq with hq | rfl
  · exact h1 _ hq
  · exact hp
theorem upPort_ok : upPort.ok = true := by decide
theorem zv_ok : Port.zv.ok = true := by decide
theorem inB_ok {b : Bridge} {x : In} (h : b.ok = true) (hk : x.port.toNat < b.ports.length) : (inB b x).ok = true := by
  unfold inB
  split
  · refine set_ok h (claimP_ok _ _ ?_)
    simp only [List.getD, List.getElem?_eq_getElem hk, Option.getD_some]
    exact Bridge.ok_at h hk
  · split
    · exact tickB_ok h
    · refine set_ok h ?_
      split
      · exact upPort_ok
      · exact zv_ok
theorem nextB_ok {b : Bridge} {x : In} (h : b.ok = true) (hk : x.port.toNat < b.ports.length) : (nextB b x).ok = true := by
  unfold nextB
  split
  · exact h
  · exact decideB_ok (inB_ok h hk)
theorem nextB_id (b : Bridge) (x : In) : (nextB b x).id = b.id := by
  unfold nextB; split
  · rfl
  · simp [decideB, inB_id]
theorem nextB_len (b : Bridge) (x : In) : (nextB b x).ports.length = b.ports.length := by
  unfold nextB; split
  · rfl
  · simp [decideB, inB_len]
theorem In.ok_kind {x : In} (h : x.ok = true) : (x.kind = 1 ∨ x.kind = 2 ∨ x.kind = 3) ∧ 0 ≤ x.port ∧ x.port ≤ 3 := by
  unfold In.ok at h
  split at h
  · rename_i h1
    simp at h
    exact ⟨.inl h1, h.1.1.1⟩
  · split at h
    · rename_i h1
      simp at h
      exact ⟨.inr (.inr h1), h.1.1⟩
    · simp at h
      rw [h]
      decide

theorem l8InM {H : Heap} {l : List Lf} {b : Bridge} {fp : List Nat} (h : IsBridge H l b fp) (hok : b.ok = true) (x : In) (hx : x.ok = true) {k : Nat} (hk : x.port = k) (hkl : k < b.ports.length) :
    Runs env 101 [.agg l, .agg x.enc] H fun v H' => ∃ l' fp', v = .agg l' ∧ IsBridge H' l' (nextB b x) fp' ∧ Keep fp H H' ∧ (∀ i ∈ fp', i ∈ fp ∨ H.length ≤ i) := by
  obtain ⟨hpok, -, -, hl1, hl4⟩ := Bridge.ok_all hok
  have hlt := h.lt
  obtain ⟨a, rfl, ho⟩ := h
  obtain ⟨pid, pb, rfl, rfl, hpb, hpe, hpm, hpre⟩ := ho.blk (by intro h; have := congrArg List.length h; simp only [List.length_map, List.length_nil] at this; omega)
  have hxk := (In.ok_kind hx).1
  have hkT : x.port.toNat = k := by omega
  have hgd : b.ports.getD x.port.toNat default = b.ports[k] := by rw [hkT]; simp [List.getD, List.getElem?_eq_getElem hkl]
  have hkl2 : (k : Int) < (b.ports.length : Int) := by omega
  have hpl := blkAt_len hpb
  obtain ⟨t, ht⟩ := hpre
  have hrw0 : pb.rows[k]? = some b.ports[k].enc := by
    rw [← ht, List.getElem?_append_left (by simp; omega), List.getElem?_map, List.getElem?_eq_getElem hkl]; rfl
  obtain ⟨hrl, hrw⟩ := List.getElem?_eq_some_iff.1 hrw0
  refine Runs.walk ok101 Tryz.func101 rfl (by simp [Tryz.f101]) fun Q hQ => ?_
  simp only [Tryz.f101, strip, stripL, stripI, stripG, chkT, tagsB, tagsL, tagD, addT, tagA, lookN, tagOp, elmT, ty22, ty26, ty27, ty28, ty29, ty30, ty41, ty53, ty56, Nat.reduceEqDiff, if_false, reduceIte, Option.getD_some, Option.getD_none, dstAt, dstOk, Nat.reduceLT, decide_true, if_true]
  simp [Bridge.enc, In.enc]
  obtain ⟨H3, hH3⟩ : ∃ H3 : Heap, H3 = H ++ [some ⟨43, .wr, [[.i .i64 b.id, .sl (some (pid, 0)) b.ports.length]]⟩, some ⟨64, .wr, [[.i .i64 x.kind, .i .i64 x.port, .i .i64 x.vec.root, .i .i64 x.vec.cost, .i .i64 x.vec.bridge, .i .i64 x.vec.port, .i .i64 x.hops, .b x.up]]⟩, some ⟨43, .wr, [[.i .i64 0, .sl none 0]]⟩] := ⟨_, rfl⟩
  have b1 : blkAt H3 H.length = some ⟨43, .wr, [[.i .i64 b.id, .sl (some (pid, 0)) b.ports.length]]⟩ := by rw [hH3]; simp
  have b2 : blkAt H3 (H.length + 1) = some ⟨64, .wr, [[.i .i64 x.kind, .i .i64 x.port, .i .i64 x.vec.root, .i .i64 x.vec.cost, .i .i64 x.vec.bridge, .i .i64 x.vec.port, .i .i64 x.hops, .b x.up]]⟩ := by rw [hH3]; simp
  have b3 : blkAt H3 (H.length + 2) = some ⟨43, .wr, [[.i .i64 0, .sl none 0]]⟩ := by rw [hH3]; simp
  have o3 : Own H3 99 (some (pid, 0)) (b.ports.map Port.enc) [pid] := by rw [hH3]; exact ho.app _
  have p3 : blkAt H3 pid = some pb := by rw [hH3]; exact blkAt_app hpb _
  have k03 : Keep [] H H3 := by rw [hH3]; exact Keep.app _ _ _
  have hl3 : H3.length = H.length + 3 := by rw [hH3]; simp
  rw [← hH3]
  clear hH3
  have n1 : H.length ∉ [pid] := by simp; omega
  have n3 : H.length + 2 ∉ [pid] := by simp; omega
  have d1 := blkAt_len b1
  have d2 := blkAt_len b2
  have dp := blkAt_len p3
  obtain ⟨p, hp⟩ : ∃ p, p = b.ports[k] := ⟨_, rfl⟩
  rw [← hp] at hrw hgd
  have fin : ∀ (Hf : Heap) (tm : Ab.T) (c : Bridge) (pid2 : Nat) (fp2 : List Nat), tm 4 = .ptr (H.length + 2) 0 0 → blkAt Hf (H.length + 2) = some ⟨43, .wr, [[.i .i64 c.id, .sl (some (pid2, 0)) c.ports.length]]⟩ → Own Hf 99 (some (pid2, 0)) (c.ports.map Port.enc) fp2 → c = nextB b x → Keep [pid] H Hf → (∀ i ∈ fp2, i ∈ [pid] ∨ H.length ≤ i) → Q .ret tm Hf := by
    intro Hf tm c pid2 fp2 t4 hb4 ho4 hc hK hfp
    refine hQ _ _ _ (by simp) ?_
    have hlv : leave H Hf [W.agg [.i .i64 c.id, .sl (some (pid2, 0)) c.ports.length]] = Hf := by simp [leave, refFree]
    simp [Tryz.f101, t4, hb4, hlv]
    exact ⟨fp2, ⟨some (pid2, 0), by rw [hc]; rfl, by rw [← hc]; exact ho4⟩, hK, by simpa using hfp⟩
  refine selS_cut (f1 := [.blk 0]) (fun tm H' => ¬ quiet b x ∧ tm 2 = .ptr H.length 0 0 ∧ tm 4 = .ptr (H.length + 2) 0 0 ∧ Own H' 99 (some (pid, 0)) ((inB b x).ports.map Port.enc) [pid] ∧ Keep [pid] H3 H') ?_ ?_
  · intro Q' hn' he' hr'
    rcases hxk with hx1 | hx2 | hx3
    · have eC : ∀ H, run env 137 [.agg [.b p.up, .b p.has, .i .i64 p.vec.root, .i .i64 p.vec.cost, .i .i64 p.vec.bridge, .i .i64 p.vec.port, .i .i64 p.hops, .i .i64 p.left, .i .i64 p.role, .i .i64 p.wait, .b p.opn], .agg [.i .i64 x.vec.root, .i .i64 x.vec.cost, .i .i64 x.vec.bridge, .i .i64 x.vec.port], .int x.hops] H = some (.agg (claimP p x.vec x.hops).enc, H) := fun H => specClaim H p x.vec x.hops
      rw [hx1] at b2 ⊢
      simp [b1, b2, d1, d2, hk, indexAddrV, elemIs, dp, p3, hpe, hpm, hkl2, hkl, hrl, hrw, Port.enc, eC]
      refine hn' _ _ ⟨by unfold quiet; omega, by simp, by simp, ?_, Keep.set _ _⟩
      have := o3.set (row := (claimP p x.vec x.hops).enc) p3 (i := k) (by simp; omega)
      rw [hpm, hpe] at this
      unfold inB
      rw [if_pos hx1, hgd, hkT, List.map_set]
      exact this
    · rw [hx2] at b2 ⊢
      simp [b1, b2, d1, d2]
      refine wpS_loop (fun j tm H' => ∃ i, i + j = b.ports.length ∧ tm 2 = .ptr H.length 0 0 ∧ tm 4 = .ptr (H.length + 2) 0 0 ∧ tm 5 = .int i ∧ Own H' 99 (some (pid, 0)) ((mixL (fun _ p => tickP p) b.ports i).map Port.enc) [pid] ∧ Keep [pid] H3 H') b.ports.length (by rw [env_K]; omega) ⟨0, by simp, by simp, by simp, by simp, by rw [mixL_zero]; exact o3, Keep.refl _ _⟩ ?_
      rintro j tm H1 hj ⟨i, hij, t2, t4, t5, ho1, hk1⟩ Q2 hn2 he2 hr2
      have c1 := hk1.blk b1 n1
      have e1 := blkAt_len c1
      simp [t2, t4, t5, c1, e1, builtinV, pureB, lenV]
      refine selS_intro (fun hc => ?_) (fun hc => ?_)
      · simp at hc
        obtain ⟨pid', qb, hxx, -, hqb, hqe, hqm, hpre'⟩ := ho1.blk (by intro h; have := congrArg List.length h; simp only [List.length_map, mixL_len, List.length_nil] at this; omega)
        cases hxx
        have hql := blkAt_len hqb
        obtain ⟨t', ht'⟩ := hpre'
        have hrw1 : qb.rows[i]? = some b.ports[i].enc := by
          rw [← ht', List.getElem?_append_left (by simp; omega), List.getElem?_map, mixL_at _ _ (Nat.le_refl _), List.getElem?_eq_getElem hc]; rfl
        obtain ⟨hrl1, hrw1⟩ := List.getElem?_eq_some_iff.1 hrw1
        have g4 : IntKind.i64.wrap ((i : Int) + 1) = (i : Int) + 1 := wrap64 (by omega) (by omega)
        have eT := fun H => l8Tick H b.ports[i] (hpok _ (List.getElem_mem hc))
        simp [t2, t4, t5, c1, e1, indexAddrV, elemIs, hql, hqb, hqe, hqm, hc, hrl1, hrw1, eT, g4]
        refine hn2 (j - 1) _ _ (by omega) ⟨i + 1, by omega, by simp [t2], by simp [t4], by simp, ?_, hk1.trans (h := [pid]) (Keep.set _ _) (by simp) (by simp)⟩
        have := ho1.set (row := (tickP b.ports[i]).enc) hqb (i := i) (by simp; omega)
        rw [hqm, hqe] at this
        rw [← mixL_step _ _ hc, List.map_set]
        exact this
      · simp at hc
        obtain rfl : i = b.ports.length := by omega
        simp [t2, t4, t5]
        refine he2 _ _ _ ?_
        simp
        refine hn' _ _ ⟨by unfold quiet; omega, by simp [t2], by simp [t4], ?_, hk1⟩
        rw [mixL_all _ _ (Nat.le_refl _)] at ho1
        unfold inB
        rw [if_neg (by omega), if_pos hx2]
        exact ho1
    · rw [hx3] at b2 ⊢
      simp [b1, b2, d1, d2, hk, indexAddrV, elemIs, dp, p3, hpe, hpm, hkl2, hkl, hrl, hrw, Port.enc]
      by_cases hup : p.up = x.up
      · have hq : quiet b x := ⟨hx3, by rw [hgd]; exact hup⟩
        have b4 := blkAt_len b3
        simp [hup, b1, b3, d1, b4]
        refine hr' _ _ ?_
        simp
        refine fin _ _ b pid [pid] (by simp) (by rw [blkAt_set b4]) (o3.keep (Keep.set _ _) (by simp; omega)) (by rw [nextB, if_pos hq]) ?_ (by simp)
        exact (k03.trans (h := [pid]) (Keep.set _ _) (by simp) (by simp; omega))
      · have hq : ¬ quiet b x := fun h => hup (by have := h.2; rwa [hgd] at this)
        simp [hup, b1, b2, d1, d2, hk, indexAddrV, elemIs, dp, p3, hpe, hpm, hkl2, hkl, hrl, hrw, Port.enc]
        have hset : ∀ q : Port, q = (if x.up = true then upPort else Port.zv) → Own (H3.set pid (some ⟨99, .wr, pb.rows.set k q.enc⟩)) 99 (some (pid, 0)) ((inB b x).ports.map Port.enc) [pid] := by
          intro q hq2
          have := o3.set (row := q.enc) p3 (i := k) (by simp; omega)
          rw [hpm, hpe] at this
          unfold inB
          rw [if_neg (by omega), if_neg (by omega), hkT, List.map_set, ← hq2]
          exact this
        have b1' := fun y => (Keep.set (id := pid) H3 y).blk b1 n1
        have b2' := fun y => (Keep.set (id := pid) H3 y).blk b2 (by simp; omega)
        cases hxu : x.up
        · rw [hxu] at b2' hset
          simp [b1', b2', d1, d2]
          refine hn' _ _ ⟨hq, by simp, by simp, ?_, Keep.set _ _⟩
          have := hset Port.zv (by simp)
          simpa [Port.enc] using this
        · rw [hxu] at b2' hset
          simp [b1', b2', d1, d2, dp, hpe, hpm, blkAt_set dp, indexAddrV, elemIs, hkl2, hkl, hrl, hk]
          refine hn' _ _ ⟨hq, by simp, by simp, ?_, Keep.set _ _⟩
          have := hset upPort (by simp)
          simpa [Port.enc, upPort] using this
  · rintro tm H1 ⟨hnq, t2, t4, ho1, hk1⟩
    have c1 := hk1.blk b1 n1
    have c3 := hk1.blk b3 n3
    have e1 := blkAt_len c1
    have e3 := blkAt_len c3
    have hR : RdBridge H1 [.i .i64 b.id, .sl (some (pid, 0)) b.ports.length] (inB b x) := ⟨some (pid, 0), by simp [Bridge.enc, inB_id, inB_len], ho1.sl⟩
    simp [t2, t4, c1, e1]
    refine stpL_runs (specDecide hR (inB_ok hok (by omega))) ?_
    rintro _ _ ⟨_, f2, rfl, ⟨a2, rfl, o2⟩, ⟨⟨G2, rfl⟩, hf2⟩⟩
    have hlen2 : (decideB (inB b x)).ports.length = b.ports.length := by simp [decideB, inB_len]
    obtain ⟨pid2, pb2, rfl, rfl, hpb2, -⟩ := o2.blk (by intro h; have := congrArg List.length h; simp only [List.length_map, List.length_nil] at this; omega)
    simp [Bridge.enc, t4, c3, e3]
    have e3' : H.length + 2 < (H1.set (H.length + 2) (some ⟨43, .wr, [[.i .i64 (decideB (inB b x)).id, .sl (some (pid2, 0)) (decideB (inB b x)).ports.length]]⟩)).length := by simp; exact e3
    have h13 := hk1.1
    have hp2 := hf2 pid2 (by simp)
    refine fin _ _ (decideB (inB b x)) pid2 [pid2] (by simp [t4]) ?_ ?_ (by rw [nextB, if_neg hnq]) ?_ (by simp; omega)
    · rw [blkAt_lt e3', blkAt_set e3]
    · have := o2.keep (Keep.set (id := H.length + 2) (H1 ++ G2) (some ⟨43, .wr, [[.i .i64 (decideB (inB b x)).id, .sl (some (pid2, 0)) (decideB (inB b x)).ports.length]]⟩)) (by simp; omega)
      rwa [set_lt e3] at this
    · have ha : Keep [pid] H H1 := k03.trans (h := [pid]) hk1 (by simp) (by simp)
      have hb : Keep [pid] H (H1 ++ G2) := ha.trans (h := [pid]) (Keep.app [] _ _) (by simp) (by simp)
      have := hb.trans (h := [pid]) (Keep.set (id := H.length + 2) (H1 ++ G2) (some ⟨43, .wr, [[.i .i64 (decideB (inB b x)).id, .sl (some (pid2, 0)) (decideB (inB b x)).ports.length]]⟩)) (by simp) (by simp; omega)
      rwa [set_lt e3] at this

def gateAt (b c : Bridge) (i : Nat) : List Out := match b.ports[i]?, c.ports[i]? with
  | some p, some q => if q.opn = p.opn then [] else [⟨2, i, ⟨0, 0, 0, 0⟩, 0, q.opn⟩]
  | _, _ => []
def claimAt (c : Bridge) (i : Nat) : List Out := match c.ports[i]? with
  | some q => if q.role = 2 then [⟨1, i, ownV c i, hopsB c, false⟩] else []
  | none => []
theorem gateAt_len (b c : Bridge) (i : Nat) : (gateAt b c i).length ≤ 1 := by
  unfold gateAt; split
  · split <;> simp
  · simp
theorem claimAt_len (c : Bridge) (i : Nat) : (claimAt c i).length ≤ 1 := by
  unfold claimAt; split
  · split <;> simp
  · simp
theorem gateAt_same (b : Bridge) : ∀ i, upto (gateAt b b) i = []
  | 0 => rfl
  | i + 1 => by
    rw [upto, gateAt_same b i]
    unfold gateAt
    cases b.ports[i]? <;> simp
def outsB (b c : Bridge) (x : In) : List Out := upto (gateAt b c) b.ports.length ++ (if x.kind = 2 then upto (claimAt c) b.ports.length else [])
def reactB (b : Bridge) (x : In) : Bridge × List Out := if (b.ok && x.ok && decide (x.port < b.ports.length)) = true then (nextB b x, outsB b (nextB b x) x) else (b, [])
theorem reactB_yes {b : Bridge} {x : In} (h1 : b.ok = true) (h2 : x.ok = true) (h3 : x.port < b.ports.length) : reactB b x = (nextB b x, outsB b (nextB b x) x) := by simp [reactB, h1, h2, h3]
theorem reactB_no {b : Bridge} {x : In} (h : ¬ (b.ok = true ∧ x.ok = true ∧ x.port < b.ports.length)) : reactB b x = (b, []) := by
  unfold reactB
  rw [if_neg]
  simp
  intro h1 h2
  exact Int.not_lt.1 fun h3 => h ⟨h1, h2, h3⟩
theorem quiet_outs {b : Bridge} {x : In} (h : quiet b x) : outsB b (nextB b x) x = [] := by
  unfold outsB nextB
  rw [if_pos h, gateAt_same, if_neg (by rw [h.1]; decide)]
  rfl
theorem outsB_len (b c : Bridge) (x : In) : (outsB b c x).length ≤ 2 * b.ports.length := by
  unfold outsB
  have h1 := upto_len (gateAt_len b c) b.ports.length
  have h2 := upto_len (claimAt_len c) b.ports.length
  rw [List.length_append]
  split
  · omega
  · simp; omega
theorem reactB_id (b : Bridge) (x : In) : (reactB b x).1.id = b.id := by
  unfold reactB; split
  · exact nextB_id b x
  · rfl
theorem reactB_len (b : Bridge) (x : In) : (reactB b x).1.ports.length = b.ports.length := by
  unfold reactB; split
  · exact nextB_len b x
  · rfl
theorem reactB_outs (b : Bridge) (x : In) : (reactB b x).2.length ≤ 2 * b.ports.length := by
  unfold reactB; split
  · exact outsB_len _ _ _
  · simp
theorem reactB_ok {b : Bridge} (x : In) (h : b.ok = true) : (reactB b x).1.ok = true := by
  unfold reactB; split
  · rename_i h1
    simp at h1
    have := (In.ok_kind h1.1.2).2
    exact nextB_ok h (by omega)
  · exact h

theorem reactM {H : Heap} {id ro : Nat} {blo : Blk} {b : Bridge} {a : Option (Nat × Nat)} {fp : List Nat} (hb : blkAt H id = some blo) (hbe0 : blo.elem = 43) (hrow0 : blo.rows[ro]? = some (b.enc a)) (ho : Own H 99 a (b.ports.map Port.enc) fp) (hidf : id ∉ fp) (hok : b.ok = true) (x : In) (hx : x.ok = true) {k : Nat} (hk : x.port = k) (hkl : k < b.ports.length) :
    Runs env 96 [.ptr id ro 0, .agg x.enc] H fun v H' => ∃ q fp2, v = .w (.lf q) ∧ IsOutS H' q (outsB b (nextB b x) x) fp2 ∧ Own H' 99 a ((nextB b x).ports.map Port.enc) fp ∧ Keep fp H H' ∧ (∀ i ∈ fp2, H.length ≤ i) := by
  obtain ⟨hpok, -, -, hl1, hl4⟩ := Bridge.ok_all hok
  obtain ⟨pid, pb, rfl, rfl, hpb, hpe, hpm, hpre⟩ := ho.blk (by intro h; have := congrArg List.length h; simp only [List.length_map, List.length_nil] at this; omega)
  have hxk := (In.ok_kind hx).1
  have hkT : x.port.toNat = k := by omega
  have hgd : b.ports.getD x.port.toNat default = b.ports[k] := by rw [hkT]; simp [List.getD, List.getElem?_eq_getElem hkl]
  have hkl2 : (k : Int) < (b.ports.length : Int) := by omega
  have hpl := blkAt_len hpb
  have hid0 := blkAt_len hb
  obtain ⟨t, ht⟩ := hpre
  have hrw0 : pb.rows[k]? = some b.ports[k].enc := by
    rw [← ht, List.getElem?_append_left (by simp; omega), List.getElem?_map, List.getElem?_eq_getElem hkl]; rfl
  obtain ⟨hrl, hrw⟩ := List.getElem?_eq_some_iff.1 hrw0
  have hrowE := hrow0
  simp only [Bridge.enc] at hrow0
  refine Runs.walk ok96 Tryz.func96 rfl (by simp [Tryz.f96]) fun Q hQ => ?_
  simp only [Tryz.f96, strip, stripL, stripI, stripG, chkT, tagsB, tagsL, tagD, addT, tagA, lookN, tagOp, elmT, ty22, ty26, ty27, ty28, ty29, ty30, ty41, ty53, ty56, Nat.reduceEqDiff, if_false, reduceIte, Option.getD_some, Option.getD_none, dstAt, dstOk, Nat.reduceLT, decide_true, if_true]
  simp [hb, hid0, hbe0, hrow0, In.enc]
  refine stpL_runs (clonePortS (q := .sl (some (pid, 0)) b.ports.length) ⟨some (pid, 0), rfl, ho.sl.app _⟩ (by omega)) ?_
  rintro _ _ ⟨_, f2, rfl, ⟨aw, rfl, ow⟩, ⟨⟨G1, rfl⟩, hf2⟩⟩
  simp only [List.append_assoc, List.cons_append, List.nil_append] at ow
  simp only [List.append_assoc, List.cons_append, List.nil_append]
  obtain ⟨H3, hH3⟩ : ∃ H3 : Heap, H3 = H ++ some ⟨64, .wr, [[.i .i64 x.kind, .i .i64 x.port, .i .i64 x.vec.root, .i .i64 x.vec.cost, .i .i64 x.vec.bridge, .i .i64 x.vec.port, .i .i64 x.hops, .b x.up]]⟩ :: G1 := ⟨_, rfl⟩
  have b2 : blkAt H3 H.length = some ⟨64, .wr, [[.i .i64 x.kind, .i .i64 x.port, .i .i64 x.vec.root, .i .i64 x.vec.cost, .i .i64 x.vec.bridge, .i .i64 x.vec.port, .i .i64 x.hops, .b x.up]]⟩ := by rw [hH3]; simp
  have o3 : Own H3 99 (some (pid, 0)) (b.ports.map Port.enc) [pid] := by rw [hH3]; exact ho.app _
  have p3 : blkAt H3 pid = some pb := by rw [hH3]; exact blkAt_app hpb _
  have hb3 : blkAt H3 id = some blo := by rw [hH3]; exact blkAt_app hb _
  have k03 : Keep [] H H3 := by rw [hH3]; exact Keep.app _ _ _
  rw [← hH3] at ow ⊢
  clear hH3
  have d2 := blkAt_len b2
  have dp := blkAt_len p3
  have db := blkAt_len hb3
  have hw0 := ow.sl
  have hf2' : ∀ i ∈ f2, i ∉ [pid] := fun i hi => by have := hf2 i hi; simp only [List.length_append, List.length_cons, List.length_nil] at this; simp; omega
  have hnp : H.length ∉ [pid] := by simp; omega
  have hpid : id ≠ pid := by simpa using hidf
  obtain ⟨p, hp⟩ : ∃ p, p = b.ports[k] := ⟨_, rfl⟩
  rw [← hp] at hrw hgd
  have fin : ∀ (Hf : Heap) (tm : Ab.T) (q : Lf) (fp2 : List Nat), tm 4 = .w (.lf q) → IsOutS Hf q (outsB b (nextB b x) x) fp2 → Own Hf 99 (some (pid, 0)) ((nextB b x).ports.map Port.enc) [pid] → Keep [pid] H Hf → (∀ i ∈ fp2, H.length ≤ i) → Q .ret tm Hf := by
    intro Hf tm q fp2 t4 hq ho4 hK hfp
    refine hQ _ _ _ (by simp) ?_
    simp [Tryz.f96, t4]
    rcases leave_both H Hf [W.lf q] with e | ⟨e, hfr, G, rfl⟩ <;> rw [e]
    · exact ⟨fp2, hq, ho4, hK, hfp⟩
    · exact ⟨[], hq.free (by simpa using hfr) H, ho4.unapp (by simpa using hpl), Keep.refl _ _, by simp⟩
  simp [hb3, db, hbe0, hrow0, hpid, b2, d2, indexAddrV, elemIs, dp, p3, hpe, hkl2, hk]
  refine selS_cut (f1 := [.blk 0]) (fun tm H' => ¬ quiet b x ∧ tm 0 = .ptr id ro 0 ∧ tm 3 = .ptr H.length 0 0 ∧ tm 5 = .w (.lf (.sl aw b.ports.length)) ∧ Own H' 99 (some (pid, 0)) ((inB b x).ports.map Port.enc) [pid] ∧ Keep [pid] H3 H') ?_ ?_
  · intro Q' hn' he' hr'
    rcases hxk with hx1 | hx2 | hx3
    · have eC : ∀ H, run env 131 [.agg [.b p.up, .b p.has, .i .i64 p.vec.root, .i .i64 p.vec.cost, .i .i64 p.vec.bridge, .i .i64 p.vec.port, .i .i64 p.hops, .i .i64 p.left, .i .i64 p.role, .i .i64 p.wait, .b p.opn], .agg [.i .i64 x.vec.root, .i .i64 x.vec.cost, .i .i64 x.vec.bridge, .i .i64 x.vec.port], .int x.hops] H = some (.agg (claimP p x.vec x.hops).enc, H) := fun H => implClaim H p x.vec x.hops
      rw [hx1] at b2 ⊢
      simp [b2, d2, hk, indexAddrV, elemIs, dp, p3, hpe, hpm, hkl2, hkl, hrl, hrw, Port.enc, eC]
      refine hn' _ _ ⟨by unfold quiet; omega, by simp, by simp, by simp, ?_, Keep.set _ _⟩
      have := o3.set (row := (claimP p x.vec x.hops).enc) p3 (i := k) (by simp; omega)
      rw [hpm, hpe] at this
      unfold inB
      rw [if_pos hx1, hgd, hkT, List.map_set]
      exact this
    · rw [hx2] at b2 ⊢
      simp
      refine stpL_runs (tickM hb3 hbe0 hrowE o3 (by simpa using hpid) hok) ?_
      rintro _ H4 ⟨rfl, o4, k4⟩
      simp
      refine hn' _ _ ⟨by unfold quiet; omega, by simp, by simp, by simp, ?_, k4⟩
      unfold inB
      rw [if_neg (by omega), if_pos hx2]
      exact o4
    · rw [hx3] at b2 ⊢
      simp [b2, d2, hk, indexAddrV, elemIs, dp, p3, hpe, hpm, hkl2, hkl, hrl, hrw, Port.enc]
      by_cases hup : p.up = x.up
      · have hq : quiet b x := ⟨hx3, by rw [hgd]; exact hup⟩
        simp [hup]
        refine hr' _ _ ?_
        simp
        refine fin _ _ _ [] (by simp; rfl) ?_ ?_ (k03.trans (h := [pid]) (Keep.refl [] _) (by simp) (by simp)) (by simp)
        · rw [quiet_outs hq]
          exact ⟨none, rfl, Own.nil _ _⟩
        · rw [nextB, if_pos hq]; exact o3
      · have hq : ¬ quiet b x := fun h => hup (by have := h.2; rwa [hgd] at this)
        simp [hup, b2, d2, hk, indexAddrV, elemIs, dp, p3, hpe, hpm, hkl2, hkl, hrl, hrw, Port.enc]
        have hset : ∀ q : Port, q = (if x.up = true then upPort else Port.zv) → Own (H3.set pid (some ⟨99, .wr, pb.rows.set k q.enc⟩)) 99 (some (pid, 0)) ((inB b x).ports.map Port.enc) [pid] := by
          intro q hq2
          have := o3.set (row := q.enc) p3 (i := k) (by simp; omega)
          rw [hpm, hpe] at this
          unfold inB
          rw [if_neg (by omega), if_neg (by omega), hkT, List.map_set, ← hq2]
          exact this
        have b2' := fun y => (Keep.set (id := pid) H3 y).blk b2 hnp
        cases hxu : x.up
        · rw [hxu] at b2' hset
          simp [b2', d2]
          refine hn' _ _ ⟨hq, by simp, by simp, by simp, ?_, Keep.set _ _⟩
          have := hset Port.zv (by simp)
          simpa [Port.enc] using this
        · rw [hxu] at b2' hset
          simp [b2', d2, dp, hpe, hpm, blkAt_set dp, indexAddrV, elemIs, hkl2, hkl, hrl, hk]
          refine hn' _ _ ⟨hq, by simp, by simp, by simp, ?_, Keep.set _ _⟩
          have := hset upPort (by simp)
          simpa [Port.enc, upPort] using this
  · rintro tm H4 ⟨hnq, t0, t3, t5, o4, k4⟩
    have hb4 := k4.blk hb3 (by simpa using hpid)
    simp [t0]
    have hinOk := inB_ok (x := x) hok (by omega)
    have hnx : nextB b x = decideB (inB b x) := by rw [nextB, if_neg hnq]
    refine stpL_runs (decideM hb4 hbe0 (by rw [hrowE]; simp [Bridge.enc, inB_id, inB_len]) o4 (by simpa using hpid) hinOk) ?_
    rintro _ H5 ⟨rfl, o5, k5⟩
    have k35 : Keep [pid] H3 H5 := k4.trans (h := [pid]) k5 (by simp) (by simp)
    obtain ⟨c, hc⟩ : ∃ c, c = nextB b x := ⟨_, rfl⟩
    rw [← hnx, ← hc] at o5
    rw [← hc] at fin
    have hcl : c.ports.length = b.ports.length := by rw [hc]; exact nextB_len _ _
    have hci : c.id = b.id := by rw [hc]; exact nextB_id _ _
    have hcok : c.ok = true := by rw [hc]; exact nextB_ok hok (by omega)
    have hb5 := k35.blk hb3 (by simpa using hpid)
    have b25 := k35.blk b2 hnp
    have hw5 := hw0.keep k35 (fun id r h => hf2' _ (ow.ids id r h))
    have e5 := blkAt_len hb5
    have k05 : Keep [pid] H H5 := k03.trans (h := [pid]) k35 (by simp) (by simp)
    have hl05 := k05.1
    clear hc hnx o4 k4 hb4 o3 p3 hw0 ow k35 hnq
    simp [t0, t3, t5, hb5, e5, hbe0, hrow0, builtinV, pureB, lenV]
    have s5 := o5.sl
    refine wpS_loop (fun j tm H' => ∃ i a' fp', i + j = b.ports.length ∧ tm 0 = .ptr id ro 0 ∧ tm 3 = .ptr H.length 0 0 ∧ tm 5 = .w (.lf (.sl aw b.ports.length)) ∧ tm 64 = .sl pid 0 b.ports.length ∧ tm 65 = .int b.ports.length ∧ tm 66 = .int i ∧ tm 7 = .w (.lf (.sl a' (upto (gateAt b c) i).length)) ∧ Own H' 62 a' ((upto (gateAt b c) i).map Out.enc) fp' ∧ (∀ j ∈ fp', H5.length ≤ j) ∧ Keep [] H5 H') b.ports.length (by rw [env_K]; omega)
      ⟨0, none, [], by simp, by simp [t0], by simp [t3], by simp [t5], by simp, by simp, by simp, by simp [upto], Own.nil _ _, by simp, Keep.refl _ _⟩ ?_
    · rintro j tm H6 hj ⟨i, a', fp', hij, t0, t3, t5, t64, t65, t66, t7, ho', hf', hK⟩ Q2 hn2 he2 hr2
      simp [t64, t65, t66]
      refine selS_intro (fun hc => ?_) (fun hc => ?_)
      · simp at hc
        have hc' : i < c.ports.length := by omega
        obtain ⟨id3, r3, bl3, hx3, hbl3, hbe3, hrow3⟩ := (s5.keep hK (by simp)) i _ (by simp [hc']; rfl)
        cases hx3
        obtain ⟨id4, r4, bl4, rfl, hbl4, hbe4, hrow4⟩ := (hw5.keep hK (by simp)) i _ (by simp [hc]; rfl)
        have hid3 := blkAt_len hbl3
        have hid4 := blkAt_len hbl4
        have g4 : IntKind.i64.wrap ((i : Int) + 1) = (i : Int) + 1 := wrap64 (by omega) (by omega)
        have hst : upto (gateAt b c) (i + 1) = upto (gateAt b c) i ++ (if c.ports[i].opn = b.ports[i].opn then [] else [⟨2, i, ⟨0, 0, 0, 0⟩, 0, c.ports[i].opn⟩]) := by
          rw [upto, gateAt, List.getElem?_eq_getElem hc, List.getElem?_eq_getElem hc']
        have hul := upto_len (gateAt_len b c) i
        simp only [Nat.zero_add] at hrow3
        simp [t0, t3, t5, t64, t65, t66, t7, indexAddrV, elemIs, hid3, hbl3, hbe3, hc, hrow3, hid4, hbl4, hbe4, hrow4, Port.enc]
        refine selS_intro (fun hd => ?_) (fun hd => ?_)
        · simp at hd
          rw [if_neg hd] at hst
          simp [t7]
          refine stpL_append (rows := (upto (gateAt b c) i).map Out.enc) (ys := [[.i .i64 2, .i .i64 i, .i .i64 0, .i .i64 0, .i .i64 0, .i .i64 0, .i .i64 0, .b c.ports[i].opn]]) (ho'.app _) (Sl.of (by simp)) rfl rfl rfl (by simp) (by simp; omega) (by simp) rfl fun a'' H'' fp'' ho'' hk'' hf'' => ?_
          obtain ⟨hK2, hf2⟩ := grow_next hK hf' hk'' hf''
          simp [t0, t3, t5, t64, t65, t66, g4]
          refine hn2 (j - 1) _ _ (by omega) ⟨i + 1, a'', fp'', by omega, by simp [t0], by simp [t3], by simp [t5], by simp [t64], by simp [t65], by simp, by simp [hst], ?_, hf2, hK2⟩
          simpa [hst, Out.enc] using ho''
        · simp at hd
          rw [if_pos hd, List.append_nil] at hst
          simp [t0, t3, t5, t64, t65, t66, t7, g4]
          refine hn2 (j - 1) _ _ (by omega) ⟨i + 1, a', fp', by omega, by simp [t0], by simp [t3], by simp [t5], by simp [t64], by simp [t65], by simp, by rw [hst]; simp [t7], ?_, hf', keep_more0 hK _⟩
          rw [hst]
          exact ho'.app _
      · simp at hc
        obtain rfl : i = b.ports.length := by omega
        simp [t0, t3, t5, t64, t65, t66, t7]
        refine he2 _ _ _ ?_
        have hb6 := hK.blk hb5 (by simp)
        have e6 := blkAt_len hb6
        obtain ⟨gs, hgs⟩ : ∃ gs, gs = upto (gateAt b c) b.ports.length := ⟨_, rfl⟩
        have hgl : gs.length ≤ b.ports.length := by rw [hgs]; exact upto_len (gateAt_len b c) _
        rw [← hgs] at t7 ho'
        simp [t0, hb6, e6, hbe0, hrow0, builtinV, pureB, lenV]
        by_cases hx2 : x.kind = 2
        · have hout : outsB b c x = gs ++ upto (claimAt c) b.ports.length := by unfold outsB; rw [if_pos hx2, hgs]
          rw [hx2] at b25
          refine wpS_loop (fun j tm H' => ∃ i a' fp', i + j = b.ports.length ∧ tm 0 = .ptr id ro 0 ∧ tm 3 = .ptr H.length 0 0 ∧ tm 90 = .sl pid 0 b.ports.length ∧ tm 91 = .int b.ports.length ∧ tm 92 = .int i ∧ tm 7 = .w (.lf (.sl a' (gs ++ upto (claimAt c) i).length)) ∧ Own H' 62 a' ((gs ++ upto (claimAt c) i).map Out.enc) fp' ∧ (∀ j ∈ fp', H5.length ≤ j) ∧ Keep [] H5 H') b.ports.length (by rw [env_K]; omega)
            ⟨0, a', fp', by simp, by simp [t0], by simp [t3], by simp, by simp, by simp, by simp [upto, t7], by simpa [upto] using ho', hf', hK⟩ ?_
          rintro j tm H6 hj ⟨i, a', fp', hij, t0, t3, t90, t91, t92, t7, ho', hf', hK⟩ Q3 hn3 he3 hr3
          simp [t90, t91, t92]
          refine selS_intro (fun hc => ?_) (fun hc => ?_)
          · simp at hc
            have hc' : i < c.ports.length := by omega
            have s6 := s5.keep hK (by simp)
            obtain ⟨id3, r3, bl3, hx3, hbl3, hbe3, hrow3⟩ := s6 i _ (by simp [hc']; rfl)
            cases hx3
            have hid3 := blkAt_len hbl3
            have b26 := hK.blk b25 (by simp)
            have d26 := blkAt_len b26
            have hb6 := hK.blk hb5 (by simp)
            have e6 := blkAt_len hb6
            have g4 : IntKind.i64.wrap ((i : Int) + 1) = (i : Int) + 1 := wrap64 (by omega) (by omega)
            have hst : upto (claimAt c) (i + 1) = upto (claimAt c) i ++ (if c.ports[i].role = 2 then [⟨1, i, ownV c i, hopsB c, false⟩] else []) := by
              rw [upto, claimAt, List.getElem?_eq_getElem hc']
            have hul := upto_len (claimAt_len c) i
            have eO := fun G => ownM (H := H6 ++ G) (b := c) (a := some (pid, 0)) (blkAt_app hb6 G) hbe0 (by rw [hrowE]; simp [Bridge.enc, hci, hcl]) (s6.app G) hcok (i : Int)
            have eH := fun G => hopsM (H := H6 ++ G) (b := c) (a := some (pid, 0)) (blkAt_app hb6 G) hbe0 (by rw [hrowE]; simp [Bridge.enc, hci, hcl]) (s6.app G) hcok
            simp only [Nat.zero_add] at hrow3
            simp [t0, t3, t90, t91, t92, t7, b26, d26, indexAddrV, elemIs, hid3, hbl3, hbe3, hc, hrow3, Port.enc]
            refine selS_intro (fun hd => ?_) (fun hd => ?_)
            · simp at hd
              rw [if_pos hd] at hst
              simp [t0, t7, eO, eH, Vec.enc]
              refine stpL_append (rows := (gs ++ upto (claimAt c) i).map Out.enc) (ys := [[.i .i64 1, .i .i64 i, .i .i64 (ownV c i).root, .i .i64 (ownV c i).cost, .i .i64 (ownV c i).bridge, .i .i64 (ownV c i).port, .i .i64 (hopsB c), .b false]]) (ho'.app _) (Sl.of (by simp)) rfl rfl rfl (by simp) (by simp; omega) (by simp) rfl fun a'' H'' fp'' ho'' hk'' hf'' => ?_
              obtain ⟨hK2, hf2⟩ := grow_next hK hf' hk'' hf''
              simp [t0, t3, t90, t91, t92, g4]
              refine hn3 (j - 1) _ _ (by omega) ⟨i + 1, a'', fp'', by omega, by simp [t0], by simp [t3], by simp [t90], by simp [t91], by simp, by simp [hst]; omega, ?_, hf2, hK2⟩
              simpa [hst, Out.enc] using ho''
            · simp at hd
              rw [if_neg hd, List.append_nil] at hst
              simp [t0, t3, t90, t91, t92, t7, g4]
              refine hn3 (j - 1) _ _ (by omega) ⟨i + 1, a', fp', by omega, by simp [t0], by simp [t3], by simp [t90], by simp [t91], by simp, by rw [hst]; simp [t7], ?_, hf', keep_more0 hK _⟩
              rw [hst]
              exact ho'.app _
          · simp at hc
            obtain rfl : i = b.ports.length := by omega
            simp [t0, t3, t90, t91, t92, t7]
            refine he3 _ _ _ ?_
            simp [t7]
            rw [← hout] at ho'
            refine fin _ _ (.sl a' (outsB b c x).length) fp' (by simp [hout]) ⟨a', rfl, ho'⟩ (o5.keep hK (by simp)) ?_ (fun i hi => by have := hf' i hi; omega)
            exact k05.trans (h := [pid]) hK (by simp) (by simp)
        · have hout : outsB b c x = gs := by unfold outsB; rw [if_neg hx2, hgs, List.append_nil]
          refine wpS_loop (fun j tm H' => ∃ i, i + j = b.ports.length ∧ tm 3 = .ptr H.length 0 0 ∧ tm 90 = .sl pid 0 b.ports.length ∧ tm 91 = .int b.ports.length ∧ tm 92 = .int i ∧ tm 7 = .w (.lf (.sl a' gs.length)) ∧ Own H' 62 a' (gs.map Out.enc) fp' ∧ Keep [] H5 H') b.ports.length (by rw [env_K]; omega)
            ⟨0, by simp, by simp [t3], by simp, by simp, by simp, by simp [t7], ho', hK⟩ ?_
          rintro j tm H6 hj ⟨i, hij, t3, t90, t91, t92, t7, ho', hK⟩ Q3 hn3 he3 hr3
          simp [t90, t91, t92]
          refine selS_intro (fun hc => ?_) (fun hc => ?_)
          · simp at hc
            have hc' : i < c.ports.length := by omega
            have s6 := s5.keep hK (by simp)
            obtain ⟨id3, r3, bl3, hx3, hbl3, hbe3, hrow3⟩ := s6 i _ (by simp [hc']; rfl)
            cases hx3
            have hid3 := blkAt_len hbl3
            have b26 := hK.blk b25 (by simp)
            have d26 := blkAt_len b26
            have g4 : IntKind.i64.wrap ((i : Int) + 1) = (i : Int) + 1 := wrap64 (by omega) (by omega)
            simp only [Nat.zero_add] at hrow3
            simp [t3, t90, t91, t92, t7, b26, d26, indexAddrV, elemIs, hid3, hbl3, hbe3, hc, hrow3, Port.enc, hx2, g4]
            refine hn3 (j - 1) _ _ (by omega) ⟨i + 1, by omega, by simp [t3], by simp [t90], by simp [t91], by simp, by simp [t7], ho'.app _, keep_more0 hK _⟩
          · simp at hc
            obtain rfl : i = b.ports.length := by omega
            simp [t90, t91, t92]
            refine he3 _ _ _ ?_
            simp [t7]
            rw [← hout] at ho'
            refine fin _ _ (.sl a' (outsB b c x).length) fp' (by simp [hout]) ⟨a', rfl, ho'⟩ (o5.keep hK (by simp)) ?_ (fun i hi => by have := hf' i hi; omega)
            exact k05.trans (h := [pid]) hK (by simp) (by simp)

theorem implReact {H : Heap} {l : List Lf} {b : Bridge} (h : RdBridge H l b) (hn : b.sz ≤ 1048576) (x : In) :
    Runs env 51 [.agg l, .agg x.enc] H fun v H' => ∃ l' fp q fp2, v = .tup [.agg l', .lf q] ∧ IsBridge H' l' (reactB b x).1 fp ∧ IsOutS H' q (reactB b x).2 fp2 ∧ Fresh H H' (fp ++ fp2) ∧ (∀ i ∈ fp, i ∉ fp2) := by
  have hR := h
  have e1 : ∀ H, run env 94 [.agg [.i .i64 x.kind, .i .i64 x.port, .i .i64 x.vec.root, .i .i64 x.vec.cost, .i .i64 x.vec.bridge, .i .i64 x.vec.port, .i .i64 x.hops, .b x.up]] H = some (.bool x.ok, H) := fun H => implInOk H x
  have e2 := fun G => implBridgeOk_is (hR.app G) hn
  obtain ⟨a, rfl, h_⟩ := h
  simp only [Bridge.enc] at e2
  refine Runs.walk ok51 Tryz.func51 rfl (by simp [Tryz.f51]) fun Q hQ => ?_
  simp only [Tryz.f51, strip, stripL, stripI, stripG, chkT, tagsB, tagsL, tagD, addT, tagA, lookN, tagOp, elmT, ty22, ty26, ty27, ty28, ty29, ty30, ty41, ty53, ty56, Nat.reduceEqDiff, if_false, reduceIte, Option.getD_some, Option.getD_none, dstAt, dstOk, Nat.reduceLT, decide_true, if_true]
  simp [Bridge.enc, In.enc]
  refine stpL_runs (copyBridge (hR.app _) hn) ?_
  rintro _ _ ⟨_, f1, rfl, ⟨a1, rfl, o1⟩, ⟨⟨G1, rfl⟩, hf1⟩⟩
  have hlt1 := o1.lt
  have o1' := o1.app [some ⟨43, .wr, [[.i .i64 b.id, .sl a1 b.ports.length]]⟩]
  simp only [List.append_assoc, List.cons_append, List.nil_append, Bridge.enc] at o1'
  simp [Bridge.enc, e1]
  obtain ⟨H3, hH3⟩ : ∃ H3 : Heap, H3 = H ++ some ⟨43, .wr, [[.i .i64 b.id, .sl a b.ports.length]]⟩ :: some ⟨64, .wr, [[.i .i64 x.kind, .i .i64 x.port, .i .i64 x.vec.root, .i .i64 x.vec.cost, .i .i64 x.vec.bridge, .i .i64 x.vec.port, .i .i64 x.hops, .b x.up]]⟩ :: some ⟨43, .wr, [[.i .i64 0, .sl none 0]]⟩ :: (G1 ++ [some ⟨43, .wr, [[.i .i64 b.id, .sl a1 b.ports.length]]⟩]) := ⟨_, rfl⟩
  have b1 : blkAt H3 H.length = some ⟨43, .wr, [[.i .i64 b.id, .sl a b.ports.length]]⟩ := by rw [hH3]; simp
  have bx : blkAt H3 (H.length + 1) = some ⟨64, .wr, [[.i .i64 x.kind, .i .i64 x.port, .i .i64 x.vec.root, .i .i64 x.vec.cost, .i .i64 x.vec.bridge, .i .i64 x.vec.port, .i .i64 x.hops, .b x.up]]⟩ := by rw [hH3]; simp
  have bz : blkAt H3 (H.length + 2) = some ⟨43, .wr, [[.i .i64 0, .sl none 0]]⟩ := by rw [hH3]; simp
  have b6 : blkAt H3 (H.length + (G1.length + 3)) = some ⟨43, .wr, [[.i .i64 b.id, .sl a1 b.ports.length]]⟩ := by rw [hH3]; simp
  have o3 : Own H3 99 a1 (b.ports.map Port.enc) f1 := by rw [hH3]; exact o1'
  have k03 : Keep [] H H3 := by rw [hH3]; exact Keep.app _ _ _
  have e2' : run env 95 [.agg [.i .i64 b.id, .sl a b.ports.length]] H3 = some (.bool b.ok, H3) := by rw [hH3]; exact e2 _
  have n2 : H.length + 2 ∉ f1 := fun hi => by have := hf1 _ hi; simp only [List.length_append, List.length_cons, List.length_nil] at this; omega
  have n6 : H.length + (G1.length + 3) ∉ f1 := fun hi => by have := hlt1 _ hi; simp only [List.length_append, List.length_cons, List.length_nil] at this; omega
  have n0 : ∀ i ∈ f1, H.length ≤ i := fun i hi => by have := hf1 _ hi; simp only [List.length_append, List.length_cons, List.length_nil] at this; omega
  have d1 := blkAt_len b1
  have dx := blkAt_len bx
  have dz := blkAt_len bz
  have d6 := blkAt_len b6
  rw [← hH3]
  clear hH3 o1 o1' hf1 hlt1
  have fin : ∀ (Hf : Heap) (tm : Ab.T) (c : Bridge) (os : List Out) (q : Lf) (f2 : List Nat), tm 4 = .ptr (H.length + 2) 0 0 → tm 5 = .w (.lf q) → blkAt Hf (H.length + 2) = some ⟨43, .wr, [[.i .i64 b.id, .sl a1 b.ports.length]]⟩ → Own Hf 99 a1 (c.ports.map Port.enc) f1 → IsOutS Hf q os f2 → c.id = b.id → c.ports.length = b.ports.length → reactB b x = (c, os) → Keep [] H Hf → (∀ i ∈ f2, H.length ≤ i) → (∀ i ∈ f1, i ∉ f2) → Q .ret tm Hf := by
    intro Hf tm c os q f2 t4 t5 hb4 ho4 hq hci hcl hr hK hf2 hdj
    refine hQ _ _ _ (by simp) ?_
    have hres : resT env.τ tm Hf (Tryz.f51.results.toList) = some [W.agg [.i .i64 b.id, .sl a1 b.ports.length], W.lf q] := by simp [Tryz.f51, t4, t5, hb4]
    rw [hres, optK_some, hr]
    have hI : IsBridge Hf [.i .i64 b.id, .sl a1 b.ports.length] c f1 := ⟨a1, by simp [Bridge.enc, hci, hcl], ho4⟩
    rcases leave_both H Hf [W.agg [.i .i64 b.id, .sl a1 b.ports.length], W.lf q] with e | ⟨e, hfr, G, rfl⟩ <;> rw [e]
    · refine ⟨_, f1, _, f2, rfl, hI, hq, ⟨hK.ext, fun i hi => ?_⟩, hdj⟩
      rcases List.mem_append.1 hi with hi | hi
      · exact n0 i hi
      · exact hf2 i hi
    · simp at hfr
      exact ⟨_, [], _, [], rfl, hI.free (by simp [hfr]) H, hq.free hfr.2 H, Fresh.refl H, by simp⟩
  have bad : ∀ (tm : Ab.T), tm 4 = .ptr (H.length + 2) 0 0 → tm 5 = .w (.lf (.sl none 0)) → ¬ (b.ok = true ∧ x.ok = true ∧ x.port < b.ports.length) → Q .ret tm (H3.set (H.length + 2) (some ⟨43, .wr, [[.i .i64 b.id, .sl a1 b.ports.length]]⟩)) := by
    intro tm t4 t5 hno
    refine fin _ _ b [] (.sl none 0) [] t4 t5 (blkAt_set dz) (o3.keep (Keep.set _ _) (fun i hi hj => by simp at hj; subst hj; exact n2 hi)) ⟨none, rfl, Own.nil _ _⟩ rfl rfl (reactB_no hno) (k03.next (Keep.set _ _) (by simp)) (by simp) (by simp)
  cases hxo : x.ok
  · simp [b6, d6, bz, dz]
    exact bad _ (by simp) (by simp) (by simp [hxo])
  simp [b1, bx, d1, dx, builtinV, pureB, lenV]
  by_cases hlx : x.port < (b.ports.length : Int)
  · have hlx' : ¬ (b.ports.length : Int) ≤ x.port := by omega
    simp [hlx', b1, d1, e2']
    cases hok : b.ok
    · simp [b6, d6, bz, dz]
      exact bad _ (by simp) (by simp) (by simp [hok])
    · simp [bx, dx]
      obtain ⟨-, hx0, -⟩ := In.ok_kind hxo
      refine stpL_runs (reactM (ro := 0) b6 rfl rfl o3 n6 hok x hxo (k := x.port.toNat) (by omega) (by omega)) ?_
      rintro _ H4 ⟨q, f2, rfl, hq, o4, k4, hf2⟩
      have b64 := k4.blk b6 n6
      have bz4 := k4.blk bz n2
      have d64 := blkAt_len b64
      have dz4 := blkAt_len bz4
      have h03 := k03.1
      have ho1lt := o3.lt
      simp [b64, d64, bz4, dz4]
      have nz : H.length + 2 ∉ f2 := fun hi => by have := hf2 _ hi; omega
      refine fin _ _ (nextB b x) _ q f2 (by simp) (by simp) (blkAt_set dz4) (o4.keep (Keep.set _ _) (fun i hi hj => by simp at hj; subst hj; exact n2 hi)) (hq.keep (Keep.set _ _) (fun i hi hj => by simp at hj; subst hj; exact nz hi)) (nextB_id _ _) (nextB_len _ _) (reactB_yes hok hxo hlx) ((k03.next k4 n0).next (Keep.set _ _) (by simp)) (fun i hi => by have := hf2 i hi; omega) (fun i hi hj => by have := hf2 i hj; have := ho1lt i hi; omega)
  · have hlx' : (b.ports.length : Int) ≤ x.port := by omega
    simp [hlx', b6, d6, bz, dz]
    exact bad _ (by simp) (by simp) (by intro h; exact hlx h.2.2)

theorem grow_next0 {H2 H' H'' T : Heap} {fp0 fp' fp'' : List Nat} (hK : Keep fp0 H2 H') (hf : ∀ j ∈ fp', j ∈ fp0 ∨ H2.length ≤ j) (hk : Keep fp' (H' ++ T) H'') (h : ∀ j ∈ fp'', j ∈ fp' ∨ (H' ++ T).length ≤ j) : Keep fp0 H2 H'' ∧ ∀ j ∈ fp'', j ∈ fp0 ∨ H2.length ≤ j := by
  have h1 := hK.1
  refine ⟨Keep.trans (h := fp0) (Keep.trans (h := fp0) hK (Keep.app [] H' T) (fun _ hi _ => hi) (by simp)) hk (fun _ hi _ => hi) (fun i hi hl => (hf i hi).resolve_right (by omega)), fun j hj => ?_⟩
  rcases h j hj with h2 | h2
  · exact hf j h2
  · rw [List.length_append] at h2; omega

theorem specReact {H : Heap} {l : List Lf} {b : Bridge} (h : RdBridge H l b) (hn : b.sz ≤ 1048576) (x : In) :
    Runs env 59 [.agg l, .agg x.enc] H fun v H' => ∃ l' fp q fp2, v = .tup [.agg l', .lf q] ∧ IsBridge H' l' (reactB b x).1 fp ∧ IsOutS H' q (reactB b x).2 fp2 ∧ Fresh H H' (fp ++ fp2) ∧ (∀ i ∈ fp, i ∉ fp2) := by
  have hR := h
  have e1 : ∀ H, run env 99 [.agg [.i .i64 x.kind, .i .i64 x.port, .i .i64 x.vec.root, .i .i64 x.vec.cost, .i .i64 x.vec.bridge, .i .i64 x.vec.port, .i .i64 x.hops, .b x.up]] H = some (.bool x.ok, H) := fun H => specInOk H x
  have e2 := fun G => specBridgeOk_is (hR.app G) hn
  obtain ⟨a, rfl, h_⟩ := h
  simp only [Bridge.enc] at e2
  refine Runs.walk ok59 Tryz.func59 rfl (by simp [Tryz.f59]) fun Q hQ => ?_
  simp only [Tryz.f59, strip, stripL, stripI, stripG, chkT, tagsB, tagsL, tagD, addT, tagA, lookN, tagOp, elmT, ty22, ty26, ty27, ty28, ty29, ty30, ty41, ty53, ty56, Nat.reduceEqDiff, if_false, reduceIte, Option.getD_some, Option.getD_none, dstAt, dstOk, Nat.reduceLT, decide_true, if_true]
  simp [Bridge.enc, In.enc]
  obtain ⟨H3, hH3⟩ : ∃ H3 : Heap, H3 = H ++ [some ⟨43, .wr, [[.i .i64 b.id, .sl a b.ports.length]]⟩, some ⟨64, .wr, [[.i .i64 x.kind, .i .i64 x.port, .i .i64 x.vec.root, .i .i64 x.vec.cost, .i .i64 x.vec.bridge, .i .i64 x.vec.port, .i .i64 x.hops, .b x.up]]⟩, some ⟨43, .wr, [[.i .i64 0, .sl none 0]]⟩, some ⟨62, .wr, []⟩] := ⟨_, rfl⟩
  have b1 : blkAt H3 H.length = some ⟨43, .wr, [[.i .i64 b.id, .sl a b.ports.length]]⟩ := by rw [hH3]; simp
  have bx : blkAt H3 (H.length + 1) = some ⟨64, .wr, [[.i .i64 x.kind, .i .i64 x.port, .i .i64 x.vec.root, .i .i64 x.vec.cost, .i .i64 x.vec.bridge, .i .i64 x.vec.port, .i .i64 x.hops, .b x.up]]⟩ := by rw [hH3]; simp
  have bz : blkAt H3 (H.length + 2) = some ⟨43, .wr, [[.i .i64 0, .sl none 0]]⟩ := by rw [hH3]; simp
  have bo : blkAt H3 (H.length + 3) = some ⟨62, .wr, []⟩ := by rw [hH3]; simp
  have hl3 : H3.length = H.length + 4 := by rw [hH3]; simp
  have k03 : Keep [] H H3 := by rw [hH3]; exact Keep.app _ _ _
  have hR3 : RdBridge H3 [.i .i64 b.id, .sl a b.ports.length] b := by rw [hH3]; exact hR.app _
  have e2' : run env 71 [.agg [.i .i64 b.id, .sl a b.ports.length]] H3 = some (.bool b.ok, H3) := by rw [hH3]; exact e2 _
  have d1 := blkAt_len b1
  have dx := blkAt_len bx
  have dz := blkAt_len bz
  rw [← hH3]
  clear hH3
  have fin : ∀ (Hf : Heap) (tm : Ab.T) (c : Bridge) (a7 : Option (Nat × Nat)) (f7 : List Nat) (os : List Out) (q : Lf) (f2 : List Nat), tm 4 = .ptr (H.length + 2) 0 0 → tm 5 = .w (.lf q) → blkAt Hf (H.length + 2) = some ⟨43, .wr, [[.i .i64 b.id, .sl a7 b.ports.length]]⟩ → Own Hf 99 a7 (c.ports.map Port.enc) f7 → IsOutS Hf q os f2 → c.id = b.id → c.ports.length = b.ports.length → reactB b x = (c, os) → Keep [] H Hf → (∀ i ∈ f7, H.length ≤ i) → (∀ i ∈ f2, H.length ≤ i) → (∀ i ∈ f7, i ∉ f2) → Q .ret tm Hf := by
    intro Hf tm c a7 f7 os q f2 t4 t5 hb4 ho4 hq hci hcl hr hK n0 hf2 hdj
    refine hQ _ _ _ (by simp) ?_
    have hres : resT env.τ tm Hf (Tryz.f59.results.toList) = some [W.agg [.i .i64 b.id, .sl a7 b.ports.length], W.lf q] := by simp [Tryz.f59, t4, t5, hb4]
    rw [hres, optK_some, hr]
    have hI : IsBridge Hf [.i .i64 b.id, .sl a7 b.ports.length] c f7 := ⟨a7, by simp [Bridge.enc, hci, hcl], ho4⟩
    rcases leave_both H Hf [W.agg [.i .i64 b.id, .sl a7 b.ports.length], W.lf q] with e | ⟨e, hfr, G, rfl⟩ <;> rw [e]
    · refine ⟨_, f7, _, f2, rfl, hI, hq, ⟨hK.ext, fun i hi => ?_⟩, hdj⟩
      rcases List.mem_append.1 hi with hi | hi
      · exact n0 i hi
      · exact hf2 i hi
    · simp at hfr
      exact ⟨_, [], _, [], rfl, hI.free (by simp [hfr]) H, hq.free hfr.2 H, Fresh.refl H, by simp⟩
  have done : ¬ (b.ok = true ∧ x.ok = true ∧ x.port < b.ports.length) → ∀ (tm : Ab.T) (f7 : List Nat) (a7 : Option (Nat × Nat)) (G7 : Heap), tm 4 = .ptr (H.length + 2) 0 0 → tm 5 = .sl (H.length + 3) 0 0 → Own (H3 ++ G7) 99 a7 (b.ports.map Port.enc) f7 → (∀ i ∈ f7, H3.length ≤ i) → Q .ret tm (H3.set (H.length + 2) (some ⟨43, .wr, [[.i .i64 b.id, .sl a7 b.ports.length]]⟩) ++ G7) := by
    intro hno tm f7 a7 G7 t4 t5 o7 hf7
    have hk := Keep.set (id := H.length + 2) (H3 ++ G7) (some ⟨43, .wr, [[.i .i64 b.id, .sl a7 b.ports.length]]⟩)
    rw [set_lt dz] at hk
    have bo7 : blkAt (H3 ++ G7) (H.length + 3) = some ⟨62, .wr, []⟩ := blkAt_app bo G7
    refine fin _ _ b a7 f7 [] (.sl (some (H.length + 3, 0)) 0) [H.length + 3] t4 t5 ?_ (o7.keep hk (fun i hi hj => by have := hf7 i hi; simp at hj; omega)) ⟨some (H.length + 3, 0), rfl, Own.of (hk.blk bo7 (by simp))⟩ rfl rfl (reactB_no hno) ?_ (fun i hi => by have := hf7 i hi; omega) (by simp) (fun i hi hj => by have := hf7 i hi; simp at hj; omega)
    · exact blkAt_app (blkAt_set dz) _
    · exact (keep_more0 k03 G7).next hk (by simp)
  cases hbo : b.ok
  · rw [hbo] at e2'
    simp [b1, d1, e2']
    refine stpL_runs (specCopyB hR3 hn) ?_
    rintro _ _ ⟨_, f7, rfl, ⟨a7, rfl, o7⟩, ⟨⟨G7, rfl⟩, hf7⟩⟩
    simp [Bridge.enc, bz, dz]
    exact done (by simp [hbo]) _ f7 a7 G7 (by simp) (by simp) o7 hf7
  rw [hbo] at e2'
  simp [b1, d1, bx, dx, e1, e2']
  cases hxo : x.ok
  · simp [b1, d1]
    refine stpL_runs (specCopyB hR3 hn) ?_
    rintro _ _ ⟨_, f7, rfl, ⟨a7, rfl, o7⟩, ⟨⟨G7, rfl⟩, hf7⟩⟩
    simp [Bridge.enc, bz, dz]
    exact done (by simp [hxo]) _ f7 a7 G7 (by simp) (by simp) o7 hf7
  simp [b1, d1, bx, dx, builtinV, pureB, lenV]
  by_cases hlx : x.port < (b.ports.length : Int)
  case neg =>
    have hlx' : (b.ports.length : Int) ≤ x.port := by omega
    simp [hlx', b1, d1]
    refine stpL_runs (specCopyB hR3 hn) ?_
    rintro _ _ ⟨_, f7, rfl, ⟨a7, rfl, o7⟩, ⟨⟨G7, rfl⟩, hf7⟩⟩
    simp [Bridge.enc, bz, dz]
    exact done (fun h => hlx h.2.2) _ f7 a7 G7 (by simp) (by simp) o7 hf7
  clear done
  have hlx' : ¬ (b.ports.length : Int) ≤ x.port := by omega
  obtain ⟨-, hx0, -⟩ := In.ok_kind hxo
  obtain ⟨hpok, -, -, hl1, hl4⟩ := Bridge.ok_all hbo
  simp [hlx', b1, d1]
  refine stpL_runs_f (specCopyB hR3 hn) (by rintro _ _ ⟨_, _, _, _, hf⟩; exact hf.1) ?_
  rintro _ _ ⟨_, f7, rfl, o7, ⟨⟨G7, rfl⟩, hf7⟩⟩
  have hlt7 := o7.lt
  simp [bx, dx]
  refine stpL_runs_w (l8InM o7 hbo x hxo (k := x.port.toNat) (by omega) (by omega)) rfl (by rintro _ _ ⟨_, _, _, _, hk, _⟩; exact hk.1) ?_
  rintro _ H4 ⟨_, f8, rfl, ⟨a8, rfl, o8⟩, k8, hf8⟩
  obtain ⟨c, hc⟩ : ∃ c, c = nextB b x := ⟨_, rfl⟩
  rw [← hc] at o8
  have hcl : c.ports.length = b.ports.length := by rw [hc]; exact nextB_len _ _
  have hci : c.id = b.id := by rw [hc]; exact nextB_id _ _
  have hcok : c.ok = true := by rw [hc]; exact nextB_ok hbo (by omega)
  have hrB : reactB b x = (c, outsB b c x) := by rw [hc]; exact reactB_yes hbo hxo hlx
  rw [← hc]
  clear hc
  simp [Bridge.enc, hci, hcl]
  obtain ⟨H5, hH5⟩ : ∃ H5 : Heap, H5 = H4 ++ [some ⟨43, .wr, [[.i .i64 b.id, .sl a8 b.ports.length]]⟩] := ⟨_, rfl⟩
  have k35 : Keep f7 (H3 ++ G7) H5 := by rw [hH5]; exact Keep.trans (h := f7) k8 (Keep.app [] _ _) (fun _ hi _ => hi) (by simp)
  have k345 : Keep [] H3 H5 := (Keep.app [] H3 G7).next k35 hf7
  have c1 := k345.blk b1 (by simp)
  have cx := k345.blk bx (by simp)
  have cz := k345.blk bz (by simp)
  have co := k345.blk bo (by simp)
  have k05 : Keep [] H H5 := k03.next k345 (by simp)
  have o5 : Own H5 99 a8 (c.ports.map Port.enc) f8 := by rw [hH5]; exact o8.app _
  have c7 : blkAt H5 H4.length = some ⟨43, .wr, [[.i .i64 b.id, .sl a8 b.ports.length]]⟩ := by rw [hH5]; simp
  have h84 := k8.1
  have hf8' : ∀ i ∈ f8, H3.length ≤ i ∧ i < H4.length := fun i hi => by
    have hl := o8.lt i hi
    rcases hf8 i hi with h | h
    · exact ⟨hf7 i h, hl⟩
    · rw [List.length_append] at h; exact ⟨by omega, hl⟩
  have hl45 : H4.length < H5.length := blkAt_len c7
  have hs0 : Sl H5 99 a (b.ports.map Port.enc) := h_.keep k05 (by simp)
  have h345 := k345.1
  have h34 : H3.length ≤ H4.length := by rw [List.length_append] at h84; omega
  rw [← hH5]
  clear hH5 k8 k35 o8 hlt7 hf8 hf7
  refine wpS_loop (fun j tm H' => ∃ i a' fp', i + j = b.ports.length ∧ tm 2 = .ptr H.length 0 0 ∧ tm 3 = .ptr (H.length + 1) 0 0 ∧ tm 4 = .ptr (H.length + 2) 0 0 ∧ tm 7 = .ptr H4.length 0 0 ∧ tm 8 = .int i ∧ tm 6 = .w (.lf (.sl a' (upto (gateAt b c) i).length)) ∧ Own H' 62 a' ((upto (gateAt b c) i).map Out.enc) fp' ∧ (∀ j ∈ fp', j ∈ [H.length + 3] ∨ H5.length ≤ j) ∧ Keep [H.length + 3] H5 H') b.ports.length (by rw [env_K]; omega)
    ⟨0, some (H.length + 3, 0), [H.length + 3], by simp, by simp, by simp, by simp, by simp, by simp, by simp [upto], Own.of co, by simp, Keep.refl _ _⟩ ?_
  rintro j tm H6 hj ⟨i, a', fp', hij, t2, t3, t4, t7, t8, t6, ho', hf', hK⟩ Q2 hn2 he2 hr2
  have c16 := hK.blk c1 (by simp)
  have c76 := hK.blk c7 (by simp; omega)
  have d16 := blkAt_len c16
  have d76 := blkAt_len c76
  simp [t2, t8, c16, d16, builtinV, pureB, lenV]
  refine selS_intro (fun hcc => ?_) (fun hcc => ?_)
  · simp at hcc
    have hc' : i < c.ports.length := by omega
    have s6 := (o5.keep hK (fun i hi hj => by have := hf8' i hi; simp at hj; omega)).sl
    have s0 := hs0.keep hK (fun id r hx hj => by
      have h1 := h_.keep (Keep.refl [] H) (by simp)
      subst hx
      have := Sl.len h1 (by intro h; have := congrArg List.length h; simp only [List.length_map, List.length_nil] at this; omega)
      simp at hj; omega)
    obtain ⟨id3, r3, bl3, rfl, hbl3, hbe3, hrow3⟩ := s6 i _ (by simp [hc']; rfl)
    obtain ⟨id4, r4, bl4, rfl, hbl4, hbe4, hrow4⟩ := s0 i _ (by simp [hcc]; rfl)
    have hid3 := blkAt_len hbl3
    have hid4 := blkAt_len hbl4
    have g4 : IntKind.i64.wrap ((i : Int) + 1) = (i : Int) + 1 := wrap64 (by omega) (by omega)
    have hst : upto (gateAt b c) (i + 1) = upto (gateAt b c) i ++ (if c.ports[i].opn = b.ports[i].opn then [] else [⟨2, i, ⟨0, 0, 0, 0⟩, 0, c.ports[i].opn⟩]) := by
      rw [upto, gateAt, List.getElem?_eq_getElem hcc, List.getElem?_eq_getElem hc']
    have hul := upto_len (gateAt_len b c) i
    simp [t2, t3, t4, t6, t7, t8, c16, d16, c76, d76, indexAddrV, elemIs, hid3, hbl3, hbe3, hcc, hrow3, hid4, hbl4, hbe4, hrow4, Port.enc]
    refine selS_intro (fun hd => ?_) (fun hd => ?_)
    · simp at hd
      rw [if_neg hd] at hst
      simp [t6, t7, t8, c76, d76, indexAddrV, elemIs, hid3, hbl3, hbe3, hcc, hrow3, Port.enc]
      refine stpL_append (rows := (upto (gateAt b c) i).map Out.enc) (ys := [[.i .i64 2, .i .i64 i, .i .i64 0, .i .i64 0, .i .i64 0, .i .i64 0, .i .i64 0, .b c.ports[i].opn]]) (ho'.app _) (Sl.of (by simp)) rfl rfl rfl (by simp) (by simp; omega) (by simp) rfl fun a'' H'' fp'' ho'' hk'' hf'' => ?_
      obtain ⟨hK2, hf2⟩ := grow_next0 hK hf' hk'' hf''
      simp [t2, t3, t4, t7, t8, g4]
      refine hn2 (j - 1) _ _ (by omega) ⟨i + 1, a'', fp'', by omega, by simp [t2], by simp [t3], by simp [t4], by simp [t7], by simp, by simp [hst], ?_, hf2, hK2⟩
      simpa [hst, Out.enc] using ho''
    · simp at hd
      rw [if_pos hd, List.append_nil] at hst
      simp [t2, t3, t4, t6, t7, t8, g4]
      refine hn2 (j - 1) _ _ (by omega) ⟨i + 1, a', fp', by omega, by simp [t2], by simp [t3], by simp [t4], by simp [t7], by simp, by rw [hst]; simp [t6], ?_, hf', hK⟩
      rw [hst]
      exact ho'
  · simp at hcc
    obtain rfl : i = b.ports.length := by omega
    simp [t2, t3, t4, t6, t7, t8]
    refine he2 _ _ _ ?_
    obtain ⟨gs, hgs⟩ : ∃ gs, gs = upto (gateAt b c) b.ports.length := ⟨_, rfl⟩
    have hgl : gs.length ≤ b.ports.length := by rw [hgs]; exact upto_len (gateAt_len b c) _
    rw [← hgs] at t6 ho'
    have last : ∀ (tm : Ab.T) (Hf : Heap) (os : List Out) (a' : Option (Nat × Nat)) (fp' : List Nat), tm 4 = .ptr (H.length + 2) 0 0 → tm 5 = .w (.lf (.sl a' os.length)) → Own Hf 62 a' (os.map Out.enc) fp' → (∀ j ∈ fp', j ∈ [H.length + 3] ∨ H5.length ≤ j) → Keep [H.length + 3] H5 Hf → os = outsB b c x → Q .ret tm (Hf.set (H.length + 2) (some ⟨43, .wr, [[.i .i64 b.id, .sl a8 b.ports.length]]⟩)) := by
      intro tm Hf os a' fp' t4 t5 ho' hf' hK hos
      have czf := hK.blk cz (by simp)
      have dzf := blkAt_len czf
      have ks := Keep.set (id := H.length + 2) Hf (some ⟨43, .wr, [[.i .i64 b.id, .sl a8 b.ports.length]]⟩)
      refine fin _ _ c a8 f8 os (.sl a' os.length) fp' t4 t5 (blkAt_set dzf) ((o5.keep hK (fun i hi hj => by have := hf8' i hi; simp at hj; omega)).keep ks (fun i hi hj => by have := hf8' i hi; simp at hj; omega)) (IsSl.keep ⟨a', rfl, ho'⟩ ks (fun i hi hj => by have := hf' i hi; simp at hj this; omega)) hci hcl (by rw [hrB, hos]) ((k05.next hK (by simp)).next ks (by simp)) (fun i hi => by have := hf8' i hi; omega) (fun i hi => by have := hf' i hi; simp at this; omega) (fun i hi hj => by have := hf8' i hi; have := hf' i hj; simp at this; omega)
    simp
    by_cases hx2 : x.kind = 2
    · have hout : outsB b c x = gs ++ upto (claimAt c) b.ports.length := by unfold outsB; rw [if_pos hx2, hgs]
      rw [hx2] at cx
      refine wpS_loop (fun j tm H' => ∃ i a' fp', i + j = b.ports.length ∧ tm 3 = .ptr (H.length + 1) 0 0 ∧ tm 4 = .ptr (H.length + 2) 0 0 ∧ tm 7 = .ptr H4.length 0 0 ∧ tm 9 = .int i ∧ tm 6 = .w (.lf (.sl a' (gs ++ upto (claimAt c) i).length)) ∧ Own H' 62 a' ((gs ++ upto (claimAt c) i).map Out.enc) fp' ∧ (∀ j ∈ fp', j ∈ [H.length + 3] ∨ H5.length ≤ j) ∧ Keep [H.length + 3] H5 H') b.ports.length (by rw [env_K]; omega)
        ⟨0, a', fp', by simp, by simp [t3], by simp [t4], by simp [t7], by simp, by simp [upto, t6], by simpa [upto] using ho', hf', hK⟩ ?_
      rintro j tm H6 hj ⟨i, a', fp', hij, t3, t4, t7, t9, t6, ho', hf', hK⟩ Q3 hn3 he3 hr3
      have c76 := hK.blk c7 (by simp; omega)
      have cx6 := hK.blk cx (by simp)
      have cz6 := hK.blk cz (by simp)
      have d76 := blkAt_len c76
      have dx6 := blkAt_len cx6
      have dz6 := blkAt_len cz6
      simp [t3, t7, t9, c76, d76, builtinV, pureB, lenV]
      by_cases hcc : i < b.ports.length
      · have hc' : i < c.ports.length := by omega
        have s6 := (o5.keep hK (fun i hi hj => by have := hf8' i hi; simp at hj; omega)).sl
        have hR6 : RdBridge H6 [.i .i64 b.id, .sl a8 b.ports.length] c := ⟨a8, by simp [Bridge.enc, hci, hcl], s6⟩
        obtain ⟨id3, r3, bl3, rfl, hbl3, hbe3, hrow3⟩ := s6 i _ (by simp [hc']; rfl)
        have hid3 := blkAt_len hbl3
        have g4 : IntKind.i64.wrap ((i : Int) + 1) = (i : Int) + 1 := wrap64 (by omega) (by omega)
        have hst : upto (claimAt c) (i + 1) = upto (claimAt c) i ++ (if c.ports[i].role = 2 then [⟨1, i, ownV c i, hopsB c, false⟩] else []) := by
          rw [upto, claimAt, List.getElem?_eq_getElem hc']
        have hul := upto_len (claimAt_len c) i
        have eO := specOwn hR6 hcok (port := (i : Int)) (by omega) (by omega)
        have eH := specHops hR6 hcok
        simp [hcc, t3, t4, t6, t7, t9, c76, d76, cx6, dx6, indexAddrV, elemIs, hid3, hbl3, hbe3, hrow3, Port.enc]
        refine selS_intro (fun hd => ?_) (fun hd => ?_)
        · simp at hd
          rw [if_pos hd] at hst
          simp [t6, t7, t9, c76, d76, eO, eH, Vec.enc]
          refine stpL_append (rows := (gs ++ upto (claimAt c) i).map Out.enc) (ys := [[.i .i64 1, .i .i64 i, .i .i64 (ownV c i).root, .i .i64 (ownV c i).cost, .i .i64 (ownV c i).bridge, .i .i64 (ownV c i).port, .i .i64 (hopsB c), .b false]]) (ho'.app _) (Sl.of (by simp)) rfl rfl rfl (by simp) (by simp; omega) (by simp) rfl fun a'' H'' fp'' ho'' hk'' hf'' => ?_
          obtain ⟨hK2, hf2⟩ := grow_next0 hK hf' hk'' hf''
          simp [t3, t4, t7, t9, g4]
          refine hn3 (j - 1) _ _ (by omega) ⟨i + 1, a'', fp'', by omega, by simp [t3], by simp [t4], by simp [t7], by simp, by simp [hst]; omega, ?_, hf2, hK2⟩
          simpa [hst, Out.enc] using ho''
        · simp at hd
          rw [if_neg hd, List.append_nil] at hst
          simp [t3, t4, t6, t7, t9, g4]
          refine hn3 (j - 1) _ _ (by omega) ⟨i + 1, a', fp', by omega, by simp [t3], by simp [t4], by simp [t7], by simp, by rw [hst]; simp [t6], ?_, hf', hK⟩
          rw [hst]
          exact ho'
      · obtain rfl : i = b.ports.length := by omega
        simp
        refine he3 _ _ _ ?_
        simp [t3, t4, t6, t7, t9, c76, d76, cz6, dz6]
        exact last _ _ (gs ++ upto (claimAt c) b.ports.length) a' fp' (by simp [t4]) (by simp) ho' hf' hK hout.symm
    · have hout : outsB b c x = gs := by unfold outsB; rw [if_neg hx2, hgs, List.append_nil]
      refine wpS_loop (fun j tm H' => tm 3 = .ptr (H.length + 1) 0 0 ∧ tm 4 = .ptr (H.length + 2) 0 0 ∧ tm 7 = .ptr H4.length 0 0 ∧ tm 9 = .int 0 ∧ tm 6 = .w (.lf (.sl a' gs.length)) ∧ H' = H6) 0 (by rw [env_K]; omega)
        ⟨by simp [t3], by simp [t4], by simp [t7], by simp, by simp [t6], rfl⟩ ?_
      rintro j tm H6' hj ⟨t3, t4, t7, t9, t6, rfl⟩ Q3 hn3 he3 hr3
      have cx6 := hK.blk cx (by simp)
      have cz6 := hK.blk cz (by simp)
      have dx6 := blkAt_len cx6
      have dz6 := blkAt_len cz6
      have hpos : (0 : Int) < b.ports.length := by omega
      simp [t3, t7, t9, c76, d76, cx6, dx6, builtinV, pureB, lenV, hx2]
      have hb0 : decide (0 < b.ports.length) = true := by simp; omega
      rw [hb0]
      simp [t3, cx6, dx6, hx2]
      refine he3 _ _ _ ?_
      simp [t3, t4, t6, t7, t9, c76, d76, cz6, dz6]
      exact last _ _ gs a' fp' (by simp [t4]) (by simp) ho' hf' hK hout.symm

def stepBr (b : Bridge) (x : In) : Bridge := (reactB b x).1
def bridgeOf (id ports : Int) (log : List In) : Bridge := log.foldl stepBr (bridgeNew id ports).1
theorem bridgeOf_step (id ports : Int) (log : List In) {i : Nat} (h : i < log.length) : bridgeOf id ports (log.take (i + 1)) = stepBr (bridgeOf id ports (log.take i)) log[i] := by
  unfold bridgeOf
  rw [List.take_add_one, List.getElem?_eq_getElem h, List.foldl_append]
  rfl
theorem bridgeOf_len (id ports : Int) (log : List In) : (bridgeOf id ports log).ports.length ≤ 4 := by
  have key : ∀ (log : List In) (b : Bridge), b.ports.length ≤ 4 → (log.foldl stepBr b).ports.length ≤ 4 := by
    intro log
    induction log with
    | nil => intro b h; exact h
    | cons x xs ih => intro b h; exact ih _ (by rw [stepBr, reactB_len]; exact h)
  refine key log _ ?_
  unfold bridgeNew
  split
  · rename_i h
    simp at h ⊢
    omega
  · simp
theorem bridgeOf_sz0 {id ports : Int} {log : List In} (_ : log.length ≤ 1048576) : (bridgeOf id ports log).sz ≤ 1048576 := by
  have := bridgeOf_len id ports log
  have h2 : (bridgeOf id ports log).sz = (bridgeOf id ports log).ports.length := rfl
  omega
theorem bridgeOf_bad {id ports : Int} (h : (bridgeNew id ports).2 = false) (log : List In) : bridgeOf id ports log = ⟨0, []⟩ := by
  have h0 : (bridgeNew id ports).1 = ⟨0, []⟩ := by
    unfold bridgeNew at h ⊢
    split at h
    · simp at h
    · rename_i h1; rw [if_neg h1]
  have key : ∀ log : List In, log.foldl stepBr ⟨0, []⟩ = ⟨0, []⟩ := by
    intro log
    induction log with
    | nil => rfl
    | cons x xs ih =>
      have : stepBr ⟨0, []⟩ x = ⟨0, []⟩ := by
        rw [stepBr, reactB_no (by intro h; have := h.1; simp [Bridge.ok] at this)]
      rw [List.foldl_cons, this, ih]
  unfold bridgeOf
  rw [h0, key]

theorem sl_take {H : Heap} {e : Nat} {a : Option (Nat × Nat)} {rows : List (List Lf)} (h : Sl H e a rows) (n : Nat) : Sl H e a (rows.take n) := fun i row hr => by
  rw [List.getElem?_take] at hr
  split at hr
  · exact h i row hr
  · cases hr
theorem sl_nil {H : Heap} {e : Nat} {rows : List (List Lf)} (h : Sl H e none rows) : rows = [] := by
  cases rows with
  | nil => rfl
  | cons x xs => obtain ⟨_, _, _, h0, _⟩ := h 0 _ rfl; cases h0
theorem sl_drop {H : Heap} {e id r : Nat} {rows : List (List Lf)} (h : Sl H e (some (id, r)) rows) (n : Nat) : Sl H e (some (id, r + n)) (rows.drop n) := fun i row hr => by
  rw [List.getElem?_drop] at hr
  obtain ⟨id', r', b, hx, hb, he, hrow⟩ := h _ row hr
  cases hx
  exact ⟨id, r + n, b, rfl, hb, he, by rw [Nat.add_assoc]; exact hrow⟩

theorem implBridgeOf_is {H : Heap} {q : Lf} {log : List In} (h : RdInS H q log) (hn : log.length ≤ 1048576) (id : Int) (_ : I64 id) (ports : Int) (_ : I64 ports) :
    Runs env 50 [.int id, .int ports, .w (.lf q)] H fun v H' => ∃ l' fp, v = .agg l' ∧ IsBridge H' l' (bridgeOf id ports log) fp ∧ Fresh H H' fp := by
  obtain ⟨a, rfl, hs⟩ := h
  refine Runs.walk ok50 Tryz.func50 rfl (by simp [Tryz.f50]) fun Q hQ => ?_
  simp only [Tryz.f50, strip, stripL, stripI, stripG, chkT, tagsB, tagsL, tagD, addT, tagA, lookN, tagOp, elmT, ty22, ty26, ty27, ty28, ty29, ty30, ty41, ty53, ty56, Nat.reduceEqDiff, if_false, reduceIte, Option.getD_some, Option.getD_none, dstAt, dstOk, Nat.reduceLT, decide_true, if_true]
  simp
  refine stpL_runs (implBridgeNew _ _ _) ?_
  rintro _ _ ⟨_, f1, rfl, ⟨a1, rfl, o1⟩, ⟨⟨G1, rfl⟩, hf1⟩⟩
  simp [Bridge.enc]
  obtain ⟨B0, hB0⟩ : ∃ B0, B0 = (bridgeNew id ports).1 := ⟨_, rfl⟩
  rw [← hB0] at o1 ⊢
  obtain ⟨H3, hH3⟩ : ∃ H3 : Heap, H3 = H ++ some ⟨43, .wr, [[.i .i64 0, .sl none 0]]⟩ :: (G1 ++ [some ⟨43, .wr, [[.i .i64 B0.id, .sl a1 B0.ports.length]]⟩]) := ⟨_, rfl⟩
  have bz : blkAt H3 H.length = some ⟨43, .wr, [[.i .i64 0, .sl none 0]]⟩ := by rw [hH3]; simp
  have b7 : blkAt H3 (H.length + (G1.length + 1)) = some ⟨43, .wr, [[.i .i64 B0.id, .sl a1 B0.ports.length]]⟩ := by rw [hH3]; simp
  have o3 : Own H3 99 a1 (B0.ports.map Port.enc) f1 := by
    rw [hH3]
    have := o1.app [some ⟨43, .wr, [[.i .i64 B0.id, .sl a1 B0.ports.length]]⟩]
    simpa using this
  have k03 : Keep [] H H3 := by rw [hH3]; exact Keep.app _ _ _
  have hlt1 := o1.lt
  have n0 : ∀ i ∈ f1, H.length < i ∧ i < H.length + (G1.length + 1) := fun i hi => by have h1 := hf1 _ hi; have h2 := hlt1 _ hi; simp only [List.length_append, List.length_cons, List.length_nil] at h1 h2; omega
  have dz := blkAt_len bz
  rw [← hH3]
  clear hH3 o1 hf1 hlt1
  have fin : ∀ (Hf : Heap) (tm : Ab.T) (c : Bridge) (a7 : Option (Nat × Nat)) (f7 : List Nat), tm 6 = .ptr H.length 0 0 → blkAt Hf H.length = some ⟨43, .wr, [[.i .i64 c.id, .sl a7 c.ports.length]]⟩ → Own Hf 99 a7 (c.ports.map Port.enc) f7 → c = bridgeOf id ports log → Keep [] H Hf → (∀ i ∈ f7, H.length ≤ i) → Q .ret tm Hf := by
    intro Hf tm c a7 f7 t6 hb4 ho4 hc hK hf7
    refine hQ _ _ _ (by simp) ?_
    have hres : resT env.τ tm Hf (Tryz.f50.results.toList) = some [W.agg [.i .i64 c.id, .sl a7 c.ports.length]] := by simp [Tryz.f50, t6, hb4]
    rw [hres, optK_some, ← hc]
    have hI : IsBridge Hf [.i .i64 c.id, .sl a7 c.ports.length] c f7 := ⟨a7, rfl, ho4⟩
    obtain ⟨fp, h1, h2⟩ := hI.leave (H := H) (ws := [W.agg [.i .i64 c.id, .sl a7 c.ports.length]]) ⟨hK.ext, hf7⟩ (by simp)
    exact ⟨_, fp, rfl, h1, h2⟩
  cases hok : (bridgeNew id ports).2
  · simp [bz, dz]
    refine fin _ _ ⟨0, []⟩ none [] (by simp) (by rw [blkAt_set dz]; rfl) (Own.nil _ _) (bridgeOf_bad hok log).symm (k03.next (Keep.set _ _) (by simp)) (by simp)
  simp [builtinV, pureB, lenV]
  refine wpS_loop (fun j tm H' => ∃ i a7 f7, i + j = log.length ∧ tm 6 = .ptr H.length 0 0 ∧ tm 7 = .ptr (H.length + (G1.length + 1)) 0 0 ∧ tm 20 = .w (.lf (.sl a log.length)) ∧ tm 21 = .int log.length ∧ tm 22 = .int i ∧ blkAt H' H.length = some ⟨43, .wr, [[.i .i64 0, .sl none 0]]⟩ ∧ blkAt H' (H.length + (G1.length + 1)) = some ⟨43, .wr, [[.i .i64 (bridgeOf id ports (log.take i)).id, .sl a7 (bridgeOf id ports (log.take i)).ports.length]]⟩ ∧ Own H' 99 a7 ((bridgeOf id ports (log.take i)).ports.map Port.enc) f7 ∧ (∀ j ∈ f7, H.length < j ∧ j ≠ H.length + (G1.length + 1)) ∧ Keep [] H H') log.length (by rw [env_K]; omega)
    ⟨0, a1, f1, by simp, by simp, by simp, by simp, by simp, by simp, bz, by rw [b7, hB0]; rfl, by rw [hB0] at o3; exact o3, fun j hj => by have := n0 j hj; omega, k03⟩ ?_
  rintro j tm H1 hj ⟨i, a7, f7, hij, t6, t7, t20, t21, t22, cz, c7, o7, hf7, hK⟩ Q2 hn2 he2 hr2
  have ez := blkAt_len cz
  have e7 := blkAt_len c7
  simp [t21, t22]
  refine selS_intro (fun hc => ?_) (fun hc => ?_)
  · simp at hc
    obtain ⟨id2, r, bl, rfl, hbl, hbe, hrow⟩ := (hs.keep hK (by simp)) i _ (by simp [hc]; rfl)
    have hid := blkAt_len hbl
    have g4 : IntKind.i64.wrap ((i : Int) + 1) = (i : Int) + 1 := wrap64 (by omega) (by omega)
    have hst := bridgeOf_step id ports log hc
    have hbl4 := bridgeOf_len id ports (log.take i)
    obtain ⟨b, hb⟩ : ∃ b, b = bridgeOf id ports (log.take i) := ⟨_, rfl⟩
    rw [← hb] at c7 o7 hst hbl4
    have hR : RdBridge H1 [.i .i64 b.id, .sl a7 b.ports.length] b := ⟨a7, rfl, o7.sl⟩
    obtain ⟨x, hx⟩ : ∃ x, x = log[i] := ⟨_, rfl⟩
    rw [← hx] at hst hrow
    simp only [In.enc] at hrow
    simp [t6, t7, t20, t21, t22, c7, e7, indexAddrV, elemIs, hid, hbl, hbe, hc, hrow]
    refine stpL_runs (implReact (hR.app _) (by have : b.sz = b.ports.length := rfl; omega) x) ?_
    rintro _ H2 ⟨_, f8, _, f9, rfl, ⟨a8, rfl, o8⟩, o9, hfr, hdj⟩
    have k12 : Keep [] H1 H2 := hfr.base.keep
    have c72 := k12.blk c7 (by simp)
    have cz2 := k12.blk cz (by simp)
    have e72 := blkAt_len c72
    have h0 := hK.1
    have h89 := hfr.2
    simp [Bridge.enc, t6, t7, t20, t21, t22, c72, e72, g4]
    have hf8 : ∀ j ∈ f8, H1.length < j + 1 := fun j hj => by have := h89 j (by simp [hj]); rw [List.length_append] at this; omega
    refine hn2 (j - 1) _ _ (by omega) ⟨i + 1, a8, f8, by omega, by simp [t6], by simp [t7], by simp [t20], by simp [t21], by simp, ?_, ?_, ?_, fun j hj => by have := hf8 j hj; omega, ?_⟩
    · rw [blkAt_set_ne (by omega)]; exact cz2
    · rw [blkAt_set e72, hst]; rfl
    · rw [hst]
      exact o8.keep (Keep.set _ _) (fun j hj => by have := hf8 j hj; simp; omega)
    · exact (hK.next k12 (by simp)).next (Keep.set _ _) (by simp)
  · simp at hc
    obtain rfl : i = log.length := by omega
    rw [List.take_length] at c7 o7
    simp [t21, t22]
    refine he2 _ _ _ ?_
    simp [t6, t7, c7, e7, cz, ez]
    refine fin _ _ (bridgeOf id ports log) a7 f7 (by simp [t6]) (blkAt_set ez) (o7.keep (Keep.set _ _) (fun j hj => by have := hf7 j hj; simp; omega)) rfl (hK.next (Keep.set _ _) (by simp)) (fun j hj => by have := hf7 j hj; omega)

theorem specBridgeOf_is {H : Heap} {q : Lf} {log : List In} (h : RdInS H q log) (hn : log.length ≤ 1048576) (id : Int) (_ : I64 id) (ports : Int) (_ : I64 ports) :
    Runs env 58 [.int id, .int ports, .w (.lf q)] H fun v H' => ∃ l' fp, v = .agg l' ∧ IsBridge H' l' (bridgeOf id ports log) fp ∧ Fresh H H' fp := by
  obtain ⟨a, rfl, hs⟩ := h
  refine Runs.walk ok58 Tryz.func58 rfl (by simp [Tryz.f58]) fun Q hQ => ?_
  simp only [Tryz.f58, strip, stripL, stripI, stripG, chkT, tagsB, tagsL, tagD, addT, tagA, lookN, tagOp, elmT, ty22, ty26, ty27, ty28, ty29, ty30, ty41, ty53, ty56, Nat.reduceEqDiff, if_false, reduceIte, Option.getD_some, Option.getD_none, dstAt, dstOk, Nat.reduceLT, decide_true, if_true]
  simp
  refine stpL_runs (specBridgeNew _ _ _) ?_
  rintro _ _ ⟨_, f1, rfl, ⟨a1, rfl, o1⟩, ⟨⟨G1, rfl⟩, hf1⟩⟩
  simp [Bridge.enc]
  obtain ⟨B0, hB0⟩ : ∃ B0, B0 = (bridgeNew id ports).1 := ⟨_, rfl⟩
  rw [← hB0] at o1 ⊢
  obtain ⟨H3, hH3⟩ : ∃ H3 : Heap, H3 = H ++ some ⟨43, .wr, [[.i .i64 0, .sl none 0]]⟩ :: (G1 ++ [some ⟨43, .wr, [[.i .i64 B0.id, .sl a1 B0.ports.length]]⟩]) := ⟨_, rfl⟩
  have bz : blkAt H3 H.length = some ⟨43, .wr, [[.i .i64 0, .sl none 0]]⟩ := by rw [hH3]; simp
  have b7 : blkAt H3 (H.length + (G1.length + 1)) = some ⟨43, .wr, [[.i .i64 B0.id, .sl a1 B0.ports.length]]⟩ := by rw [hH3]; simp
  have o3 : Own H3 99 a1 (B0.ports.map Port.enc) f1 := by
    rw [hH3]
    have := o1.app [some ⟨43, .wr, [[.i .i64 B0.id, .sl a1 B0.ports.length]]⟩]
    simpa using this
  have k03 : Keep [] H H3 := by rw [hH3]; exact Keep.app _ _ _
  have hlt1 := o1.lt
  have n0 : ∀ i ∈ f1, H.length < i ∧ i < H.length + (G1.length + 1) := fun i hi => by have h1 := hf1 _ hi; have h2 := hlt1 _ hi; simp only [List.length_append, List.length_cons, List.length_nil] at h1 h2; omega
  have dz := blkAt_len bz
  rw [← hH3]
  clear hH3 o1 hf1 hlt1
  have fin : ∀ (Hf : Heap) (tm : Ab.T) (c : Bridge) (a7 : Option (Nat × Nat)) (f7 : List Nat), tm 6 = .ptr H.length 0 0 → blkAt Hf H.length = some ⟨43, .wr, [[.i .i64 c.id, .sl a7 c.ports.length]]⟩ → Own Hf 99 a7 (c.ports.map Port.enc) f7 → c = bridgeOf id ports log → Keep [] H Hf → (∀ i ∈ f7, H.length ≤ i) → Q .ret tm Hf := by
    intro Hf tm c a7 f7 t6 hb4 ho4 hc hK hf7
    refine hQ _ _ _ (by simp) ?_
    have hres : resT env.τ tm Hf (Tryz.f58.results.toList) = some [W.agg [.i .i64 c.id, .sl a7 c.ports.length]] := by simp [Tryz.f58, t6, hb4]
    rw [hres, optK_some, ← hc]
    have hI : IsBridge Hf [.i .i64 c.id, .sl a7 c.ports.length] c f7 := ⟨a7, rfl, ho4⟩
    obtain ⟨fp, h1, h2⟩ := hI.leave (H := H) (ws := [W.agg [.i .i64 c.id, .sl a7 c.ports.length]]) ⟨hK.ext, hf7⟩ (by simp)
    exact ⟨_, fp, rfl, h1, h2⟩
  refine wpS_loop (fun j tm H' => ∃ i a7 f7, i + j = log.length ∧ tm 6 = .ptr H.length 0 0 ∧ tm 7 = .ptr (H.length + (G1.length + 1)) 0 0 ∧ tm 2 = .w (.lf (.sl a log.length)) ∧ tm 9 = .int i ∧ blkAt H' H.length = some ⟨43, .wr, [[.i .i64 0, .sl none 0]]⟩ ∧ blkAt H' (H.length + (G1.length + 1)) = some ⟨43, .wr, [[.i .i64 (bridgeOf id ports (log.take i)).id, .sl a7 (bridgeOf id ports (log.take i)).ports.length]]⟩ ∧ Own H' 99 a7 ((bridgeOf id ports (log.take i)).ports.map Port.enc) f7 ∧ (∀ j ∈ f7, H.length < j ∧ j ≠ H.length + (G1.length + 1)) ∧ Keep [] H H') log.length (by rw [env_K]; omega)
    ⟨0, a1, f1, by simp, by simp, by simp, by simp, by simp, bz, by rw [b7, hB0]; rfl, by rw [hB0] at o3; exact o3, fun j hj => by have := n0 j hj; omega, k03⟩ ?_
  rintro j tm H1 hj ⟨i, a7, f7, hij, t6, t7, t2, t9, cz, c7, o7, hf7, hK⟩ Q2 hn2 he2 hr2
  have ez := blkAt_len cz
  have e7 := blkAt_len c7
  simp [t2, t9, builtinV, pureB, lenV]
  refine selS_intro (fun hc => ?_) (fun hc => ?_)
  · simp at hc
    obtain ⟨id2, r, bl, rfl, hbl, hbe, hrow⟩ := (hs.keep hK (by simp)) i _ (by simp [hc]; rfl)
    have hid := blkAt_len hbl
    have g4 : IntKind.i64.wrap ((i : Int) + 1) = (i : Int) + 1 := wrap64 (by omega) (by omega)
    have hst := bridgeOf_step id ports log hc
    have hbl4 := bridgeOf_len id ports (log.take i)
    obtain ⟨b, hb⟩ : ∃ b, b = bridgeOf id ports (log.take i) := ⟨_, rfl⟩
    rw [← hb] at c7 o7 hst hbl4
    have hR : RdBridge H1 [.i .i64 b.id, .sl a7 b.ports.length] b := ⟨a7, rfl, o7.sl⟩
    obtain ⟨x, hx⟩ : ∃ x, x = log[i] := ⟨_, rfl⟩
    rw [← hx] at hst hrow
    simp only [In.enc] at hrow
    simp [t2, t6, t7, t9, c7, e7, indexAddrV, elemIs, hid, hbl, hbe, hc, hrow]
    refine stpL_runs_f (specReact hR (by have : b.sz = b.ports.length := rfl; omega) x) (by rintro _ _ ⟨_, _, _, _, _, _, _, hf, _⟩; exact hf.1) ?_
    rintro _ H2 ⟨_, f8, _, f9, rfl, ⟨a8, rfl, o8⟩, o9, hfr, hdj⟩
    have k12 : Keep [] H1 H2 := hfr.keep
    have c72 := k12.blk c7 (by simp)
    have cz2 := k12.blk cz (by simp)
    have e72 := blkAt_len c72
    have h0 := hK.1
    have h89 := hfr.2
    simp [Bridge.enc, t2, t6, t7, t9, c72, e72, g4]
    have hf8 : ∀ j ∈ f8, H1.length < j + 1 := fun j hj => by have := h89 j (by simp [hj]); omega
    refine hn2 (j - 1) _ _ (by omega) ⟨i + 1, a8, f8, by omega, by simp [t6], by simp [t7], by simp [t2], by simp, ?_, ?_, ?_, fun j hj => by have := hf8 j hj; omega, ?_⟩
    · rw [blkAt_set_ne (by omega)]; exact cz2
    · rw [blkAt_set e72, hst]; rfl
    · rw [hst]
      exact o8.keep (Keep.set _ _) (fun j hj => by have := hf8 j hj; simp; omega)
    · exact (hK.next k12 (by simp)).next (Keep.set _ _) (by simp)
  · simp at hc
    obtain rfl : i = log.length := by omega
    rw [List.take_length] at c7 o7
    simp [t2, t9]
    refine he2 _ _ _ ?_
    simp [t6, t7, c7, e7, cz, ez]
    refine fin _ _ (bridgeOf id ports log) a7 f7 (by simp [t6]) (blkAt_set ez) (o7.keep (Keep.set _ _) (fun j hj => by have := hf7 j hj; simp; omega)) rfl (hK.next (Keep.set _ _) (by simp)) (fun j hj => by have := hf7 j hj; omega)

def saying (id ports : Int) (log : List In) (n : Int) : List Out := if (decide (0 ≤ n) && decide (n ≤ (log.length : Int) - 1)) = true then (reactB (bridgeOf id ports (log.take n.toNat)) (log.getD n.toNat default)).2 else []
theorem saying_len (id ports : Int) (log : List In) (n : Int) : (saying id ports log n).length ≤ 8 := by
  unfold saying
  split
  · have h1 := reactB_outs (bridgeOf id ports (log.take n.toNat)) (log.getD n.toNat default)
    have h2 := bridgeOf_len id ports (log.take n.toNat)
    omega
  · simp
theorem saying_sz0 {id ports : Int} {log : List In} {n : Int} (_ : log.length ≤ 1048576) : (saying id ports log n).length ≤ 1048576 := by
  have := saying_len id ports log n; omega

theorem specSaying_is {H : Heap} {q : Lf} {log : List In} (h : RdInS H q log) (hn : log.length ≤ 1048576) (id : Int) (hid_ : I64 id) (ports : Int) (hpo_ : I64 ports) (n : Int) (_ : I64 n) :
    Runs env 149 [.int id, .int ports, .w (.lf q), .int n] H fun v H' => ∃ q' fp, v = .w (.lf q') ∧ IsOutS H' q' (saying id ports log n) fp ∧ Fresh H H' fp := by
  obtain ⟨a, rfl, hs⟩ := h
  have g : IntKind.i64.wrap ((log.length : Int) - 1) = (log.length : Int) - 1 := wrap64 (by omega) (by omega)
  refine Runs.walk ok149 Tryz.func149 rfl (by simp [Tryz.f149]) fun Q hQ => ?_
  simp only [Tryz.f149, strip, stripL, stripI, stripG, chkT, tagsB, tagsL, tagD, addT, tagA, lookN, tagOp, elmT, ty22, ty26, ty27, ty28, ty29, ty30, ty41, ty53, ty56, Nat.reduceEqDiff, if_false, reduceIte, Option.getD_some, Option.getD_none, dstAt, dstOk, Nat.reduceLT, decide_true, if_true]
  simp [builtinV, pureB, lenV, g]
  by_cases hc : 0 ≤ n ∧ n ≤ (log.length : Int) - 1
  · obtain ⟨k, rfl⟩ : ∃ k : Nat, n = k := ⟨n.toNat, by omega⟩
    have hk : k < log.length := by omega
    obtain ⟨id2, r, bl, rfl, hbl, hbe, hrow⟩ := hs k _ (by simp [hk]; rfl)
    have hid := blkAt_len hbl
    have hsy : saying id ports log k = (reactB (bridgeOf id ports (log.take k)) log[k]).2 := by
      unfold saying
      rw [if_pos (by simp; omega)]
      simp [List.getD, List.getElem?_eq_getElem hk]
    obtain ⟨x, hx⟩ : ∃ x, x = log[k] := ⟨_, rfl⟩
    rw [← hx] at hsy hrow
    simp only [In.enc] at hrow
    rw [hsy] at hQ
    have hkl : (k : Int) ≤ (log.length : Int) - 1 := by omega
    have hkl2 : k ≤ log.length := by omega
    simp [l1In, hkl, sliceV, elemIs, hid, hbl, hbe, bnd, hkl2]
    have hR : RdInS H (.sl (some (id2, r)) k) (log.take k) := ⟨some (id2, r), by simp; omega, by rw [List.map_take]; exact sl_take hs k⟩
    refine stpL_runs_f (specBridgeOf_is hR (by simp; omega) id hid_ ports hpo_) (by rintro _ _ ⟨_, _, _, _, hf⟩; exact hf.1) ?_
    rintro _ _ ⟨_, f1, rfl, ⟨a1, rfl, o1⟩, ⟨⟨G1, rfl⟩, hf1⟩⟩
    have hbl4 := bridgeOf_len id ports (log.take k)
    obtain ⟨b, hb⟩ : ∃ b, b = bridgeOf id ports (log.take k) := ⟨_, rfl⟩
    rw [← hb] at o1 hbl4 hQ ⊢
    have hRb : RdBridge (H ++ G1) (b.enc a1) b := ⟨a1, rfl, o1.sl⟩
    simp [indexAddrV, elemIs, hid, hbl, hbe, hk, hrow]
    refine stpL_runs_f (specReact hRb (by have : b.sz = b.ports.length := rfl; omega) x) (by rintro _ _ ⟨_, _, _, _, _, _, _, hf, _⟩; exact hf.1) ?_
    rintro _ _ ⟨_, f8, q9, f9, rfl, ⟨a8, rfl, o8⟩, o9, ⟨⟨G2, rfl⟩, hf2⟩, hdj⟩
    simp [Bridge.enc]
    refine hQ _ _ _ (by simp) ?_
    simp [Tryz.f149]
    have o9' := o9.app [some ⟨43, .wr, [[.i .i64 (reactB b x).1.id, .sl a8 (reactB b x).1.ports.length]]⟩]
    simp only [List.append_assoc] at o9'
    obtain ⟨fp, h1, h2⟩ := o9'.leave (H := H) (ws := [W.lf q9]) (Fresh.app H _ fun i hi => by have := hf2 i (by simp [hi]); rw [List.length_append] at this; omega) (by simp)
    exact ⟨fp, h1, h2⟩
  · have hcf : (decide (0 ≤ n) && decide (n ≤ (log.length : Int) - 1)) = false := by
      rw [Bool.and_eq_false_iff]; simp; omega
    have hsy : saying id ports log n = [] := by unfold saying; rw [hcf]; rfl
    simp [l1In, hcf]
    refine hQ _ _ _ (by simp) ?_
    simp [Tryz.f149, hsy]
    have hI : IsOutS (H ++ [some ⟨62, .wr, []⟩]) (.sl (some (H.length, 0)) 0) [] [H.length] := ⟨_, rfl, Own.of (by simp)⟩
    obtain ⟨fp, h1, h2⟩ := hI.leave (H := H) (ws := [W.lf (.sl (some (H.length, 0)) 0)]) (Fresh.app H _ (by simp)) (by simp)
    exact ⟨fp, h1, h2⟩

def judgeGates (x : Box) : Bool := x.ok && decide (x.gates = gates (bridgeOf x.id x.ports x.line))
theorem Box.ok_ids {x : Box} (h : x.ok = true) : (1 ≤ x.id ∧ x.id ≤ 9) ∧ (1 ≤ x.ports ∧ x.ports ≤ 4) ∧ x.line.length ≤ 60 ∧ (x.gates.length : Int) = x.ports := by
  unfold Box.ok at h
  simp only [Bool.and_eq_true, decide_eq_true_eq] at h
  obtain ⟨⟨⟨⟨⟨⟨⟨⟨h1, -⟩, -⟩, -⟩, -⟩, -⟩, h2⟩, h3⟩, -⟩ := h
  have hb : (1 ≤ x.id ∧ x.id ≤ 9) ∧ (1 ≤ x.ports ∧ x.ports ≤ 4) := by
    unfold bridgeNew at h1
    split at h1
    · rename_i hh; simp at hh; exact hh
    · simp at h1
  refine ⟨hb.1, hb.2, ?_, h2⟩
  simp [logOk] at h3
  omega

theorem implJudgeGates_is {H : Heap} {l : List Lf} {x : Box} (h : RdBox H l x) (hn : x.sz ≤ 1048576) : run env 10 [.agg l] H = some (.bool (judgeGates x), H) := by
  have hR := h
  have e1 := fun G => implBoxOk_is (hR.app G) (by omega)
  obtain ⟨_, _, _, _, _, rfl, -, -, ⟨a2, rfl, r2⟩, ⟨a3, rfl, r3⟩, -⟩ := h
  simp only [Box.enc] at e1
  refine run_walk ok10 Tryz.func10 rfl (by simp [Tryz.f10]) fun Q hQ => ?_
  simp only [Tryz.f10, strip, stripL, stripI, stripG, chkT, tagsB, tagsL, tagD, addT, tagA, lookN, tagOp, elmT, ty22, ty26, ty27, ty28, ty29, ty30, ty41, ty53, ty56, Nat.reduceEqDiff, if_false, reduceIte, Option.getD_some, Option.getD_none, dstAt, dstOk, Nat.reduceLT, decide_true, if_true]
  simp [Box.enc, e1]
  cases hd : x.ok
  · simp
    refine hQ _ _ _ (by simp) ?_
    simp [Tryz.f10, judgeGates, hd]
  obtain ⟨h1, h2, h3, h4⟩ := Box.ok_ids hd
  simp
  refine stpL_runs_f (implBridgeOf_is ⟨a3, rfl, r3.app _⟩ (by omega) x.id ⟨by omega, by omega⟩ x.ports ⟨by omega, by omega⟩) (by rintro _ _ ⟨_, _, _, _, hf⟩; exact hf.1) ?_
  rintro _ _ ⟨_, f1, rfl, ⟨a1, rfl, o1⟩, ⟨⟨G1, rfl⟩, -⟩⟩
  have hbl4 := bridgeOf_len x.id x.ports x.line
  obtain ⟨b, hb⟩ : ∃ b, b = bridgeOf x.id x.ports x.line := ⟨_, rfl⟩
  rw [← hb] at o1 hbl4 ⊢
  have hbs : b.sz = b.ports.length := rfl
  have hRb : RdBridge _ [.i .i64 b.id, .sl a1 b.ports.length] b := ⟨a1, rfl, o1.sl⟩
  simp only [List.append_assoc, List.cons_append, List.nil_append] at hRb
  simp [Bridge.enc]
  refine stpL_runs_f (implGates_is (b := b) hRb (by omega)) (by rintro _ _ ⟨_, _, _, _, hf⟩; exact hf.1) ?_
  rintro _ _ ⟨q9, f9, rfl, o9, ⟨⟨G2, rfl⟩, -⟩⟩
  have o9r := o9.rd
  simp only [List.append_assoc, List.cons_append] at o9r
  have e3 := equalBoolS (q := .sl a2 x.gates.length) (xs := x.gates) ⟨a2, rfl, r2.app _⟩ o9r (by omega)
  simp [e3]
  refine hQ _ _ _ (by simp) ?_
  simp [Tryz.f10, judgeGates, hd, hb]

def saidAt (id ports : Int) (log : List In) (i : Nat) : List Out := (reactB (bridgeOf id ports (log.take i)) (log.getD i default)).2
def lastL (l : List Out) : List Out := l.drop (l.length - 40)
def judgeSaid (x : Box) : Bool := x.ok && decide (x.said = lastL (upto (saidAt x.id x.ports x.line) x.line.length))
theorem saidAt_len (id ports : Int) (log : List In) (i : Nat) : (saidAt id ports log i).length ≤ 8 := by
  unfold saidAt
  have h1 := reactB_outs (bridgeOf id ports (log.take i)) (log.getD i default)
  have h2 := bridgeOf_len id ports (log.take i)
  omega
theorem said_len (id ports : Int) (log : List In) : ∀ i, (upto (saidAt id ports log) i).length ≤ 8 * i
  | 0 => by simp [upto]
  | i + 1 => by
    have := said_len id ports log i
    have := saidAt_len id ports log i
    simp [upto]; omega

theorem lastSaid {H : Heap} {q : Lf} {xs : List Out} {fp : List Nat} (h : IsOutS H q xs fp) (hn : xs.length ≤ 4194304) : Runs env 53 [.w (.lf q)] H fun v H' => ∃ q' fp, v = .w (.lf q') ∧ IsOutS H' q' (lastL xs) fp ∧ Fresh H H' fp := by
  obtain ⟨a, rfl, ho⟩ := h
  have hs := ho.sl
  have g : IntKind.i64.wrap ((xs.length : Int) - 40) = (xs.length : Int) - 40 := wrap64 (by omega) (by omega)
  obtain ⟨k, hk⟩ : ∃ k : Nat, k = xs.length - 40 := ⟨_, rfl⟩
  have hm : (if (xs.length : Int) - 40 < 0 then (0 : Int) else (xs.length : Int) - 40) = k := by split <;> omega
  have hkl : k ≤ xs.length := by omega
  refine Runs.walk ok53 Tryz.func53 rfl (by simp [Tryz.f53]) fun Q hQ => ?_
  simp only [Tryz.f53, strip, stripL, stripI, stripG, chkT, tagsB, tagsL, tagD, addT, tagA, lookN, tagOp, elmT, ty22, ty26, ty27, ty28, ty29, ty30, ty41, ty53, ty56, Nat.reduceEqDiff, if_false, reduceIte, Option.getD_some, Option.getD_none, dstAt, dstOk, Nat.reduceLT, decide_true, if_true]
  simp [builtinV, pureB, lenV, g, foldI, hm]
  have hRk : ∃ q2, sliceV env.τ H 30 (.w (.lf (.sl a xs.length))) (some (.int k)) none none = some (.w (.lf q2), H) ∧ RdOutS H q2 (lastL xs) := by
    cases a with
    | none =>
      have hx := sl_nil hs
      simp at hx
      subst hx
      refine ⟨.sl none 0, ?_, none, rfl, Sl.nil _ _ _⟩
      have hk0 : k = 0 := by simp at hk; exact hk
      subst hk0
      simp [sliceV, elemIs, bnd]
    | some p =>
      obtain ⟨id, r⟩ := p
      have hbl : ∃ bl, blkAt H id = some bl ∧ bl.elem = 62 := by
        rcases ho with ⟨hx, -⟩ | ⟨id', b, hx, -, hb, he, -⟩
        · cases hx
        · cases hx; exact ⟨b, hb, he⟩
      obtain ⟨bl, hbl, hbe⟩ := hbl
      refine ⟨.sl (some (id, r + k)) (xs.length - k), ?_, some (id, r + k), by simp [lastL, hk], ?_⟩
      · simp [sliceV, elemIs, bnd, hbl, hbe, hkl]
      · have := sl_drop hs k
        rw [lastL, ← hk, List.map_drop]
        exact this
  obtain ⟨q2, hq2, hR2⟩ := hRk
  simp [hq2]
  refine stpL_runs (cloneOutS hR2 (by simp [lastL]; omega)) ?_
  rintro _ _ ⟨q9, f9, rfl, o9, ⟨⟨G2, rfl⟩, hf⟩⟩
  simp
  refine hQ _ _ _ (by simp) ?_
  simp [Tryz.f53]
  exact o9.leave (Fresh.app H _ hf) (by simp)

theorem implJudgeSaid_is {H : Heap} {l : List Lf} {x : Box} (h : RdBox H l x) (hn : x.sz ≤ 1048576) : run env 11 [.agg l] H = some (.bool (judgeSaid x), H) := by
  have hR := h
  have e1 := fun G => implBoxOk_is (hR.app G) (by omega)
  have hszS : x.said.length ≤ 1048576 := by unfold Box.sz at hn; omega
  obtain ⟨q0, q1, _, _, _, rfl, -, -, ⟨a2, rfl, r2⟩, ⟨a3, rfl, r3⟩, ⟨a4, rfl, r4⟩⟩ := h
  simp only [Box.enc] at e1
  refine run_walk ok11 Tryz.func11 rfl (by simp [Tryz.f11]) fun Q hQ => ?_
  simp only [Tryz.f11, strip, stripL, stripI, stripG, chkT, tagsB, tagsL, tagD, addT, tagA, lookN, tagOp, elmT, ty22, ty26, ty27, ty28, ty29, ty30, ty41, ty53, ty56, Nat.reduceEqDiff, if_false, reduceIte, Option.getD_some, Option.getD_none, dstAt, dstOk, Nat.reduceLT, decide_true, if_true]
  have fin : ∀ tm H' b, Keep [] H H' → tm 2 = .bool b → judgeSaid x = b → Q .ret tm H' := by
    intro tm H' b hk h6 hx
    obtain ⟨G, rfl⟩ := hk.ext
    refine hQ _ _ _ (by simp) ?_
    simp [Tryz.f11, h6, hx]
  simp [Box.enc, e1]
  cases hd : x.ok
  · simp
    exact fin _ _ false (Keep.app _ _ _) (by simp) (by simp [judgeSaid, hd])
  obtain ⟨h1, h2, h3, h4⟩ := Box.ok_ids hd
  simp
  refine stpL_runs (implBridgeNew _ _ _) ?_
  rintro _ _ ⟨_, f1, rfl, ⟨a1, rfl, o1⟩, ⟨⟨G1, rfl⟩, hf1⟩⟩
  simp [Bridge.enc, builtinV, pureB, lenV]
  obtain ⟨id, hid_⟩ : ∃ id, id = x.id := ⟨_, rfl⟩
  obtain ⟨ports, hpo_⟩ : ∃ ports, ports = x.ports := ⟨_, rfl⟩
  obtain ⟨log, hlog⟩ : ∃ log, log = x.line := ⟨_, rfl⟩
  obtain ⟨B0, hB0⟩ : ∃ B0, B0 = (bridgeNew x.id x.ports).1 := ⟨_, rfl⟩
  rw [← hB0] at o1 ⊢
  rw [← hid_, ← hpo_] at hB0
  obtain ⟨H3, hH3⟩ : ∃ H3 : Heap, H3 = H ++ some ⟨32, .wr, [[.i .i64 x.id, .i .i64 x.ports, .i .i64 x.reg.epoch, .i .i64 x.reg.owner, .i .i64 x.reg.pair, q0, q1, .sl a2 x.gates.length, .sl a3 x.line.length, .sl a4 x.said.length]]⟩ :: (G1 ++ [some ⟨43, .wr, [[.i .i64 B0.id, .sl a1 B0.ports.length]]⟩]) := ⟨_, rfl⟩
  have bz : blkAt H3 H.length = some ⟨32, .wr, [[.i .i64 x.id, .i .i64 x.ports, .i .i64 x.reg.epoch, .i .i64 x.reg.owner, .i .i64 x.reg.pair, q0, q1, .sl a2 x.gates.length, .sl a3 x.line.length, .sl a4 x.said.length]]⟩ := by rw [hH3]; simp
  obtain ⟨K7, hK7⟩ : ∃ K7, K7 = H.length + (G1.length + 1) := ⟨_, rfl⟩
  have b7 : blkAt H3 K7 = some ⟨43, .wr, [[.i .i64 B0.id, .sl a1 B0.ports.length]]⟩ := by rw [hH3, hK7]; simp
  have o3 : Own H3 99 a1 (B0.ports.map Port.enc) f1 := by
    rw [hH3]
    have := o1.app [some ⟨43, .wr, [[.i .i64 B0.id, .sl a1 B0.ports.length]]⟩]
    simpa using this
  have k03 : Keep [] H H3 := by rw [hH3]; exact Keep.app _ _ _
  have hlt1 := o1.lt
  have n0 : ∀ i ∈ f1, i ≠ K7 := fun i hi => by have h1 := hf1 _ hi; have h2 := hlt1 _ hi; simp only [List.length_append, List.length_cons, List.length_nil] at h1 h2; omega
  have hKH : H.length < K7 := by omega
  rw [← hH3, ← hK7]
  clear hH3 o1 hf1 hlt1 hK7
  have r3' : Sl H 64 a3 (log.map In.enc) := by rw [hlog]; exact r3
  have hjs : judgeSaid x = decide (x.said = lastL (upto (saidAt id ports log) log.length)) := by simp [judgeSaid, hd, hid_, hpo_, hlog]
  have hll : log.length ≤ 60 := by rw [hlog]; exact h3
  have hlen : x.line.length = log.length := by rw [hlog]
  rw [hlen] at bz ⊢
  have dz := blkAt_len bz
  have d7 := blkAt_len b7
  refine wpS_loop (fun j tm H' => ∃ i a7 f7 a5 f5, i + j = log.length ∧ tm 1 = .ptr H.length 0 0 ∧ tm 3 = .ptr K7 0 0 ∧ tm 22 = .w (.lf (.sl a3 log.length)) ∧ tm 23 = .int log.length ∧ tm 24 = .int i ∧ tm 5 = .w (.lf (.sl a5 (upto (saidAt id ports log) i).length)) ∧ blkAt H' K7 = some ⟨43, .wr, [[.i .i64 (bridgeOf id ports (log.take i)).id, .sl a7 (bridgeOf id ports (log.take i)).ports.length]]⟩ ∧ Own H' 99 a7 ((bridgeOf id ports (log.take i)).ports.map Port.enc) f7 ∧ Own H' 62 a5 ((upto (saidAt id ports log) i).map Out.enc) f5 ∧ (∀ j ∈ f7, j ≠ K7) ∧ (∀ j ∈ f5, H3.length ≤ j ∧ j ∉ f7) ∧ Keep [K7] H3 H') log.length (by rw [env_K]; omega)
    ⟨0, a1, f1, none, [], by simp, by simp, by simp, by simp, by simp, by simp, by simp [upto], by rw [b7, hB0]; rfl, by rw [hB0] at o3; exact o3, Own.nil _ _, n0, by simp, Keep.refl _ _⟩ ?_
  rintro j tm H1 hj ⟨i, a7, f7, a5, f5, hij, t1, t3, t22, t23, t24, t5, c7, o7, o5, hf7, hf5, hK3⟩ Q2 hn2 he2 hr2
  have hK : Keep [] H H1 := k03.next hK3 (by simp; omega)
  have cz := hK3.blk bz (by simp; omega)
  have ez := blkAt_len cz
  have e7 := blkAt_len c7
  have hsl := said_len id ports log i
  simp [t23, t24]
  refine selS_intro (fun hc => ?_) (fun hc => ?_)
  · simp at hc
    obtain ⟨id2, r, bl, rfl, hbl, hbe, hrow⟩ := (r3'.keep hK (by simp)) i _ (by simp [hc]; rfl)
    have hid := blkAt_len hbl
    have g4 : IntKind.i64.wrap ((i : Int) + 1) = (i : Int) + 1 := wrap64 (by omega) (by omega)
    have hst := bridgeOf_step id ports log hc
    have hbl4 := bridgeOf_len id ports (log.take i)
    have hss : upto (saidAt id ports log) (i + 1) = upto (saidAt id ports log) i ++ (reactB (bridgeOf id ports (log.take i)) log[i]).2 := by
      rw [upto, saidAt]
      simp [List.getD, List.getElem?_eq_getElem hc]
    obtain ⟨b, hb⟩ : ∃ b, b = bridgeOf id ports (log.take i) := ⟨_, rfl⟩
    rw [← hb] at c7 o7 hst hbl4 hss
    have hR : RdBridge H1 [.i .i64 b.id, .sl a7 b.ports.length] b := ⟨a7, rfl, o7.sl⟩
    obtain ⟨y, hy⟩ : ∃ y, y = log[i] := ⟨_, rfl⟩
    rw [← hy] at hst hrow hss
    have hro := reactB_outs b y
    simp only [In.enc] at hrow
    simp [t1, t3, t5, t22, t23, t24, c7, e7, indexAddrV, elemIs, hid, hbl, hbe, hc, hrow]
    refine stpL_runs (implReact (hR.app _) (by have : b.sz = b.ports.length := rfl; omega) y) ?_
    rintro _ H2 ⟨_, f8, _, f9, rfl, ⟨a8, rfl, o8⟩, ⟨a9, rfl, o9⟩, hfr, hdj⟩
    have k12 : Keep [] H1 H2 := hfr.base.keep
    have c72 := k12.blk c7 (by simp)
    have e72 := blkAt_len c72
    have h31 := hK3.1
    have h89 := hfr.2
    have h12 := k12.1
    have hf8 : ∀ j ∈ f8, H1.length ≤ j ∧ j < H2.length := fun j hj => ⟨by have := h89 j (by simp [hj]); rw [List.length_append] at this; omega, o8.lt j hj⟩
    have hf9 : ∀ j ∈ f9, H1.length ≤ j := fun j hj => by have := h89 j (by simp [hj]); rw [List.length_append] at this; omega
    have hl5 := o5.lt
    simp [Bridge.enc, t1, t3, t5, t22, t23, t24, c72, e72, g4]
    have ks := fun y => Keep.set (id := K7) H2 y
    have o52 := fun y => ((o5.keep k12 (by simp)).keep (ks y) (fun j hj => by have := hf5 j hj; simp; omega))
    have o92 := fun y => (o9.keep (ks y) (fun j hj => by have := hf9 j hj; simp; omega))
    have o82 := fun y => (o8.keep (ks y) (fun j hj => by have := hf8 j hj; simp; omega))
    refine stpL_append (rows := (upto (saidAt id ports log) i).map Out.enc) (ys := (reactB b y).2.map Out.enc) ((o52 _).app _) (((o92 _).app _).sl) rfl rfl rfl (by simp) (by simp; omega) (by simp) (by simp) fun a'' H'' fp'' ho'' hk'' hf'' => ?_
    simp [t1, t3, t5, t22, t23, t24, g4]
    have c74 := hk''.blk (blkAt_app (blkAt_set e72) _) (fun hj => by have := hf5 _ hj; omega)
    have o84 := ((o82 _).app _).keep hk'' (fun j hj hj5 => by have := hf8 j hj; have := hl5 j hj5; omega)
    have hf2 : ∀ j ∈ fp'', H3.length ≤ j ∧ j ∉ f8 := fun j hj => by
      rcases hf'' j hj with h | h
      · exact ⟨(hf5 j h).1, fun h8 => by have := hf8 j h8; have := hl5 j h; omega⟩
      · simp at h
        exact ⟨by omega, fun h8 => by have := hf8 j h8; omega⟩
    refine hn2 (j - 1) _ _ (by omega) ⟨i + 1, a8, f8, a'', fp'', by omega, by simp [t1], by simp [t3], by simp [t22], by simp [t23], by simp, by simp [hss], by rw [c74, hst]; rfl, by rw [hst]; exact o84, by simpa [hss] using ho'', fun j hj => by have := hf8 j hj; omega, hf2, ?_⟩
    have ka : Keep [K7] H3 H2 := hK3.trans (h := [K7]) k12 (by simp) (by simp)
    have kb := ka.trans (h := [K7]) (ks (some ⟨43, .wr, [[.i .i64 (reactB b y).1.id, .sl a8 (reactB b y).1.ports.length]]⟩)) (by simp) (by simp)
    exact (kb.trans (h := [K7]) (Keep.app [] _ _) (by simp) (by simp)).trans (h := [K7]) hk'' (by simp) (fun j hj hl => by have := hf5 j hj; omega)
  · simp at hc
    obtain rfl : i = log.length := by omega
    simp [t1, t3, t5, t22, t23, t24]
    refine he2 _ _ _ ?_
    simp [t1, t5, cz, ez]
    refine stpL_runs_f (lastSaid ⟨a5, rfl, o5⟩ (by omega)) (by rintro _ _ ⟨_, _, _, _, hf⟩; exact hf.1) ?_
    rintro _ _ ⟨q9, f9, rfl, o9, ⟨⟨G9, rfl⟩, hf9⟩⟩
    have e3 := equalOutS (q := .sl a4 x.said.length) (xs := x.said) ⟨a4, rfl, (r4.keep hK (by simp)).app _⟩ o9.rd hszS
    simp [e3]
    exact fin _ _ _ (keep_more0 hK _) (by simp) hjs

def begins (a b : List In) : Bool := decide (a.length ≤ b.length) && decide (b.take a.length = a)
theorem own_elem {H : Heap} {e : Nat} {a : Option (Nat × Nat)} {rows : List (List Lf)} {fp : List Nat} (h : Own H e a rows fp) : elemIs H e a = true := by
  rcases h with ⟨rfl, -, -⟩ | ⟨id, b, rfl, -, hb, he, -⟩
  · rfl
  · simp [elemIs, hb, he]
theorem elem_app {H : Heap} {e : Nat} {a : Option (Nat × Nat)} (h : elemIs H e a = true) (G : Heap) : elemIs (H ++ G) e a = true := by
  cases a with
  | none => rfl
  | some p =>
    obtain ⟨id, r⟩ := p
    simp only [elemIs] at h ⊢
    split at h
    · rename_i b hb
      rw [blkAt_app hb]; exact h
    · cases h

theorem hasLineM {H : Heap} {id : Nat} {l : List Lf} {x : Box} (hb : blkAt H id = some ⟨32, .wr, [l]⟩) (h : RdBox H l x) {a : Option (Nat × Nat)} {log : List In} (hl : Sl H 64 a (log.map In.enc)) (he : elemIs H 64 a = true) (hn : log.length ≤ 1048576) :
    run env 55 [.ptr id 0 0, .w (.lf (.sl a log.length))] H = some (.bool (begins x.line log), H) := by
  obtain ⟨_, _, _, _, _, rfl, -, -, -, ⟨a3, rfl, r3⟩, -⟩ := h
  have hid0 := blkAt_len hb
  refine run_walk ok55 Tryz.func55 rfl (by simp [Tryz.f55]) fun Q hQ => ?_
  simp only [Tryz.f55, strip, stripL, stripI, stripG, chkT, tagsB, tagsL, tagD, addT, tagA, lookN, tagOp, elmT, ty22, ty26, ty27, ty28, ty29, ty30, ty41, ty53, ty56, Nat.reduceEqDiff, if_false, reduceIte, Option.getD_some, Option.getD_none, dstAt, dstOk, Nat.reduceLT, decide_true, if_true]
  simp [hb, hid0, Box.enc, builtinV, pureB, lenV]
  by_cases hc : x.line.length ≤ log.length
  · have hc2 : (x.line.length : Int) ≤ (log.length : Int) := by omega
    have e3 : ∀ q, RdInS H q (log.take x.line.length) → run env 98 [.w (.lf q), .w (.lf (.sl a3 x.line.length))] H = some (.bool (decide (log.take x.line.length = x.line)), H) := fun q hq => equalInS hq ⟨a3, rfl, r3⟩ (by simp; omega)
    have hq : ∃ q, sliceV env.τ H 29 (.w (.lf (.sl a log.length))) none (some (.int x.line.length)) none = some (.w (.lf q), H) ∧ RdInS H q (log.take x.line.length) := by
      cases a with
      | none =>
        have hx := sl_nil hl
        simp at hx
        subst hx
        have h0 : x.line.length = 0 := by simpa using hc
        refine ⟨.sl none 0, ?_, none, by simp, by simpa using Sl.nil _ _ _⟩
        simp [sliceV, elemIs, bnd, h0]
      | some p =>
        obtain ⟨id2, r2⟩ := p
        refine ⟨.sl (some (id2, r2)) x.line.length, ?_, some (id2, r2), by simp; omega, by rw [List.map_take]; exact sl_take hl _⟩
        simp [sliceV, he, bnd, hc]
    obtain ⟨q, hq1, hq2⟩ := hq
    have e3 := e3 q hq2
    simp [hc, hb, hid0, Box.enc, builtinV, pureB, lenV, hq1, e3]
    refine hQ _ _ _ (by simp) ?_
    simp [Tryz.f55, begins, hc]
  · have hc2 : ¬ (x.line.length : Int) ≤ (log.length : Int) := by omega
    simp [hc2, hc]
    refine hQ _ _ _ (by simp) ?_
    simp [Tryz.f55, begins, hc]

def zM : Minder := ⟨false, 0, 0, [], 0, 0, 0⟩
def mindsAt (x : Box) (s : Int) : Bool := (decide (0 ≤ s) && decide (s ≤ (x.two.length : Int) - 1)) && minds x.reg s (x.two.getD s.toNat zM)
def whoM (x : Box) : Int := if minds x.reg 0 (x.two.getD 0 zM) = true then 0 else if minds x.reg 1 (x.two.getD 1 zM) = true then 1 else -1
theorem whoM_cases (x : Box) : (whoM x = 0 ∧ minds x.reg 0 (x.two.getD 0 zM) = true) ∨ (whoM x = 1 ∧ minds x.reg 1 (x.two.getD 1 zM) = true) ∨ (whoM x = -1 ∧ minds x.reg 0 (x.two.getD 0 zM) = false ∧ minds x.reg 1 (x.two.getD 1 zM) = false) := by
  unfold whoM
  cases h0 : minds x.reg 0 (x.two.getD 0 zM) <;> cases h1 : minds x.reg 1 (x.two.getD 1 zM) <;> simp
theorem minds_one (r : Reg) (m n : Minder) : ¬ (minds r 0 m = true ∧ minds r 1 n = true) := by
  unfold minds
  rintro ⟨h1, h2⟩
  simp at h1 h2
  omega

theorem minderAtI {H : Heap} {q : Lf} {xs : List Minder} {fp : List Nat} (h : IsMinderS H q xs fp) : ∃ a rws, q = .sl a xs.length ∧ rws.length = xs.length ∧ Sl H 52 a rws ∧ ∀ (i : Nat) (row : List Lf) (x : Minder), rws[i]? = some row → xs[i]? = some x → ∃ a', row = x.enc a' ∧ Sl H 64 a' (x.log.map In.enc) ∧ elemIs H 64 a' = true := by
  obtain ⟨a, rows, fp0, fps, rfl, ho, hp, -, -⟩ := h
  refine ⟨a, rows, rfl, hp.len, ho.sl, fun i row x hr hx => ?_⟩
  have hi := (List.getElem?_eq_some_iff.1 hx).1
  have h2 : i < fps.length := by rw [hp.len2]; exact hi
  obtain ⟨a', h3, h4⟩ := hp.at_ i row x _ hr hx (List.getElem?_eq_getElem h2)
  exact ⟨a', h3, h4.sl, own_elem h4⟩

theorem minderM {H : Heap} {id : Nat} {l : List Lf} {x : Box} (hb : blkAt H id = some ⟨32, .wr, [l]⟩) (h : RdBox H l x) (h2 : x.two.length = 2) (hn : x.sz ≤ 1048576) : run env 54 [.ptr id 0 0] H = some (.int (whoM x), H) := by
  obtain ⟨_, _, _, _, _, rfl, ⟨a0, rws, rfl, hs, hlen, hat⟩, -⟩ := h
  unfold Box.sz at hn
  have hid0 := blkAt_len hb
  have hw := whoM_cases x
  obtain ⟨m0, m1, hm⟩ : ∃ m0 m1, x.two = [m0, m1] := by
    match hx : x.two, h2 with
    | [m0, m1], _ => exact ⟨m0, m1, rfl⟩
  rw [hm] at hw
  simp only [List.getD_cons_zero, List.getD_cons_succ] at hw
  have hsz0 := MinderS.sz_at (xs := x.two) (x := m0) (by rw [hm]; simp)
  have hsz1 := MinderS.sz_at (xs := x.two) (x := m1) (by rw [hm]; simp)
  refine run_walk ok54 Tryz.func54 rfl (by simp [Tryz.f54]) fun Q hQ => ?_
  simp only [Tryz.f54, strip, stripL, stripI, stripG, chkT, tagsB, tagsL, tagD, addT, tagA, lookN, tagOp, elmT, ty22, ty26, ty27, ty28, ty29, ty30, ty41, ty53, ty56, Nat.reduceEqDiff, if_false, reduceIte, Option.getD_some, Option.getD_none, dstAt, dstOk, Nat.reduceLT, decide_true, if_true]
  simp [hb, hid0, Box.enc, builtinV, pureB, lenV]
  refine wpS_loop (fun j tm H' => ∃ i G, i + j = 2 ∧ tm 0 = .ptr id 0 0 ∧ tm 8 = .w (.lf (.sl a0 x.two.length)) ∧ tm 9 = .int 2 ∧ tm 10 = .int i ∧ H' = H ++ G ∧ (1 ≤ i → minds x.reg 0 m0 = false) ∧ (2 ≤ i → minds x.reg 1 m1 = false)) 2 (by rw [env_K]; omega) ⟨0, [], by simp, by simp, by simp, by simp [h2], by simp, by simp, by simp, by simp⟩ ?_
  rintro j tm H' hj ⟨i, G, hij, t0, t8, t9, t10, rfl, hz0, hz1⟩ Q2 hn2 he2 hr2
  simp [t8, t9, t10]
  refine selS_intro (fun hc => ?_) (fun hc => ?_)
  · simp at hc
    have hc1 : i < x.two.length := by omega
    have hri : i < rws.length := by omega
    obtain ⟨id2, r, bl, rfl, hbl, hbe, hrow⟩ := hs i _ (List.getElem?_eq_getElem hri)
    have hid := blkAt_len hbl
    have he := hat i _ _ (List.getElem?_eq_getElem hri) (List.getElem?_eq_getElem hc1)
    have hL := he.len
    have hT : rws[i].take rws[i].length = rws[i] := List.take_length
    rw [hL] at hT
    have hszi := MinderS.sz_at (List.getElem_mem hc1)
    have e1 := fun G => implMinds_is (he.app G) (by omega) x.reg (i : Int) ⟨by omega, by omega⟩
    simp only [Reg.enc] at e1
    have g4 : IntKind.i64.wrap ((i : Int) + 1) = (i : Int) + 1 := wrap64 (by omega) (by omega)
    simp [t0, t8, t9, t10, hb, hid0, Box.enc, indexAddrV, elemIs, hid, hbl, hbe, hc1, hrow, hL, hT, e1]
    have hmi : (i = 0 ∧ x.two[i] = m0) ∨ (i = 1 ∧ x.two[i] = m1) := by
      have : i = 0 ∨ i = 1 := by omega
      rcases this with rfl | rfl
      · exact .inl ⟨rfl, by simp [hm]⟩
      · exact .inr ⟨rfl, by simp [hm]⟩
    refine selS_intro (fun hd => ?_) (fun hd => ?_)
    · simp
      refine hr2 _ _ ?_
      simp
      refine hQ _ _ _ (by simp) ?_
      simp [Tryz.f54]
      rcases hmi with ⟨rfl, hmi⟩ | ⟨rfl, hmi⟩
      · rw [hmi] at hd
        rcases hw with h | h | h
        · rw [h.1]; rfl
        · exact absurd ⟨hd, h.2⟩ (minds_one _ _ _)
        · have := h.2.1; rw [show ((0 : Nat) : Int) = 0 from rfl] at hd; rw [hd] at this; cases this
      · rw [hmi] at hd
        rcases hw with h | h | h
        · have := hz0 (by omega); rw [h.2] at this; cases this
        · rw [h.1]; rfl
        · have := h.2.2; rw [show ((1 : Nat) : Int) = 1 from rfl] at hd; rw [hd] at this; cases this
    · simp [t0, t8, t9, t10, g4]
      refine hn2 (j - 1) _ _ (by omega) ⟨i + 1, _, by omega, by simp [t0], by simp [t8], by simp [t9], by simp, rfl, fun _ => ?_, fun h => ?_⟩
      · rcases hmi with ⟨rfl, hmi⟩ | ⟨rfl, hmi⟩
        · rw [hmi] at hd; exact hd
        · exact hz0 (by omega)
      · rcases hmi with ⟨rfl, hmi⟩ | ⟨rfl, hmi⟩
        · omega
        · rw [hmi] at hd; exact hd
  · simp at hc
    obtain rfl : i = 2 := by omega
    simp [t8, t9, t10]
    refine he2 _ _ _ ?_
    simp
    refine hQ _ _ _ (by simp) ?_
    simp [Tryz.f54]
    rcases hw with h | h | h
    · have := hz0 (by omega); rw [h.2] at this; cases this
    · have := hz1 (by omega); rw [h.2] at this; cases this
    · rw [h.1]

theorem l14Minds {H : Heap} {l : List Lf} {x : Box} (h : RdBox H l x) (hn : x.sz ≤ 1048576) (s : Int) : run env 60 [.agg l, .int s] H = some (.bool (mindsAt x s), H) := by
  obtain ⟨_, _, _, _, _, rfl, ⟨a0, rws, rfl, hs, hlen, hat⟩, -⟩ := h
  unfold Box.sz at hn
  have hl0 := MinderS.sz_len x.two
  have g : IntKind.i64.wrap ((x.two.length : Int) - 1) = (x.two.length : Int) - 1 := wrap64 (by omega) (by omega)
  refine run_walk ok60 Tryz.func60 rfl (by simp [Tryz.f60]) fun Q hQ => ?_
  simp only [Tryz.f60, strip, stripL, stripI, stripG, chkT, tagsB, tagsL, tagD, addT, tagA, lookN, tagOp, elmT, ty22, ty26, ty27, ty28, ty29, ty30, ty41, ty53, ty56, Nat.reduceEqDiff, if_false, reduceIte, Option.getD_some, Option.getD_none, dstAt, dstOk, Nat.reduceLT, decide_true, if_true]
  simp [Box.enc, builtinV, pureB, lenV, g]
  by_cases hc : 0 ≤ s ∧ s ≤ (x.two.length : Int) - 1
  · obtain ⟨k, rfl⟩ : ∃ k : Nat, s = k := ⟨s.toNat, by omega⟩
    have hk : k < x.two.length := by omega
    have hri : k < rws.length := by omega
    obtain ⟨id2, r, bl, rfl, hbl, hbe, hrow⟩ := hs k _ (List.getElem?_eq_getElem hri)
    have hid := blkAt_len hbl
    have he := hat k _ _ (List.getElem?_eq_getElem hri) (List.getElem?_eq_getElem hk)
    have hL := he.len
    have hT : rws[k].take rws[k].length = rws[k] := List.take_length
    rw [hL] at hT
    have hszi := MinderS.sz_at (List.getElem_mem hk)
    have e1 := fun G => specMinds_is (he.app G) (by omega) x.reg (k : Int) ⟨by omega, by omega⟩
    simp only [Reg.enc] at e1
    have hkl : (k : Int) ≤ (x.two.length : Int) - 1 := by omega
    have hm : mindsAt x k = minds x.reg k x.two[k] := by
      unfold mindsAt
      simp [hkl, List.getD, List.getElem?_eq_getElem hk]
    simp [l1In, hkl, indexAddrV, elemIs, hid, hbl, hbe, hk, hrow, hL, hT, e1]
    refine hQ _ _ _ (by simp) ?_
    simp [Tryz.f60, hm]
  · have hcf : (decide (0 ≤ s) && decide (s ≤ (x.two.length : Int) - 1)) = false := by
      rw [Bool.and_eq_false_iff]; simp; omega
    simp [l1In, hcf]
    refine hQ _ _ _ (by simp) ?_
    simp [Tryz.f60, mindsAt, hcf]

def logGood (x : Box) (s : Nat) (m : Minder) : Bool := !minds x.reg s m || (begins x.line m.log && decide (m.said = (x.line.length : Int)))
def judgeLogs (x : Box) : Bool := x.ok && (logGood x 0 (x.two.getD 0 zM) && logGood x 1 (x.two.getD 1 zM)) && (!heirM x || begins x.line (x.two.getD (1 - x.reg.owner).toNat zM).log)

theorem implJudgeLogs_is {H : Heap} {l : List Lf} {x : Box} {fp : List Nat} (hI : IsBox H l x fp) (hn : x.sz ≤ 1048576) : run env 12 [.agg l] H = some (.bool (judgeLogs x), H) := by
  have hR := hI.rd
  have e1 := fun G => implBoxOk_is (hR.app G) (by omega)
  have e2 := fun G => implReleased_is (hR.app G) hn
  have e3 : ∀ G, x.two.length = 2 → run env 54 [.ptr H.length 0 0] (H ++ some ⟨32, .wr, [l]⟩ :: G) = some (.int (whoM x), H ++ some ⟨32, .wr, [l]⟩ :: G) := fun G h2 => minderM (by simp) (hR.app _) h2 hn
  have e4 : ∀ G, x.ok = true → run env 56 [.ptr H.length 0 0] (H ++ some ⟨32, .wr, [l]⟩ :: G) = some (.bool (heirM x), H ++ some ⟨32, .wr, [l]⟩ :: G) := fun G h2 => heirMth (by simp) (hR.app _) h2
  have e5 : ∀ G a (log : List In), Sl H 64 a (log.map In.enc) → elemIs H 64 a = true → log.length ≤ 1048576 → run env 55 [.ptr H.length 0 0, .w (.lf (.sl a log.length))] (H ++ some ⟨32, .wr, [l]⟩ :: G) = some (.bool (begins x.line log), H ++ some ⟨32, .wr, [l]⟩ :: G) := fun G a log h1 h2 h3 => hasLineM (by simp) (hR.app _) (h1.app _) (elem_app h2 _) h3
  obtain ⟨q0, q1, q2, q3, q4, f0, f1, f2, f3, f4, rfl, i0, -, -, ⟨a3, rfl, o3⟩, -, -, -⟩ := hI
  obtain ⟨a0, rws, rfl, hlen, hs, hat⟩ := minderAtI i0
  simp only [Box.enc] at e1 e2 e3 e4 e5
  have hsz := fun (m : Minder) (hm : m ∈ x.two) => MinderS.sz_at hm
  unfold Box.sz at hn
  refine run_walk ok12 Tryz.func12 rfl (by simp [Tryz.f12]) fun Q hQ => ?_
  simp only [Tryz.f12, strip, stripL, stripI, stripG, chkT, tagsB, tagsL, tagD, addT, tagA, lookN, tagOp, elmT, ty22, ty26, ty27, ty28, ty29, ty30, ty41, ty53, ty56, Nat.reduceEqDiff, if_false, reduceIte, Option.getD_some, Option.getD_none, dstAt, dstOk, Nat.reduceLT, decide_true, if_true]
  have fin : ∀ tm H' b, (∃ G, H' = H ++ G) → tm 2 = .bool b → judgeLogs x = b → Q .ret tm H' := by
    rintro tm _ b ⟨G, rfl⟩ h6 hx
    refine hQ _ _ _ (by simp) ?_
    simp [Tryz.f12, h6, hx]
  simp [Box.enc, e1]
  cases hd : x.ok
  · simp
    exact fin _ _ false ⟨_, rfl⟩ (by simp) (by simp [judgeLogs, hd])
  obtain ⟨ho, h2⟩ := Box.ok_owner hd
  have at_ : ∀ k (hk : k < x.two.length), ∃ (id r : Nat) (bl : Blk) (q : Option (Nat × Nat)), a0 = some (id, r) ∧ id < H.length ∧ blkAt H id = some bl ∧ bl.elem = 52 ∧ bl.rows[r + k]? = some (x.two[k].enc q) ∧ Sl H 64 q (x.two[k].log.map In.enc) ∧ elemIs H 64 q = true ∧ x.two[k].log.length ≤ 1048576 := fun k hk => by
    have hri : k < rws.length := by omega
    obtain ⟨id, r, bl, rfl, hbl, hbe, hrow⟩ := hs k _ (List.getElem?_eq_getElem hri)
    obtain ⟨q, hrw, hq, hqe⟩ := hat k _ _ (List.getElem?_eq_getElem hri) (List.getElem?_eq_getElem hk)
    have := hsz _ (List.getElem_mem hk)
    have h9 : x.two[k].sz = x.two[k].log.length := rfl
    exact ⟨id, r, bl, q, rfl, blkAt_len hbl, hbl, hbe, by rw [hrow, hrw], hq, hqe, by omega⟩
  have w1 : IntKind.i64.wrap (1 - x.reg.owner) = 1 - x.reg.owner := wrap64 (by omega) (by omega)
  have hoi : (1 - x.reg.owner).toNat < x.two.length := by omega
  have tailp : ∀ (tm : Ab.T) b, tm 2 = .bool b → logGood x 0 (x.two.getD 0 zM) = true → logGood x 1 (x.two.getD 1 zM) = true → b = (!heirM x || begins x.line (x.two.getD (1 - x.reg.owner).toNat zM).log) → ∀ G, Q .ret tm (H ++ G) := fun tm b t2 h1 h3 hb G => fin _ _ b ⟨_, rfl⟩ t2 (by unfold judgeLogs; rw [hd, h1, h3, hb]; simp)
  have rest : ∀ (tm : Ab.T), tm 1 = .ptr H.length 0 0 → logGood x 0 (x.two.getD 0 zM) = true → logGood x 1 (x.two.getD 1 zM) = true → True := fun _ _ _ _ => trivial
  clear rest
  obtain ⟨ido, ro, blo, qo, hao, hido, hblo, hbeo, hrowo, hslo, helo, hleno⟩ := at_ _ hoi
  have hgo : x.two.getD (1 - x.reg.owner).toNat zM = x.two[(1 - x.reg.owner).toNat] := by simp [List.getD, List.getElem?_eq_getElem hoi]
  have hge : x.reg.owner ≤ 1 := by omega
  have hlt : 1 - x.reg.owner < (x.two.length : Int) := by omega
  rw [hgo] at tailp
  obtain ⟨mo, hmo⟩ : ∃ mo, mo = x.two[(1 - x.reg.owner).toNat] := ⟨_, rfl⟩
  rw [← hmo] at tailp hrowo hslo hleno
  have e5o := fun G => e5 G qo mo.log hslo helo hleno
  simp [e3 _ h2]
  have hw := whoM_cases x
  have l0 : 0 < x.two.length := by omega
  have l1 : 1 < x.two.length := by omega
  have hg0 : x.two.getD 0 zM = x.two[0] := by simp [List.getD, List.getElem?_eq_getElem l0]
  have hg1 : x.two.getD 1 zM = x.two[1] := by simp [List.getD, List.getElem?_eq_getElem l1]
  rw [hg0, hg1] at hw tailp
  subst hao
  rcases hw with h | h | h
  · obtain ⟨id0, r0, bl0, q0, hxx, -, hbl0, -, hrow0, hsl0, hel0, hln0⟩ := at_ 0 l0
    cases hxx
    rw [hblo] at hbl0
    injection hbl0 with hbl0
    subst hbl0
    have hothr : minds x.reg 1 x.two[1] = false := by
      cases hy : minds x.reg 1 x.two[1]
      · rfl
      · exact absurd ⟨h.2, hy⟩ (minds_one _ _ _)
    have e5k := fun G => e5 G q0 x.two[0].log hsl0 hel0 hln0
    obtain ⟨m, hm⟩ : ∃ m, m = x.two[0] := ⟨_, rfl⟩
    rw [← hm] at e5k hrow0 h tailp
    rw [Nat.add_zero] at hrow0
    have hl0 : (0 : Int) < (x.two.length : Int) := by omega
    have hbadk : logGood x 0 m = false → judgeLogs x = false := fun hb => by
      unfold judgeLogs
      rw [hg0, ← hm, hb]
      simp
    simp [h.1, indexAddrV, elemIs, hido, hblo, hbeo, hrow0, hl0, l0, Minder.enc, e5k]
    cases hbg : begins x.line m.log
    · simp
      exact fin _ _ false ⟨_, rfl⟩ (by simp) (hbadk (by simp [logGood, h.2, hbg]))
    · simp [indexAddrV, elemIs, hido, hblo, hbeo, hrow0, hl0, l0, Minder.enc, e2]
      by_cases hsd : m.said = (x.line.length : Int)
      · have hgood : logGood x 0 m = true := by simp [logGood, hbg, hsd]
        simp [hsd]
        simp [e4 _ hd]
        cases hh : heirM x
        · simp
          exact tailp _ true (by simp) (hgood) ((by simp [logGood, hothr])) (by simp [hh]) _
        · simp [w1, indexAddrV, elemIs, hido, hblo, hbeo, hrowo, hge, hlt, Minder.enc, e5o]
          exact tailp _ _ (by simp; rfl) (hgood) ((by simp [logGood, hothr])) (by simp [hh]) _
      · simp [hsd]
        exact fin _ _ false ⟨_, rfl⟩ (by simp) (hbadk (by simp [logGood, h.2, hbg, hsd]))
  · obtain ⟨id1, r1, bl1, q1, hxx, -, hbl1, -, hrow1, hsl1, hel1, hln1⟩ := at_ 1 l1
    cases hxx
    rw [hblo] at hbl1
    injection hbl1 with hbl1
    subst hbl1
    have hothr : minds x.reg 0 x.two[0] = false := by
      cases hy : minds x.reg 0 x.two[0]
      · rfl
      · exact absurd ⟨hy, h.2⟩ (minds_one _ _ _)
    have e5k := fun G => e5 G q1 x.two[1].log hsl1 hel1 hln1
    obtain ⟨m, hm⟩ : ∃ m, m = x.two[1] := ⟨_, rfl⟩
    rw [← hm] at e5k hrow1 h tailp
    have hl1 : (1 : Int) < (x.two.length : Int) := by omega
    have hbadk : logGood x 1 m = false → judgeLogs x = false := fun hb => by
      unfold judgeLogs
      rw [hg1, ← hm, hb]
      simp
    simp [h.1, indexAddrV, elemIs, hido, hblo, hbeo, hrow1, hl1, l1, Minder.enc, e5k]
    cases hbg : begins x.line m.log
    · simp
      exact fin _ _ false ⟨_, rfl⟩ (by simp) (hbadk (by simp [logGood, h.2, hbg]))
    · simp [indexAddrV, elemIs, hido, hblo, hbeo, hrow1, hl1, l1, Minder.enc, e2]
      by_cases hsd : m.said = (x.line.length : Int)
      · have hgood : logGood x 1 m = true := by simp [logGood, hbg, hsd]
        simp [hsd]
        simp [e4 _ hd]
        cases hh : heirM x
        · simp
          exact tailp _ true (by simp) ((by simp [logGood, hothr])) (hgood) (by simp [hh]) _
        · simp [w1, indexAddrV, elemIs, hido, hblo, hbeo, hrowo, hge, hlt, Minder.enc, e5o]
          exact tailp _ _ (by simp; rfl) ((by simp [logGood, hothr])) (hgood) (by simp [hh]) _
      · simp [hsd]
        exact fin _ _ false ⟨_, rfl⟩ (by simp) (hbadk (by simp [logGood, h.2, hbg, hsd]))
  · simp [h.1]
    simp [e4 _ hd]
    cases hh : heirM x
    · simp
      exact tailp _ true (by simp) ((by simp [logGood, h.2.1])) ((by simp [logGood, h.2.2])) (by simp [hh]) _
    · simp [w1, indexAddrV, elemIs, hido, hblo, hbeo, hrowo, hge, hlt, Minder.enc, e5o]
      exact tailp _ _ (by simp; rfl) ((by simp [logGood, h.2.1])) ((by simp [logGood, h.2.2])) (by simp [hh]) _

def judgeAll (x : Box) : Bool := judgeGates x && judgeSaid x && judgeLogs x

theorem implJudgeAll_is {H : Heap} {l : List Lf} {x : Box} {fp : List Nat} (hI : IsBox H l x fp) (hn : x.sz ≤ 1048576) : run env 18 [.agg l] H = some (.bool (judgeAll x), H) := by
  have e1 := fun G => implJudgeGates_is (hI.rd.app G) hn
  have e2 := fun G => implJudgeSaid_is (hI.rd.app G) hn
  have e3 := fun G => implJudgeLogs_is (hI.app G) hn
  have hL := hI.len
  have hT : l.take l.length = l := List.take_length
  rw [hL] at hT
  refine run_walk ok18 Tryz.func18 rfl (by simp [Tryz.f18]) fun Q hQ => ?_
  simp only [Tryz.f18, strip, stripL, stripI, stripG, chkT, tagsB, tagsL, tagD, addT, tagA, lookN, tagOp, elmT, ty22, ty26, ty27, ty28, ty29, ty30, ty41, ty53, ty56, Nat.reduceEqDiff, if_false, reduceIte, Option.getD_some, Option.getD_none, dstAt, dstOk, Nat.reduceLT, decide_true, if_true]
  simp [hL, hT, e1]
  cases h1 : judgeGates x
  · simp
    refine hQ _ _ _ (by simp) ?_
    simp [Tryz.f18, judgeAll, h1]
  simp [hL, hT, e2]
  cases h2 : judgeSaid x
  · simp
    refine hQ _ _ _ (by simp) ?_
    simp [Tryz.f18, judgeAll, h1, h2]
  simp [hL, hT, e3]
  refine hQ _ _ _ (by simp) ?_
  simp [Tryz.f18, judgeAll, h1, h2]

theorem nd5 {f0 f1 f2 f3 f4 : List Nat} (n0 : f0.Nodup) (n1 : f1.Nodup) (n2 : f2.Nodup) (n3 : f3.Nodup) (n4 : f4.Nodup) {a b c d e : Nat} (h1 : ∀ i ∈ f1, a ≤ i ∧ i < b) (h2 : ∀ i ∈ f2, b ≤ i ∧ i < c) (h3 : ∀ i ∈ f3, c ≤ i ∧ i < d) (h4 : ∀ i ∈ f4, d ≤ i ∧ i < e) (h0 : ∀ i ∈ f0, i < a ∨ e ≤ i)
    (hab : a ≤ b) (hbc : b ≤ c) (hcd : c ≤ d) (hde : d ≤ e) : (f0 ++ (f1 ++ (f2 ++ (f3 ++ f4)))).Nodup := by
  refine nodup_app n0 (nodup_app n1 (nodup_app n2 (nodup_app n3 n4 fun i hi hj => ?_) fun i hi hj => ?_) fun i hi hj => ?_) fun i hi hj => ?_
  · have := h3 i hi; have := h4 i hj; omega
  · have := h2 i hi
    rcases List.mem_append.1 hj with hj | hj
    · have := h3 i hj; omega
    · have := h4 i hj; omega
  · have := h1 i hi
    rcases List.mem_append.1 hj with hj | hj
    · have := h2 i hj; omega
    · rcases List.mem_append.1 hj with hj | hj
      · have := h3 i hj; omega
      · have := h4 i hj; omega
  · have := h0 i hi
    rcases List.mem_append.1 hj with hj | hj
    · have := h1 i hj; omega
    · rcases List.mem_append.1 hj with hj | hj
      · have := h2 i hj; omega
      · rcases List.mem_append.1 hj with hj | hj
        · have := h3 i hj; omega
        · have := h4 i hj; omega
/-- One element more, in memory that grew. -/
theorem isL_snoc {α : Type} {R : Heap → List Lf → α → List Nat → Prop} {e : Nat} {H1 H2 H3 : Heap} {a' : Option (Nat × Nat)} {rows : List (List Lf)} {xs : List α} {fp0 fp0' f : List Nat} {fps : List (List Nat)} {row : List Lf} {x : α} (ok : RepOk R) (hp : Part R H1 rows xs fps) (hnd : (fp0 ++ fps.flatten).Nodup) (hlt0 : ∀ i ∈ fp0, i < H1.length)
    (k12 : Keep [] H1 H2) (hr : R H2 row x f) (hf : ∀ i ∈ f, H1.length ≤ i) (k23 : Keep fp0 H2 H3) (ho : Own H3 e a' (rows ++ [row]) fp0') (hf0 : ∀ i ∈ fp0', i ∈ fp0 ∨ H2.length ≤ i) :
    Part R H3 (rows ++ [row]) (xs ++ [x]) (fps ++ [f]) ∧ (fp0' ++ (fps ++ [f]).flatten).Nodup := by
  have hlt := hp.lt ok
  have hfl := ok.lt hr
  have h12 := k12.1
  have hd : ∀ i ∈ fp0, i ∉ fps.flatten := fun i hi hj => (List.nodup_append.1 hnd).2.2 i hi i hj rfl
  have p2 := hp.keep ok k12 (by simp)
  have p3 := p2.keep ok k23 (fun i hi hj => hd i hj hi)
  have r3 := ok.keep hr k23 (fun i hi hj => by have := hf i hi; have := hlt0 i hj; omega)
  refine ⟨p3.snoc ok r3 (fun i hi hj => by have := hf i hi; have := hlt i hj; omega), ?_⟩
  rw [List.flatten_append]
  refine nodup_app ho.nodup (nodup_app hp.nodup (by simpa using ok.nodup hr) fun i hi hj => ?_) fun i hi hj => ?_
  · have := hlt i hi
    simp at hj
    have := hf i hj; omega
  · rcases List.mem_append.1 hj with hj | hj
    · rcases hf0 i hi with h | h
      · exact hd i h hj
      · have := hlt i hj; omega
    · simp at hj
      have := hf i hj
      have := hfl i hj
      rcases hf0 i hi with h | h
      · have := hlt0 i h; omega
      · omega

theorem copyBox {H : Heap} {l : List Lf} {x : Box} (h : RdBox H l x) (hn : x.sz ≤ 1048576) : Runs env 79 [.agg l] H fun v H' => ∃ l' fp, v = .agg l' ∧ IsBox H' l' x fp ∧ Fresh H H' fp := by
  obtain ⟨_, _, _, _, _, rfl, ⟨a0, rws, rfl, hs, hlen, hat⟩, ⟨a1, rfl, r1⟩, ⟨a2, rfl, r2⟩, ⟨a3, rfl, r3⟩, ⟨a4, rfl, r4⟩⟩ := h
  unfold Box.sz at hn
  have hl0 := MinderS.sz_len x.two
  refine Runs.walk ok79 Tryz.func79 rfl (by simp [Tryz.f79]) fun Q hQ => ?_
  simp only [Tryz.f79, strip, stripL, stripI, stripG, chkT, tagsB, tagsL, tagD, addT, tagA, lookN, tagOp, elmT, ty22, ty26, ty27, ty28, ty29, ty30, ty41, ty53, ty56, Nat.reduceEqDiff, if_false, reduceIte, Option.getD_some, Option.getD_none, dstAt, dstOk, Nat.reduceLT, decide_true, if_true]
  simp [Box.enc, builtinV, pureB, lenV]
  obtain ⟨Z, hZ⟩ : ∃ Z : List Lf, Z = [.i .i64 0, .i .i64 0, .i .i64 0, .i .i64 0, .i .i64 0, .sl none 0, .sl none 0, .sl none 0, .sl none 0, .sl none 0] := ⟨_, rfl⟩
  obtain ⟨H3, hH3⟩ : ∃ H3 : Heap, H3 = H ++ [some ⟨32, .wr, [x.enc (.sl a0 x.two.length) (.sl a1 x.net.length) (.sl a2 x.gates.length) (.sl a3 x.line.length) (.sl a4 x.said.length)]⟩, some ⟨32, .wr, [Z]⟩, some ⟨32, .wr, [x.enc (.sl none 0) (.sl a1 x.net.length) (.sl a2 x.gates.length) (.sl a3 x.line.length) (.sl a4 x.said.length)]⟩] := ⟨_, rfl⟩
  have b1 : blkAt H3 H.length = some ⟨32, .wr, [x.enc (.sl a0 x.two.length) (.sl a1 x.net.length) (.sl a2 x.gates.length) (.sl a3 x.line.length) (.sl a4 x.said.length)]⟩ := by rw [hH3]; simp
  have b2 : blkAt H3 (H.length + 1) = some ⟨32, .wr, [Z]⟩ := by rw [hH3]; simp
  have b3 : blkAt H3 (H.length + 2) = some ⟨32, .wr, [x.enc (.sl none 0) (.sl a1 x.net.length) (.sl a2 x.gates.length) (.sl a3 x.line.length) (.sl a4 x.said.length)]⟩ := by rw [hH3]; simp
  have k03 : Keep [] H H3 := by rw [hH3]; exact Keep.app _ _ _
  have hl3 : H3.length = H.length + 3 := by rw [hH3]; simp
  have hZl : Z.length = 10 := by rw [hZ]; rfl
  have hHg : H ++ [some ⟨32, .wr, [[.i .i64 x.id, .i .i64 x.ports, .i .i64 x.reg.epoch, .i .i64 x.reg.owner, .i .i64 x.reg.pair, .sl a0 x.two.length, .sl a1 x.net.length, .sl a2 x.gates.length, .sl a3 x.line.length, .sl a4 x.said.length]]⟩, some ⟨32, .wr, [[.i .i64 0, .i .i64 0, .i .i64 0, .i .i64 0, .i .i64 0, .sl none 0, .sl none 0, .sl none 0, .sl none 0, .sl none 0]]⟩, some ⟨32, .wr, [[.i .i64 x.id, .i .i64 x.ports, .i .i64 x.reg.epoch, .i .i64 x.reg.owner, .i .i64 x.reg.pair, .sl none 0, .sl a1 x.net.length, .sl a2 x.gates.length, .sl a3 x.line.length, .sl a4 x.said.length]]⟩] = H3 := by rw [hH3, hZ]; rfl
  rw [hHg]
  clear hHg hH3 hZ
  refine wpS_loop (fun j tm H' => ∃ i a' rows fp0 fps, i + j = x.two.length ∧ tm 1 = .ptr H.length 0 0 ∧ tm 2 = .ptr (H.length + 1) 0 0 ∧ tm 3 = .ptr (H.length + 2) 0 0 ∧ tm 9 = .w (.lf (.sl a0 x.two.length)) ∧ tm 10 = .int x.two.length ∧ tm 11 = .int i ∧ blkAt H' (H.length + 2) = some ⟨32, .wr, [x.enc (.sl a' i) (.sl a1 x.net.length) (.sl a2 x.gates.length) (.sl a3 x.line.length) (.sl a4 x.said.length)]⟩ ∧ Own H' 52 a' rows fp0 ∧ Part IsMinder H' rows (x.two.take i) fps ∧ (fp0 ++ fps.flatten).Nodup ∧ (∀ k ∈ fp0 ++ fps.flatten, H3.length ≤ k) ∧ Keep [H.length + 2] H3 H') x.two.length (by rw [env_K]; omega)
    ⟨0, none, [], [], [], by simp, by simp, by simp, by simp, by simp, by simp, by simp, b3, Own.nil _ _, Part.nil _ _, by simp, by simp, Keep.refl _ _⟩ ?_
  rintro j tm H1 hj ⟨i, a', rows, fp0, fps, hij, t1, t2, t3, t9, t10, t11, c3, ho, hp, hnd, hge, hK3⟩ Q2 hn2 he2 hr2
  have c1 := hK3.blk b1 (by simp)
  have c2 := hK3.blk b2 (by simp)
  have d1 := blkAt_len c1
  have d2 := blkAt_len c2
  have d3 := blkAt_len c3
  have hK : Keep [] H H1 := k03.next hK3 (by simp)
  have h31 := hK3.1
  simp [t9, t10, t11]
  refine selS_intro (fun hc => ?_) (fun hc => ?_)
  · simp at hc
    have hri : i < rws.length := by omega
    obtain ⟨id2, r, bl, rfl, hbl, hbe, hrow⟩ := (hs.keep hK (by simp)) i _ (List.getElem?_eq_getElem hri)
    have hid := blkAt_len hbl
    have he := (hat i _ _ (List.getElem?_eq_getElem hri) (List.getElem?_eq_getElem hc)).base hK
    have hL := he.len
    have hT : rws[i].take rws[i].length = rws[i] := List.take_length
    rw [hL] at hT
    have hszi := MinderS.sz_at (List.getElem_mem hc)
    have g4 : IntKind.i64.wrap ((i : Int) + 1) = (i : Int) + 1 := wrap64 (by omega) (by omega)
    have hrl : rows.length = i := by rw [hp.len]; simp; omega
    simp [t1, t2, t3, t9, t10, t11, c3, d3, Box.enc, indexAddrV, elemIs, hid, hbl, hbe, hc, hrow, hL, hT]
    refine stpL_runs_f (copyMinder (he.app _) (by omega)) (by rintro _ _ ⟨_, _, _, _, hf⟩; exact hf.1) ?_
    rintro _ _ ⟨l2, f2, rfl, o2, ⟨⟨G2, rfl⟩, hf2⟩⟩
    have hl2 := o2.len
    have hT2 : l2.take l2.length = l2 := List.take_length
    rw [hl2] at hT2
    simp [hl2, hT2]
    have hlt0 := ho.lt
    refine stpL_append (e := 52) (rows := rows) (ys := [l2]) (ho.app _) (Sl.of (by simp)) rfl rfl rfl (by simp) (by simp; omega) (by omega) rfl fun a'' H'' fp'' ho'' hk'' hf'' => ?_
    have k12 : Keep [] H1 (H1 ++ some ⟨52, .wr, [rws[i]]⟩ :: (G2 ++ [some ⟨52, .wr, [l2]⟩])) := Keep.app _ _ _
    have o2' := o2.app [some ⟨52, .wr, [l2]⟩]
    simp only [List.append_assoc, List.cons_append, List.nil_append] at o2'
    have hf2' : ∀ k ∈ f2, H1.length ≤ k := fun k hk => by have := hf2 k hk; rw [List.length_append] at this; omega
    obtain ⟨hp2, hnd2⟩ := isL_snoc okMinder hp hnd hlt0 k12 o2' hf2' hk'' ho'' hf''
    have c3' := (hk''.blk (k12.blk c3 (by simp)) (fun h => by have := hge _ (List.mem_append.2 (.inl h)); omega))
    have d3' := blkAt_len c3'
    have hk1 : Keep [H.length + 2] H3 H'' := Keep.trans (h := [H.length + 2]) (Keep.trans (h := [H.length + 2]) hK3 k12 (by simp) (by simp)) hk'' (by simp) (fun k hk hl => by have := hge k (List.mem_append.2 (.inl hk)); omega)
    have hge2 : ∀ k ∈ fp'' ++ (fps ++ [f2]).flatten, H3.length ≤ k := fun k hk => by
      rcases List.mem_append.1 hk with hk | hk
      · rcases hf'' k hk with h | h
        · exact hge k (List.mem_append.2 (.inl h))
        · rw [List.length_append] at h; omega
      · rw [List.flatten_append] at hk
        rcases List.mem_append.1 hk with hk | hk
        · exact hge k (List.mem_append.2 (.inr hk))
        · simp at hk
          have := hf2' k hk; omega
    have ks := fun y => Keep.set (id := H.length + 2) H'' y
    have hno : ∀ k ∈ fp'' ++ (fps ++ [f2]).flatten, k ∉ [H.length + 2] := fun k hk => by have := hge2 k hk; simp; omega
    simp [t1, t2, t3, t9, t10, t11, c3', d3', Box.enc, g4]
    refine hn2 (j - 1) _ _ (by omega) ⟨i + 1, a'', rows ++ [l2], fp'', fps ++ [f2], by omega, by simp [t1], by simp [t2], by simp [t3], by simp [t9], by simp [t10], by simp, by rw [blkAt_set d3']; simp [Box.enc], ho''.keep (ks _) (fun k hk => hno k (List.mem_append.2 (.inl hk))), ?_, hnd2, hge2, hk1.trans (h := [H.length + 2]) (ks _) (by simp) (by simp)⟩
    rw [List.take_add_one, List.getElem?_eq_getElem hc]
    exact hp2.keep okMinder (ks _) (fun k hk => hno k (List.mem_append.2 (.inr hk)))
  · simp at hc
    obtain rfl : i = x.two.length := by omega
    rw [List.take_length] at hp
    simp [t9, t10, t11]
    refine he2 _ _ _ ?_
    have hlt0 := ho.lt
    have hltp := hp.lt okMinder
    have o0 : IsMinderS H1 (.sl a' x.two.length) x.two (fp0 ++ fps.flatten) := ⟨a', rows, fp0, fps, rfl, ho, hp, rfl, hnd⟩
    have hlt0 := o0.lt okMinder
    clear ho hp hltp
    simp [t1, c1, d1, Box.enc]
    have o0_0 := o0
    have k0_0 := hK
    have c1_0 := c1
    have c2_0 := c2
    have c3_0 := c3
    have hge0 : ∀ k ∈ fp0 ++ fps.flatten, H3.length ≤ k := hge
    have m0 : H1.length ≤ H1.length := Nat.le_refl _
    refine stpL_runs (cloneWireS (q := .sl a1 x.net.length) ⟨a1, rfl, r1.keep k0_0 (by simp)⟩ (by omega)) ?_
    rintro _ HX1 ⟨_, f1, rfl, ⟨q1, rfl, o1⟩, hf1⟩
    have kx1 : Keep [] H1 HX1 := hf1.keep
    have c3x1 := kx1.blk c3_0 (by simp)
    have d3x1 := blkAt_len c3x1
    have lx1 := kx1.1
    have lt1 := o1.lt
    have ge1 := hf1.2
    simp [t1, t3, c3x1, d3x1, Box.enc]
    obtain ⟨HY1, hY1⟩ : ∃ HY1 : Heap, HY1 = HX1.set (H.length + 2) (some ⟨32, .wr, [[.i .i64 x.id, .i .i64 x.ports, .i .i64 x.reg.epoch, .i .i64 x.reg.owner, .i .i64 x.reg.pair, .sl a' x.two.length, .sl q1 x.net.length, .sl a2 x.gates.length, .sl a3 x.line.length, .sl a4 x.said.length]]⟩) := ⟨_, rfl⟩
    rw [← hY1]
    have ky1 : Keep [H.length + 2] HX1 HY1 := by rw [hY1]; exact Keep.set _ _
    have c3_1 : blkAt HY1 (H.length + 2) = some ⟨32, .wr, [[.i .i64 x.id, .i .i64 x.ports, .i .i64 x.reg.epoch, .i .i64 x.reg.owner, .i .i64 x.reg.pair, .sl a' x.two.length, .sl q1 x.net.length, .sl a2 x.gates.length, .sl a3 x.line.length, .sl a4 x.said.length]]⟩ := by rw [hY1]; exact blkAt_set d3x1
    clear hY1
    have ly1 := ky1.1
    have c1_1 := ky1.blk (kx1.blk c1_0 (by simp)) (by simp)
    have c2_1 := ky1.blk (kx1.blk c2_0 (by simp)) (by simp)
    have d1_1 := blkAt_len c1_1
    have d2_1 := blkAt_len c2_1
    have d3_1 := blkAt_len c3_1
    have o0_1 := (o0_0.keep okMinder kx1 (by simp)).keep okMinder ky1 (fun i hi hj => by have := hge0 i hi; simp at hj; omega)
    have o1 := o1.keep ky1 (fun i hi hj => by have := ge1 i hi; simp at hj; omega)
    have k0_1 : Keep [] H HY1 := (k0_0.next kx1 (by simp)).next ky1 (by simp)
    simp [t1, c1_1, d1_1, Box.enc]
    refine stpL_runs (cloneBoolS (q := .sl a2 x.gates.length) ⟨a2, rfl, r2.keep k0_1 (by simp)⟩ (by omega)) ?_
    rintro _ HX2 ⟨_, f2, rfl, ⟨q2, rfl, o2⟩, hf2⟩
    have kx2 : Keep [] HY1 HX2 := hf2.keep
    have c3x2 := kx2.blk c3_1 (by simp)
    have d3x2 := blkAt_len c3x2
    have lx2 := kx2.1
    have lt2 := o2.lt
    have ge2 := hf2.2
    simp [t1, t3, c3x2, d3x2, Box.enc]
    obtain ⟨HY2, hY2⟩ : ∃ HY2 : Heap, HY2 = HX2.set (H.length + 2) (some ⟨32, .wr, [[.i .i64 x.id, .i .i64 x.ports, .i .i64 x.reg.epoch, .i .i64 x.reg.owner, .i .i64 x.reg.pair, .sl a' x.two.length, .sl q1 x.net.length, .sl q2 x.gates.length, .sl a3 x.line.length, .sl a4 x.said.length]]⟩) := ⟨_, rfl⟩
    rw [← hY2]
    have ky2 : Keep [H.length + 2] HX2 HY2 := by rw [hY2]; exact Keep.set _ _
    have c3_2 : blkAt HY2 (H.length + 2) = some ⟨32, .wr, [[.i .i64 x.id, .i .i64 x.ports, .i .i64 x.reg.epoch, .i .i64 x.reg.owner, .i .i64 x.reg.pair, .sl a' x.two.length, .sl q1 x.net.length, .sl q2 x.gates.length, .sl a3 x.line.length, .sl a4 x.said.length]]⟩ := by rw [hY2]; exact blkAt_set d3x2
    clear hY2
    have ly2 := ky2.1
    have c1_2 := ky2.blk (kx2.blk c1_1 (by simp)) (by simp)
    have c2_2 := ky2.blk (kx2.blk c2_1 (by simp)) (by simp)
    have d1_2 := blkAt_len c1_2
    have d2_2 := blkAt_len c2_2
    have d3_2 := blkAt_len c3_2
    have o0_2 := (o0_1.keep okMinder kx2 (by simp)).keep okMinder ky2 (fun i hi hj => by have := hge0 i hi; simp at hj; omega)
    have o1 := (o1.keep kx2 (by simp)).keep ky2 (fun i hi hj => by have := ge1 i hi; simp at hj; omega)
    have o2 := o2.keep ky2 (fun i hi hj => by have := ge2 i hi; simp at hj; omega)
    have k0_2 : Keep [] H HY2 := (k0_1.next kx2 (by simp)).next ky2 (by simp)
    simp [t1, c1_2, d1_2, Box.enc]
    refine stpL_runs (cloneInS (q := .sl a3 x.line.length) ⟨a3, rfl, r3.keep k0_2 (by simp)⟩ (by omega)) ?_
    rintro _ HX3 ⟨_, f3, rfl, ⟨q3, rfl, o3⟩, hf3⟩
    have kx3 : Keep [] HY2 HX3 := hf3.keep
    have c3x3 := kx3.blk c3_2 (by simp)
    have d3x3 := blkAt_len c3x3
    have lx3 := kx3.1
    have lt3 := o3.lt
    have ge3 := hf3.2
    simp [t1, t3, c3x3, d3x3, Box.enc]
    obtain ⟨HY3, hY3⟩ : ∃ HY3 : Heap, HY3 = HX3.set (H.length + 2) (some ⟨32, .wr, [[.i .i64 x.id, .i .i64 x.ports, .i .i64 x.reg.epoch, .i .i64 x.reg.owner, .i .i64 x.reg.pair, .sl a' x.two.length, .sl q1 x.net.length, .sl q2 x.gates.length, .sl q3 x.line.length, .sl a4 x.said.length]]⟩) := ⟨_, rfl⟩
    rw [← hY3]
    have ky3 : Keep [H.length + 2] HX3 HY3 := by rw [hY3]; exact Keep.set _ _
    have c3_3 : blkAt HY3 (H.length + 2) = some ⟨32, .wr, [[.i .i64 x.id, .i .i64 x.ports, .i .i64 x.reg.epoch, .i .i64 x.reg.owner, .i .i64 x.reg.pair, .sl a' x.two.length, .sl q1 x.net.length, .sl q2 x.gates.length, .sl q3 x.line.length, .sl a4 x.said.length]]⟩ := by rw [hY3]; exact blkAt_set d3x3
    clear hY3
    have ly3 := ky3.1
    have c1_3 := ky3.blk (kx3.blk c1_2 (by simp)) (by simp)
    have c2_3 := ky3.blk (kx3.blk c2_2 (by simp)) (by simp)
    have d1_3 := blkAt_len c1_3
    have d2_3 := blkAt_len c2_3
    have d3_3 := blkAt_len c3_3
    have o0_3 := (o0_2.keep okMinder kx3 (by simp)).keep okMinder ky3 (fun i hi hj => by have := hge0 i hi; simp at hj; omega)
    have o1 := (o1.keep kx3 (by simp)).keep ky3 (fun i hi hj => by have := ge1 i hi; simp at hj; omega)
    have o2 := (o2.keep kx3 (by simp)).keep ky3 (fun i hi hj => by have := ge2 i hi; simp at hj; omega)
    have o3 := o3.keep ky3 (fun i hi hj => by have := ge3 i hi; simp at hj; omega)
    have k0_3 : Keep [] H HY3 := (k0_2.next kx3 (by simp)).next ky3 (by simp)
    simp [t1, c1_3, d1_3, Box.enc]
    refine stpL_runs (cloneOutS (q := .sl a4 x.said.length) ⟨a4, rfl, r4.keep k0_3 (by simp)⟩ (by omega)) ?_
    rintro _ HX4 ⟨_, f4, rfl, ⟨q4, rfl, o4⟩, hf4⟩
    have kx4 : Keep [] HY3 HX4 := hf4.keep
    have c3x4 := kx4.blk c3_3 (by simp)
    have d3x4 := blkAt_len c3x4
    have lx4 := kx4.1
    have lt4 := o4.lt
    have ge4 := hf4.2
    simp [t1, t3, c3x4, d3x4, Box.enc]
    obtain ⟨HY4, hY4⟩ : ∃ HY4 : Heap, HY4 = HX4.set (H.length + 2) (some ⟨32, .wr, [[.i .i64 x.id, .i .i64 x.ports, .i .i64 x.reg.epoch, .i .i64 x.reg.owner, .i .i64 x.reg.pair, .sl a' x.two.length, .sl q1 x.net.length, .sl q2 x.gates.length, .sl q3 x.line.length, .sl q4 x.said.length]]⟩) := ⟨_, rfl⟩
    rw [← hY4]
    have ky4 : Keep [H.length + 2] HX4 HY4 := by rw [hY4]; exact Keep.set _ _
    have c3_4 : blkAt HY4 (H.length + 2) = some ⟨32, .wr, [[.i .i64 x.id, .i .i64 x.ports, .i .i64 x.reg.epoch, .i .i64 x.reg.owner, .i .i64 x.reg.pair, .sl a' x.two.length, .sl q1 x.net.length, .sl q2 x.gates.length, .sl q3 x.line.length, .sl q4 x.said.length]]⟩ := by rw [hY4]; exact blkAt_set d3x4
    clear hY4
    have ly4 := ky4.1
    have c1_4 := ky4.blk (kx4.blk c1_3 (by simp)) (by simp)
    have c2_4 := ky4.blk (kx4.blk c2_3 (by simp)) (by simp)
    have d1_4 := blkAt_len c1_4
    have d2_4 := blkAt_len c2_4
    have d3_4 := blkAt_len c3_4
    have o0_4 := (o0_3.keep okMinder kx4 (by simp)).keep okMinder ky4 (fun i hi hj => by have := hge0 i hi; simp at hj; omega)
    have o1 := (o1.keep kx4 (by simp)).keep ky4 (fun i hi hj => by have := ge1 i hi; simp at hj; omega)
    have o2 := (o2.keep kx4 (by simp)).keep ky4 (fun i hi hj => by have := ge2 i hi; simp at hj; omega)
    have o3 := (o3.keep kx4 (by simp)).keep ky4 (fun i hi hj => by have := ge3 i hi; simp at hj; omega)
    have o4 := o4.keep ky4 (fun i hi hj => by have := ge4 i hi; simp at hj; omega)
    have k0_4 : Keep [] H HY4 := (k0_3.next kx4 (by simp)).next ky4 (by simp)
    simp [t2, t3, c2_4, d2_4, c3_4, d3_4, Box.enc, hZl]
    have hdz : List.drop 10 Z = [] := List.drop_of_length_le (by omega)
    try simp [hdz]
    obtain ⟨HF, hHF⟩ : ∃ HF : Heap, HF = HY4.set (H.length + 1) (some ⟨32, .wr, [[.i .i64 x.id, .i .i64 x.ports, .i .i64 x.reg.epoch, .i .i64 x.reg.owner, .i .i64 x.reg.pair, .sl a' x.two.length, .sl q1 x.net.length, .sl q2 x.gates.length, .sl q3 x.line.length, .sl q4 x.said.length]]⟩) := ⟨_, rfl⟩
    rw [← hHF]
    have kF : Keep [H.length + 1] HY4 HF := by rw [hHF]; exact Keep.set _ _
    have cF : blkAt HF (H.length + 1) = some ⟨32, .wr, [[.i .i64 x.id, .i .i64 x.ports, .i .i64 x.reg.epoch, .i .i64 x.reg.owner, .i .i64 x.reg.pair, .sl a' x.two.length, .sl q1 x.net.length, .sl q2 x.gates.length, .sl q3 x.line.length, .sl q4 x.said.length]]⟩ := by rw [hHF]; exact blkAt_set d2_4
    clear hHF
    refine hQ _ _ _ (by simp) ?_
    simp [Tryz.f79, t2, cF]
    have hI : IsBox HF [.i .i64 x.id, .i .i64 x.ports, .i .i64 x.reg.epoch, .i .i64 x.reg.owner, .i .i64 x.reg.pair, .sl a' x.two.length, .sl q1 x.net.length, .sl q2 x.gates.length, .sl q3 x.line.length, .sl q4 x.said.length] x ((fp0 ++ fps.flatten) ++ (f1 ++ (f2 ++ (f3 ++ f4)))) := ⟨_, _, _, _, _, _, f1, f2, f3, f4, rfl, o0_4.keep okMinder kF (fun i hi hj => by have := hge0 i hi; simp at hj; omega), ⟨q1, rfl, o1.keep kF (fun i hi hj => by have := ge1 i hi; simp at hj; omega)⟩, ⟨q2, rfl, o2.keep kF (fun i hi hj => by have := ge2 i hi; simp at hj; omega)⟩, ⟨q3, rfl, o3.keep kF (fun i hi hj => by have := ge3 i hi; simp at hj; omega)⟩, ⟨q4, rfl, o4.keep kF (fun i hi hj => by have := ge4 i hi; simp at hj; omega)⟩, rfl,
      nd5 hnd (IsSl.nodup ⟨q1, rfl, o1⟩) (IsSl.nodup ⟨q2, rfl, o2⟩) (IsSl.nodup ⟨q3, rfl, o3⟩) (IsSl.nodup ⟨q4, rfl, o4⟩) (a := H1.length) (b := HX1.length) (c := HX2.length) (d := HX3.length) (e := HX4.length) (fun i hi => ⟨ge1 i hi, lt1 i hi⟩) (fun i hi => ⟨by have := ge2 i hi; omega, lt2 i hi⟩) (fun i hi => ⟨by have := ge3 i hi; omega, lt3 i hi⟩) (fun i hi => ⟨by have := ge4 i hi; omega, lt4 i hi⟩) (fun i hi => .inl (hlt0 i hi)) lx1 (by omega) (by omega) (by omega)⟩
    have hfr : Fresh H HF ((fp0 ++ fps.flatten) ++ (f1 ++ (f2 ++ (f3 ++ f4)))) := ⟨(k0_4.next kF (by simp)).ext, fun i hi => by
      rcases List.mem_append.1 hi with hi | hi
      · have := hge0 i hi; omega
      · rcases List.mem_append.1 hi with hi | hi
        · have := ge1 i hi; omega
        · rcases List.mem_append.1 hi with hi | hi
          · have := ge2 i hi; omega
          · rcases List.mem_append.1 hi with hi | hi
            · have := ge3 i hi; omega
            · have := ge4 i hi; omega⟩
    exact hI.leave hfr (by simp)

theorem specCopyBox {H : Heap} {l : List Lf} {x : Box} (h : RdBox H l x) (hn : x.sz ≤ 1048576) : Runs env 81 [.agg l] H fun v H' => ∃ l' fp, v = .agg l' ∧ IsBox H' l' x fp ∧ Fresh H H' fp := by
  obtain ⟨_, _, _, _, _, rfl, ⟨a0, rws, rfl, hs, hlen, hat⟩, ⟨a1, rfl, r1⟩, ⟨a2, rfl, r2⟩, ⟨a3, rfl, r3⟩, ⟨a4, rfl, r4⟩⟩ := h
  unfold Box.sz at hn
  have hl0 := MinderS.sz_len x.two
  refine Runs.walk ok81 Tryz.func81 rfl (by simp [Tryz.f81]) fun Q hQ => ?_
  simp only [Tryz.f81, strip, stripL, stripI, stripG, chkT, tagsB, tagsL, tagD, addT, tagA, lookN, tagOp, elmT, ty22, ty26, ty27, ty28, ty29, ty30, ty41, ty53, ty56, Nat.reduceEqDiff, if_false, reduceIte, Option.getD_some, Option.getD_none, dstAt, dstOk, Nat.reduceLT, decide_true, if_true]
  simp [Box.enc]
  obtain ⟨Z, hZ⟩ : ∃ Z : List Lf, Z = [.i .i64 0, .i .i64 0, .i .i64 0, .i .i64 0, .i .i64 0, .sl none 0, .sl none 0, .sl none 0, .sl none 0, .sl none 0] := ⟨_, rfl⟩
  obtain ⟨HX0, hH0⟩ : ∃ H3 : Heap, H3 = H ++ [some ⟨32, .wr, [[.i .i64 x.id, .i .i64 x.ports, .i .i64 x.reg.epoch, .i .i64 x.reg.owner, .i .i64 x.reg.pair, .sl a0 x.two.length, .sl a1 x.net.length, .sl a2 x.gates.length, .sl a3 x.line.length, .sl a4 x.said.length]]⟩, some ⟨32, .wr, [Z]⟩] := ⟨_, rfl⟩
  have c1_0 : blkAt HX0 H.length = some ⟨32, .wr, [[.i .i64 x.id, .i .i64 x.ports, .i .i64 x.reg.epoch, .i .i64 x.reg.owner, .i .i64 x.reg.pair, .sl a0 x.two.length, .sl a1 x.net.length, .sl a2 x.gates.length, .sl a3 x.line.length, .sl a4 x.said.length]]⟩ := by rw [hH0]; simp
  have c2_0 : blkAt HX0 (H.length + 1) = some ⟨32, .wr, [Z]⟩ := by rw [hH0]; simp
  have k0_0 : Keep [] H HX0 := by rw [hH0]; exact Keep.app _ _ _
  have lx0 : HX0.length = H.length + 2 := by rw [hH0]; simp
  have hZl : Z.length = 10 := by rw [hZ]; rfl
  have hT : ∀ tmp : Option Blk, H ++ [some ⟨32, .wr, [[.i .i64 x.id, .i .i64 x.ports, .i .i64 x.reg.epoch, .i .i64 x.reg.owner, .i .i64 x.reg.pair, .sl a0 x.two.length, .sl a1 x.net.length, .sl a2 x.gates.length, .sl a3 x.line.length, .sl a4 x.said.length]]⟩, some ⟨32, .wr, [[.i .i64 0, .i .i64 0, .i .i64 0, .i .i64 0, .i .i64 0, .sl none 0, .sl none 0, .sl none 0, .sl none 0, .sl none 0]]⟩, tmp] = HX0 ++ [tmp] := by intro tmp; rw [hH0, hZ]; simp
  rw [hT]
  rw [show H.length + 2 = HX0.length from lx0.symm]
  clear hT hH0
  refine stpL_append (rows := []) (ys := x.net.map Wire.enc) (Own.of (by simp)) ((r1.keep k0_0 (by simp)).app _) rfl rfl rfl (by simp) (by simp; omega) rfl (by simp) fun q1 HX1 f1 o1 kt1 ft1 => ?_
  rw [List.nil_append] at o1
  have kx1 : Keep [] HX0 HX1 := (Keep.app [] _ _).next kt1 (by simp)
  have lx1' := kx1.1
  have lt1 := o1.lt
  have ge1 : ∀ i ∈ f1, HX0.length ≤ i := fun i hi => by
    rcases ft1 i hi with h | h
    · simp at h; omega
    · rw [List.length_append] at h; omega
  have c1_1 := kx1.blk c1_0 (by simp)
  have c2_1 := kx1.blk c2_0 (by simp)
  have d1_1 := blkAt_len c1_1
  have k0_1 : Keep [] H HX1 := k0_0.next kx1 (by simp)
  simp [c1_1, d1_1, Box.enc]
  refine stpL_append (rows := []) (ys := x.gates.map encB) (Own.of (by simp)) ((r2.keep k0_1 (by simp)).app _) rfl rfl rfl (by simp) (by simp; omega) rfl (by simp) fun q2 HX2 f2 o2 kt2 ft2 => ?_
  rw [List.nil_append] at o2
  have kx2 : Keep [] HX1 HX2 := (Keep.app [] _ _).next kt2 (by simp)
  have lx2' := kx2.1
  have lt2 := o2.lt
  have ge2 : ∀ i ∈ f2, HX1.length ≤ i := fun i hi => by
    rcases ft2 i hi with h | h
    · simp at h; omega
    · rw [List.length_append] at h; omega
  have c1_2 := kx2.blk c1_1 (by simp)
  have c2_2 := kx2.blk c2_1 (by simp)
  have d1_2 := blkAt_len c1_2
  have k0_2 : Keep [] H HX2 := k0_1.next kx2 (by simp)
  have o1 := o1.keep kx2 (by simp)
  simp [c1_2, d1_2, Box.enc]
  refine stpL_append (rows := []) (ys := x.line.map In.enc) (Own.of (by simp)) ((r3.keep k0_2 (by simp)).app _) rfl rfl rfl (by simp) (by simp; omega) rfl (by simp) fun q3 HX3 f3 o3 kt3 ft3 => ?_
  rw [List.nil_append] at o3
  have kx3 : Keep [] HX2 HX3 := (Keep.app [] _ _).next kt3 (by simp)
  have lx3' := kx3.1
  have lt3 := o3.lt
  have ge3 : ∀ i ∈ f3, HX2.length ≤ i := fun i hi => by
    rcases ft3 i hi with h | h
    · simp at h; omega
    · rw [List.length_append] at h; omega
  have c1_3 := kx3.blk c1_2 (by simp)
  have c2_3 := kx3.blk c2_2 (by simp)
  have d1_3 := blkAt_len c1_3
  have k0_3 : Keep [] H HX3 := k0_2.next kx3 (by simp)
  have o1 := o1.keep kx3 (by simp)
  have o2 := o2.keep kx3 (by simp)
  simp [c1_3, d1_3, Box.enc]
  refine stpL_append (rows := []) (ys := x.said.map Out.enc) (Own.of (by simp)) ((r4.keep k0_3 (by simp)).app _) rfl rfl rfl (by simp) (by simp; omega) rfl (by simp) fun q4 HX4 f4 o4 kt4 ft4 => ?_
  rw [List.nil_append] at o4
  have kx4 : Keep [] HX3 HX4 := (Keep.app [] _ _).next kt4 (by simp)
  have lx4' := kx4.1
  have lt4 := o4.lt
  have ge4 : ∀ i ∈ f4, HX3.length ≤ i := fun i hi => by
    rcases ft4 i hi with h | h
    · simp at h; omega
    · rw [List.length_append] at h; omega
  have c1_4 := kx4.blk c1_3 (by simp)
  have c2_4 := kx4.blk c2_3 (by simp)
  have d1_4 := blkAt_len c1_4
  have k0_4 : Keep [] H HX4 := k0_3.next kx4 (by simp)
  have o1 := o1.keep kx4 (by simp)
  have o2 := o2.keep kx4 (by simp)
  have o3 := o3.keep kx4 (by simp)
  simp [c1_4, d1_4, Box.enc]
  obtain ⟨H3, hH3⟩ : ∃ H3 : Heap, H3 = HX4 ++ [some ⟨32, .wr, [[.i .i64 x.id, .i .i64 x.ports, .i .i64 x.reg.epoch, .i .i64 x.reg.owner, .i .i64 x.reg.pair, .sl none 0, .sl q1 x.net.length, .sl q2 x.gates.length, .sl q3 x.line.length, .sl q4 x.said.length]]⟩] := ⟨_, rfl⟩
  have b3 : blkAt H3 HX4.length = some ⟨32, .wr, [[.i .i64 x.id, .i .i64 x.ports, .i .i64 x.reg.epoch, .i .i64 x.reg.owner, .i .i64 x.reg.pair, .sl none 0, .sl q1 x.net.length, .sl q2 x.gates.length, .sl q3 x.line.length, .sl q4 x.said.length]]⟩ := by rw [hH3]; simp
  have k43 : Keep [] HX4 H3 := by rw [hH3]; exact Keep.app _ _ _
  have hl3 : H3.length = HX4.length + 1 := by rw [hH3]; simp
  rw [← hH3]
  clear hH3
  have b1 := k43.blk c1_4 (by simp)
  have b2 := k43.blk c2_4 (by simp)
  have o1 := o1.keep k43 (by simp)
  have o2 := o2.keep k43 (by simp)
  have o3 := o3.keep k43 (by simp)
  have o4 := o4.keep k43 (by simp)
  have k03 : Keep [] H H3 := k0_4.next k43 (by simp)
  refine wpS_loop (fun j tm H' => ∃ i a' rows fp0 fps, i + j = x.two.length ∧ tm 1 = .ptr H.length 0 0 ∧ tm 2 = .ptr (H.length + 1) 0 0 ∧ tm 3 = .ptr HX4.length 0 0 ∧ tm 4 = .int i ∧ blkAt H' HX4.length = some ⟨32, .wr, [[.i .i64 x.id, .i .i64 x.ports, .i .i64 x.reg.epoch, .i .i64 x.reg.owner, .i .i64 x.reg.pair, .sl a' i, .sl q1 x.net.length, .sl q2 x.gates.length, .sl q3 x.line.length, .sl q4 x.said.length]]⟩ ∧ Own H' 52 a' rows fp0 ∧ Part IsMinder H' rows (x.two.take i) fps ∧ (fp0 ++ fps.flatten).Nodup ∧ (∀ k ∈ fp0 ++ fps.flatten, H3.length ≤ k) ∧ Keep [HX4.length] H3 H') x.two.length (by rw [env_K]; omega)
    ⟨0, none, [], [], [], by simp, by simp, by simp, by simp, by simp, b3, Own.nil _ _, Part.nil _ _, by simp, by simp, Keep.refl _ _⟩ ?_
  rintro j tm H1 hj ⟨i, a', rows, fp0, fps, hij, t1, t2, t3, t4, c3, ho, hp, hnd, hge, hK3⟩ Q2 hn2 he2 hr2
  have c1 := hK3.blk b1 (by simp; omega)
  have c2 := hK3.blk b2 (by simp; omega)
  have d1 := blkAt_len c1
  have d2 := blkAt_len c2
  have d3 := blkAt_len c3
  have hK : Keep [] H H1 := k03.next hK3 (by simp; omega)
  have h31 := hK3.1
  simp [t1, t4, c1, d1, builtinV, pureB, lenV]
  refine selS_intro (fun hc => ?_) (fun hc => ?_)
  · simp at hc
    have hri : i < rws.length := by omega
    obtain ⟨id2, r, bl, rfl, hbl, hbe, hrow⟩ := (hs.keep hK (by simp)) i _ (List.getElem?_eq_getElem hri)
    have hid := blkAt_len hbl
    have he := (hat i _ _ (List.getElem?_eq_getElem hri) (List.getElem?_eq_getElem hc)).base hK
    have hL := he.len
    have hT : rws[i].take rws[i].length = rws[i] := List.take_length
    rw [hL] at hT
    have hszi := MinderS.sz_at (List.getElem_mem hc)
    have g4 : IntKind.i64.wrap ((i : Int) + 1) = (i : Int) + 1 := wrap64 (by omega) (by omega)
    have hrl : rows.length = i := by rw [hp.len]; simp; omega
    simp [t1, t2, t3, t4, c1, d1, c3, d3, Box.enc, indexAddrV, elemIs, hid, hbl, hbe, hc, hrow, hL, hT]
    refine stpL_runs_f (specCopyM he (by omega)) (by rintro _ _ ⟨_, _, _, _, hf⟩; exact hf.1) ?_
    rintro _ _ ⟨l2, f2, rfl, o2', ⟨⟨G2, rfl⟩, hf2⟩⟩
    have hl2 := o2'.len
    have hT2 : l2.take l2.length = l2 := List.take_length
    rw [hl2] at hT2
    simp [hl2, hT2]
    have hlt0 := ho.lt
    refine stpL_append (e := 52) (rows := rows) (ys := [l2]) (ho.app _) (Sl.of (by simp)) rfl rfl rfl (by simp) (by simp; omega) (by omega) rfl fun a'' H'' fp'' ho'' hk'' hf'' => ?_
    have k12 : Keep [] H1 (H1 ++ (G2 ++ [some ⟨52, .wr, [l2]⟩])) := Keep.app _ _ _
    have o2'' := o2'.app [some ⟨52, .wr, [l2]⟩]
    simp only [List.append_assoc, List.cons_append, List.nil_append] at o2''
    obtain ⟨hp2, hnd2⟩ := isL_snoc okMinder hp hnd hlt0 k12 o2'' hf2 hk'' ho'' hf''
    have c3' := (hk''.blk (k12.blk c3 (by simp)) (fun h => by have := hge _ (List.mem_append.2 (.inl h)); omega))
    have d3' := blkAt_len c3'
    have hk1 : Keep [HX4.length] H3 H'' := Keep.trans (h := [HX4.length]) (Keep.trans (h := [HX4.length]) hK3 k12 (by simp) (by simp)) hk'' (by simp) (fun k hk hl => by have := hge k (List.mem_append.2 (.inl hk)); omega)
    have hge2 : ∀ k ∈ fp'' ++ (fps ++ [f2]).flatten, H3.length ≤ k := fun k hk => by
      rcases List.mem_append.1 hk with hk | hk
      · rcases hf'' k hk with h | h
        · exact hge k (List.mem_append.2 (.inl h))
        · rw [List.length_append] at h; omega
      · rw [List.flatten_append] at hk
        rcases List.mem_append.1 hk with hk | hk
        · exact hge k (List.mem_append.2 (.inr hk))
        · simp at hk
          have := hf2 k hk; omega
    have ks := fun y => Keep.set (id := HX4.length) H'' y
    have hno : ∀ k ∈ fp'' ++ (fps ++ [f2]).flatten, k ∉ [HX4.length] := fun k hk => by have := hge2 k hk; simp; omega
    simp [t1, t2, t3, t4, c3', d3', Box.enc, g4]
    refine hn2 (j - 1) _ _ (by omega) ⟨i + 1, a'', rows ++ [l2], fp'', fps ++ [f2], by omega, by simp [t1], by simp [t2], by simp [t3], by simp, by rw [blkAt_set d3'], ho''.keep (ks _) (fun k hk => hno k (List.mem_append.2 (.inl hk))), ?_, hnd2, hge2, hk1.trans (h := [HX4.length]) (ks _) (by simp) (by simp)⟩
    rw [List.take_add_one, List.getElem?_eq_getElem hc]
    exact hp2.keep okMinder (ks _) (fun k hk => hno k (List.mem_append.2 (.inr hk)))
  · simp at hc
    obtain rfl : i = x.two.length := by omega
    rw [List.take_length] at hp
    simp [t1, t4]
    refine he2 _ _ _ ?_
    have o0 : IsMinderS H1 (.sl a' x.two.length) x.two (fp0 ++ fps.flatten) := ⟨a', rows, fp0, fps, rfl, ho, hp, rfl, hnd⟩
    have n3 : ∀ i ∈ [HX4.length], HX4.length ≤ i := by simp
    have o1 := o1.keep hK3 (fun i hi hj => by have := lt1 i hi; simp at hj; omega)
    have o2 := o2.keep hK3 (fun i hi hj => by have := lt2 i hi; simp at hj; omega)
    have o3 := o3.keep hK3 (fun i hi hj => by have := lt3 i hi; simp at hj; omega)
    have o4 := o4.keep hK3 (fun i hi hj => by have := lt4 i hi; simp at hj; omega)
    simp [t2, t3, c2, d2, c3, d3, hZl]
    have hdz : List.drop 10 Z = [] := List.drop_of_length_le (by omega)
    try simp [hdz]
    obtain ⟨HF, hHF⟩ : ∃ HF : Heap, HF = H1.set (H.length + 1) (some ⟨32, .wr, [[.i .i64 x.id, .i .i64 x.ports, .i .i64 x.reg.epoch, .i .i64 x.reg.owner, .i .i64 x.reg.pair, .sl a' x.two.length, .sl q1 x.net.length, .sl q2 x.gates.length, .sl q3 x.line.length, .sl q4 x.said.length]]⟩) := ⟨_, rfl⟩
    rw [← hHF]
    have kF : Keep [H.length + 1] H1 HF := by rw [hHF]; exact Keep.set _ _
    have cF : blkAt HF (H.length + 1) = some ⟨32, .wr, [[.i .i64 x.id, .i .i64 x.ports, .i .i64 x.reg.epoch, .i .i64 x.reg.owner, .i .i64 x.reg.pair, .sl a' x.two.length, .sl q1 x.net.length, .sl q2 x.gates.length, .sl q3 x.line.length, .sl q4 x.said.length]]⟩ := by rw [hHF]; exact blkAt_set d2
    clear hHF
    refine hQ _ _ _ (by simp) ?_
    simp [Tryz.f81, t2, cF]
    have hI : IsBox HF [.i .i64 x.id, .i .i64 x.ports, .i .i64 x.reg.epoch, .i .i64 x.reg.owner, .i .i64 x.reg.pair, .sl a' x.two.length, .sl q1 x.net.length, .sl q2 x.gates.length, .sl q3 x.line.length, .sl q4 x.said.length] x ((fp0 ++ fps.flatten) ++ (f1 ++ (f2 ++ (f3 ++ f4)))) := ⟨_, _, _, _, _, _, f1, f2, f3, f4, rfl, o0.keep okMinder kF (fun i hi hj => by have := hge i hi; simp at hj; omega), ⟨q1, rfl, o1.keep kF (fun i hi hj => by have := ge1 i hi; simp at hj; omega)⟩, ⟨q2, rfl, o2.keep kF (fun i hi hj => by have := ge2 i hi; simp at hj; omega)⟩, ⟨q3, rfl, o3.keep kF (fun i hi hj => by have := ge3 i hi; simp at hj; omega)⟩, ⟨q4, rfl, o4.keep kF (fun i hi hj => by have := ge4 i hi; simp at hj; omega)⟩, rfl,
      nd5 hnd o1.nodup o2.nodup o3.nodup o4.nodup (a := HX0.length) (b := HX1.length) (c := HX2.length) (d := HX3.length) (e := HX4.length) (fun i hi => ⟨ge1 i hi, lt1 i hi⟩) (fun i hi => ⟨ge2 i hi, lt2 i hi⟩) (fun i hi => ⟨ge3 i hi, lt3 i hi⟩) (fun i hi => ⟨ge4 i hi, lt4 i hi⟩) (fun i hi => .inr (by have := hge i hi; omega)) lx1' lx2' lx3' lx4'⟩
    have hfr : Fresh H HF ((fp0 ++ fps.flatten) ++ (f1 ++ (f2 ++ (f3 ++ f4)))) := ⟨(hK.next kF (by simp)).ext, fun i hi => by
      rcases List.mem_append.1 hi with hi | hi
      · have := hge i hi; omega
      · rcases List.mem_append.1 hi with hi | hi
        · have := ge1 i hi; omega
        · rcases List.mem_append.1 hi with hi | hi
          · have := ge2 i hi; omega
          · rcases List.mem_append.1 hi with hi | hi
            · have := ge3 i hi; omega
            · have := ge4 i hi; omega⟩
    exact hI.leave hfr (by simp)

theorem sl_uniq {α : Type} {H : Heap} {e : Nat} {enc : α → List Lf} {a : Option (Nat × Nat)} {xs ys : List α} (inj : ∀ x y, enc x = enc y → x = y) (h : Sl H e a (xs.map enc)) (h2 : Sl H e a (ys.map enc)) (hl : xs.length = ys.length) : xs = ys := by
  refine List.ext_getElem hl fun i h3 h4 => ?_
  obtain ⟨id, r, b, rfl, hb, -, hrow⟩ := h i (enc xs[i]) (by simp [h3])
  obtain ⟨id', r', b', hx, hb', -, hrow'⟩ := h2 i (enc ys[i]) (by simp [h4])
  cases hx
  rw [hb] at hb'
  injection hb' with hb'
  subst hb'
  rw [hrow] at hrow'
  injection hrow' with hrow'
  exact inj _ _ hrow'
theorem rdSl_uniq {α : Type} {H : Heap} {e : Nat} {enc : α → List Lf} {q : Lf} {xs ys : List α} (inj : ∀ x y, enc x = enc y → x = y) (h : RdSl e enc H q xs) (h2 : RdSl e enc H q ys) : xs = ys := by
  obtain ⟨a, rfl, s1⟩ := h
  obtain ⟨b, hq, s2⟩ := h2
  injection hq with h1 h2
  subst h1
  exact sl_uniq inj s1 s2 h2
theorem rdMinder_uniq {H : Heap} {l : List Lf} {x y : Minder} (h : RdMinder H l x) (h2 : RdMinder H l y) : x = y := by
  obtain ⟨a, rfl, s1⟩ := h
  obtain ⟨b, hq, s2⟩ := h2
  simp [Minder.enc] at hq
  obtain ⟨e1, e2, e3, ⟨e4, e5⟩, e6, e7, e8⟩ := hq
  subst e4
  have := sl_uniq (fun x y h => In.enc_inj h) s1 s2 e5
  cases x; cases y; simp_all
theorem rdMinderS_uniq {H : Heap} {q : Lf} {xs ys : List Minder} (h : RdMinderS H q xs) (h2 : RdMinderS H q ys) : xs = ys := by
  obtain ⟨a, rws, rfl, s1, l1, at1⟩ := h
  obtain ⟨b, rws2, hq, s2, l2, at2⟩ := h2
  injection hq with h1 h2
  subst h1
  refine List.ext_getElem h2 fun i h3 h4 => ?_
  have r1 : i < rws.length := by omega
  have r2 : i < rws2.length := by omega
  obtain ⟨id, r, b, rfl, hb, -, hrow⟩ := s1 i _ (List.getElem?_eq_getElem r1)
  obtain ⟨id', r', b', hx, hb', -, hrow'⟩ := s2 i _ (List.getElem?_eq_getElem r2)
  cases hx
  rw [hb] at hb'
  injection hb' with hb'
  subst hb'
  rw [hrow] at hrow'
  injection hrow' with hrow'
  have e1 := at1 i _ _ (List.getElem?_eq_getElem r1) (List.getElem?_eq_getElem h3)
  have e2 := at2 i _ _ (List.getElem?_eq_getElem r2) (List.getElem?_eq_getElem h4)
  rw [← hrow'] at e2
  exact rdMinder_uniq e1 e2
theorem encB_one (x y : Bool) (h : encB x = encB y) : x = y := by simpa [encB] using h
theorem rdBox_uniq {H : Heap} {l : List Lf} {x y : Box} (h : RdBox H l x) (h2 : RdBox H l y) : x = y := by
  obtain ⟨q0, q1, q2, q3, q4, rfl, a0, a1, a2, a3, a4⟩ := h
  obtain ⟨p0, p1, p2, p3, p4, hl, b0, b1, b2, b3, b4⟩ := h2
  simp [Box.enc] at hl
  obtain ⟨e1, e2, e3, e4, e5, rfl, rfl, rfl, rfl, rfl⟩ := hl
  have c0 := rdMinderS_uniq a0 b0
  have c1 := rdSl_uniq (fun x y h => Wire.enc_inj h) a1 b1
  have c2 := rdSl_uniq encB_one a2 b2
  have c3 := rdSl_uniq (fun x y h => In.enc_inj h) a3 b3
  have c4 := rdSl_uniq (fun x y h => Out.enc_inj h) a4 b4
  cases x; cases y
  rename_i r1 _ _ _ _ _ _ _ r2 _ _ _ _ _
  cases r1; cases r2
  simp_all
/-- What a call leaves of a box that was turned in its place. -/
theorem leave_box {H HF : Heap} {id : Nat} {l l' : List Lf} {x x' : Box} {fp fp' : List Nat} (hb : blkAt H id = some ⟨32, .wr, [l]⟩) (hI : IsBox H l x fp) (hb' : blkAt HF id = some ⟨32, .wr, [l']⟩) (hI' : IsBox HF l' x' fp') (hK : Keep (id :: fp) H HF) (hf : ∀ i ∈ fp', i ∈ fp ∨ H.length ≤ i) (ws : List W) :
    ∃ fp2, blkAt (leave H HF ws) id = some ⟨32, .wr, [l']⟩ ∧ IsBox (leave H HF ws) l' x' fp2 ∧ Keep (id :: fp) H (leave H HF ws) ∧ (∀ i ∈ fp2, i ∈ fp ∨ H.length ≤ i) := by
  rcases leave_or H HF ws with e | ⟨e, G, rfl⟩ <;> rw [e]
  · exact ⟨fp', hb', hI', hK, hf⟩
  · rw [blkAt_app hb] at hb'
    injection hb' with hb'
    simp at hb'
    subst hb'
    have := rdBox_uniq (hI.rd.app G) hI'.rd
    subst this
    exact ⟨fp, hb, hI, Keep.refl _ _, fun i hi => .inl hi⟩

def gateStep (gs : List Bool) (o : Out) : List Bool := if o.kind = 2 ∧ 0 ≤ o.port ∧ o.port ≤ (gs.length : Int) - 1 then gs.set o.port.toNat o.on else gs
def acceptB (x : Box) (list : List Out) : Box := ⟨x.id, x.ports, x.reg, x.two, x.net, list.foldl gateStep x.gates, x.line, lastL (x.said ++ list)⟩
def accept (x : Box) (s : Int) (list : List Out) : Box := if mindsAt x s = true then acceptB x list else x
theorem gateStep_len (gs : List Bool) (o : Out) : (gateStep gs o).length = gs.length := by unfold gateStep; split <;> simp
theorem accGates_len (list : List Out) : ∀ gs : List Bool, (list.foldl gateStep gs).length = gs.length := by
  induction list with
  | nil => intro gs; rfl
  | cons o os ih => intro gs; rw [List.foldl_cons, ih, gateStep_len]
theorem gates_step (list : List Out) (gs : List Bool) {i : Nat} (h : i < list.length) : (list.take (i + 1)).foldl gateStep gs = gateStep ((list.take i).foldl gateStep gs) list[i] := by
  rw [List.take_add_one, List.getElem?_eq_getElem h, List.foldl_append]
  rfl
theorem lastL_len (l : List Out) : (lastL l).length ≤ 40 ∧ (lastL l).length ≤ l.length := by unfold lastL; simp; omega
theorem acceptB_sz {x : Box} {list : List Out} (hn : x.sz ≤ 1048576) (hl : x.sz + list.length ≤ 1048576) : (acceptB x list).sz ≤ 1048576 := by
  have := accGates_len list x.gates
  have h2 := lastL_len (x.said ++ list)
  rw [List.length_append] at h2
  unfold Box.sz at hn hl ⊢
  simp only [acceptB]
  omega
theorem accept_sz0 {x : Box} {s : Int} {list : List Out} (hl : x.sz + list.length ≤ 1048576) : (accept x s list).sz ≤ 1048576 := by
  unfold accept
  split
  · exact acceptB_sz (by omega) hl
  · omega

theorem acceptMq {H : Heap} {id : Nat} {l : List Lf} {x : Box} {fp : List Nat} (hb : blkAt H id = some ⟨32, .wr, [l]⟩) (hI : IsBox H l x fp) (hid : id ∉ fp) (hn : x.sz ≤ 1048576) {a : Option (Nat × Nat)} {list : List Out} (hl : Sl H 62 a (list.map Out.enc))
    (hdj : ∀ i r, a = some (i, r) → list ≠ [] → i ∉ fp ∧ i ≠ id) (hln : list.length ≤ 1048576) :
    Runs env 80 [.ptr id 0 0, .w (.lf (.sl a list.length))] H fun v H' => v = .tup [] ∧ ∃ l' fp', blkAt H' id = some ⟨32, .wr, [l']⟩ ∧ IsBox H' l' (acceptB x list) fp' ∧ Keep (id :: fp) H H' ∧ (∀ i ∈ fp', i ∈ fp ∨ H.length ≤ i) ∧ l'[5]? = l[5]? := by
  have hI0 := hI
  have hb0 := hb
  obtain ⟨q0, q1, q2, q3, q4, f0, f1, f2, f3, f4, rfl, i0, i1, ⟨a2, rfl, o2⟩, i3, ⟨a4, rfl, o4⟩, rfl, hnd⟩ := hI
  have hsl : ∀ H' f, Keep f H H' → (∀ i ∈ f, i ∈ f0 ++ (f1 ++ (f2 ++ (f3 ++ f4)))) → Sl H' 62 a (list.map Out.enc) := fun H' f hk hf => by
    by_cases hx : list = []
    · subst hx; exact fun i row h => by simp at h
    · exact hl.keep hk (fun i r h hi => (hdj i r h hx).1 (hf i hi))
  have n0 := List.nodup_append.1 hnd
  have n1 := List.nodup_append.1 n0.2.1
  have n2 := List.nodup_append.1 n1.2.1
  have n3 := List.nodup_append.1 n2.2.1
  have x02 : ∀ i ∈ f0, i ∉ f2 := fun i hi hj => n0.2.2 i hi i (by simp [hj]) rfl
  have x12 : ∀ i ∈ f1, i ∉ f2 := fun i hi hj => n1.2.2 i hi i (by simp [hj]) rfl
  have x23 : ∀ i ∈ f3, i ∉ f2 := fun i hi hj => n2.2.2 i hj i (by simp [hi]) rfl
  have x24 : ∀ i ∈ f4, i ∉ f2 := fun i hi hj => n2.2.2 i hj i (by simp [hi]) rfl
  have x04 : ∀ i ∈ f0, i ∉ f4 := fun i hi hj => n0.2.2 i hi i (by simp [hj]) rfl
  have x14 : ∀ i ∈ f1, i ∉ f4 := fun i hi hj => n1.2.2 i hi i (by simp [hj]) rfl
  have x34 : ∀ i ∈ f3, i ∉ f4 := fun i hi hj => n3.2.2 i hi i hj rfl
  have hi2 : id ∉ f2 := fun h => hid (by simp [h])
  have hi4 : id ∉ f4 := fun h => hid (by simp [h])
  have hlt0 := i0.lt okMinder
  have hlt1 := i1.lt
  have hlt3 := i3.lt
  have hlt2 := o2.lt
  have hidl := blkAt_len hb
  unfold Box.sz at hn
  simp only [Box.enc] at hb
  refine Runs.walk ok80 Tryz.func80 rfl (by simp [Tryz.f80]) fun Q hQ => ?_
  simp only [Tryz.f80, strip, stripL, stripI, stripG, chkT, tagsB, tagsL, tagD, addT, tagA, lookN, tagOp, elmT, ty22, ty26, ty27, ty28, ty29, ty30, ty41, ty53, ty56, Nat.reduceEqDiff, if_false, reduceIte, Option.getD_some, Option.getD_none, dstAt, dstOk, Nat.reduceLT, decide_true, if_true]
  simp [builtinV, pureB, lenV]
  refine wpS_loop (fun j tm H' => ∃ i, i + j = list.length ∧ tm 0 = .ptr id 0 0 ∧ tm 1 = .w (.lf (.sl a list.length)) ∧ tm 6 = .w (.lf (.sl a list.length)) ∧ tm 7 = .int list.length ∧ tm 8 = .int i ∧ Own H' 4 a2 (((list.take i).foldl gateStep x.gates).map encB) f2 ∧ Keep f2 H H') list.length (by rw [env_K]; omega) ⟨0, by simp, by simp, by simp, by simp, by simp, by simp, by simpa using o2, Keep.refl _ _⟩ ?_
  rintro j tm H1 hj ⟨i, hij, t0, t1, t6, t7, t8, ho, hK⟩ Q2 hn2 he2 hr2
  have b1 := hK.blk hb hi2
  have d1 := blkAt_len b1
  have hgl := accGates_len (list.take i) x.gates
  simp [t6, t7, t8]
  refine selS_intro (fun hc => ?_) (fun hc => ?_)
  · simp at hc
    obtain ⟨id2, r, bl, rfl, hbl, hbe, hrow⟩ := hsl H1 _ hK (fun i hi => by simp [hi]) i _ (by simp [hc]; rfl)
    have hid2 := blkAt_len hbl
    have g4 : IntKind.i64.wrap ((i : Int) + 1) = (i : Int) + 1 := wrap64 (by omega) (by omega)
    have g5 : IntKind.i64.wrap ((x.gates.length : Int) - 1) = (x.gates.length : Int) - 1 := wrap64 (by omega) (by omega)
    have hst := gates_step list x.gates hc
    obtain ⟨gs, hgs⟩ : ∃ gs, gs = (list.take i).foldl gateStep x.gates := ⟨_, rfl⟩
    rw [← hgs] at ho hst hgl
    obtain ⟨o, hoo⟩ : ∃ o, o = list[i] := ⟨_, rfl⟩
    rw [← hoo] at hst hrow
    have same : ∀ tm' G', gateStep gs o = gs → tm' 0 = .ptr id 0 0 → tm' 1 = .w (.lf (.sl (some (id2, r)) list.length)) → tm' 6 = .w (.lf (.sl (some (id2, r)) list.length)) → tm' 7 = .int list.length → tm' 8 = .int ((i : Int) + 1) → Q2 .normal tm' (H1 ++ G') := by
      intro tm' G' hx a0 a1 a6 a7 a8
      refine hn2 (j - 1) _ _ (by omega) ⟨i + 1, by omega, a0, a1, a6, a7, by simpa using a8, ?_, Keep.trans (h := f2) hK (Keep.app [] _ _) (fun _ hi _ => hi) (by simp)⟩
      rw [hst, hx]; exact ho.app _
    simp [t0, t1, t6, t7, t8, indexAddrV, elemIs, hid2, hbl, hbe, hc, hrow, Out.enc]
    by_cases hk : o.kind = 2
    · simp [hk, t0, b1, d1, builtinV, pureB, lenV, g5, inRange]
      by_cases hp : 0 ≤ o.port ∧ o.port ≤ (x.gates.length : Int) - 1
      · obtain ⟨k, hkp⟩ : ∃ k : Nat, o.port = k := ⟨o.port.toNat, by omega⟩
        have hkl : k < gs.length := by omega
        have hkl2 : k < x.gates.length := by omega
        obtain ⟨pid, pb, rfl, rfl, hpb, hpe, hpm, hpre⟩ := ho.blk (by intro h; have := congrArg List.length h; simp only [List.length_map, List.length_nil] at this; omega)
        have hpl := blkAt_len hpb
        obtain ⟨t, ht⟩ := hpre
        have hrw0 : pb.rows[k]? = some (encB gs[k]) := by
          rw [← ht, List.getElem?_append_left (by simp; omega), List.getElem?_map, List.getElem?_eq_getElem hkl]; rfl
        obtain ⟨hrl, hrw⟩ := List.getElem?_eq_some_iff.1 hrw0
        have hkI : (k : Int) < (x.gates.length : Int) := by omega
        have hpp : o.port ≤ (x.gates.length : Int) - 1 := hp.2
        rw [hkp] at hpp
        have hgst : gateStep gs o = gs.set k o.on := by
          unfold gateStep
          rw [if_pos ⟨hk, by omega, by omega⟩, hkp]; simp
        simp [hkp, hpp, t0, b1, d1, indexAddrV, elemIs, hpl, hpb, hpe, hpm, hkI, hkl2, hrl, hrw, encB, t6, t7, t8, g4]
        refine hn2 (j - 1) _ _ (by omega) ⟨i + 1, by omega, by simp [t0], by simp [t1], by simp [t6], by simp [t7], by simp, ?_, ?_⟩
        · have := ho.set (row := encB o.on) hpb (i := k) (by simp; omega)
          rw [hpm, hpe] at this
          rw [hst, hgst, List.map_set]
          simpa [encB] using this.app _
        · exact Keep.trans (h := [pid]) (hK.trans (h := [pid]) (Keep.set _ _) (by simp) (by simp)) (Keep.app [] _ _) (by simp) (by simp)
      · have hpf : (decide (0 ≤ o.port) && decide (o.port ≤ (x.gates.length : Int) - 1)) = false := by rw [Bool.and_eq_false_iff]; simp; omega
        simp [hpf, t0, t6, t7, t8, g4]
        refine same _ _ ?_ (by simp [t0]) (by simp [t1]) (by simp [t6]) (by simp [t7]) (by simp)
        unfold gateStep
        rw [if_neg]
        rintro ⟨-, h1, h2⟩
        omega
    · simp [hk, t0, t6, t7, t8, g4]
      refine same _ _ ?_ (by simp [t0]) (by simp [t1]) (by simp [t6]) (by simp [t7]) (by simp)
      unfold gateStep
      rw [if_neg]
      rintro ⟨h1, -⟩
      exact hk h1
  · simp at hc
    obtain rfl : i = list.length := by omega
    rw [List.take_length] at ho hgl
    simp [t0, t1, t6, t7, t8]
    refine he2 _ _ _ ?_
    have o41 := o4.keep hK x24
    have hlt41 := o41.lt
    have h01 := hK.1
    simp [t0, t1, b1, d1]
    refine stpL_append (rows := x.said.map Out.enc) (ys := list.map Out.enc) o41 (hsl H1 _ hK (fun i hi => by simp [hi])) rfl rfl rfl (by simp) (by simp; omega) (by simp) (by simp) fun a'' H'' fp'' ho'' hk'' hf'' => ?_
    rw [← List.map_append] at ho''
    have b2 := hk''.blk b1 hi4
    simp [t0]
    refine stpL_runs (lastSaid (xs := x.said ++ list) (fp := fp'') ⟨a'', by simp, ho''⟩ (by simp; omega)) ?_
    rintro _ _ ⟨_, f9, rfl, ⟨a9, rfl, o9⟩, ⟨⟨G9, rfl⟩, hf9⟩⟩
    have b3 := blkAt_app b2 G9
    have d3 := blkAt_len b3
    simp [t0, b3, d3]
    have h12 := hk''.1
    have hl9 := o9.lt
    obtain ⟨HF, hHF⟩ : ∃ HF : Heap, HF = (H'' ++ G9).set id (some ⟨32, .wr, [[.i .i64 x.id, .i .i64 x.ports, .i .i64 x.reg.epoch, .i .i64 x.reg.owner, .i .i64 x.reg.pair, q0, q1, .sl a2 x.gates.length, q3, .sl a9 (lastL (x.said ++ list)).length]]⟩) := ⟨_, rfl⟩
    have hset : id < H''.length := blkAt_len b2
    have kF : Keep [id] (H'' ++ G9) HF := by rw [hHF]; exact Keep.set _ _
    have bF : blkAt HF id = some ⟨32, .wr, [[.i .i64 x.id, .i .i64 x.ports, .i .i64 x.reg.epoch, .i .i64 x.reg.owner, .i .i64 x.reg.pair, q0, q1, .sl a2 x.gates.length, q3, .sl a9 (lastL (x.said ++ list)).length]]⟩ := by rw [hHF]; exact blkAt_set d3
    rw [← hHF]
    clear hHF
    have n_0 : ∀ i ∈ f0, i ∉ [id] := fun i hi hj => by simp at hj; subst hj; exact hid (by simp [hi])
    have n_1 : ∀ i ∈ f1, i ∉ [id] := fun i hi hj => by simp at hj; subst hj; exact hid (by simp [hi])
    have n_2 : ∀ i ∈ f2, i ∉ [id] := fun i hi hj => by simp at hj; subst hj; exact hid (by simp [hi])
    have n_3 : ∀ i ∈ f3, i ∉ [id] := fun i hi hj => by simp at hj; subst hj; exact hid (by simp [hi])
    have p0 := (((i0.keep okMinder hK x02).keep okMinder hk'' x04).keep okMinder (Keep.app [] _ G9) (by simp)).keep okMinder kF n_0
    have p1 := (((i1.keep hK x12).keep hk'' x14).keep (Keep.app [] _ G9) (by simp)).keep kF n_1
    have p2 := ((ho.keep hk'' (fun i hi hj => x24 i hj hi)).keep (Keep.app [] _ G9) (by simp)).keep kF n_2
    have p3 := (((i3.keep hK x23).keep hk'' x34).keep (Keep.app [] _ G9) (by simp)).keep kF n_3
    have p4 := o9.keep kF (fun i hi hj => by have := hf9 i hi; simp at hj; omega)
    have hIF : IsBox HF [.i .i64 x.id, .i .i64 x.ports, .i .i64 x.reg.epoch, .i .i64 x.reg.owner, .i .i64 x.reg.pair, q0, q1, .sl a2 x.gates.length, q3, .sl a9 (lastL (x.said ++ list)).length] (acceptB x list) (f0 ++ (f1 ++ (f2 ++ (f3 ++ f9)))) :=
      ⟨q0, q1, _, q3, _, f0, f1, f2, f3, f9, rfl, p0, p1, ⟨a2, by simp [acceptB, accGates_len], p2⟩, p3, ⟨a9, rfl, p4⟩, rfl,
        nodup_app n0.1 (nodup_app n1.1 (nodup_app n2.1 (nodup_app n3.1 o9.nodup fun i hi hj => by have := hlt3 i hi; have := hf9 i hj; omega) fun i hi hj => by
          rcases List.mem_append.1 hj with hj | hj
          · exact x23 i hj hi
          · have := hlt2 i hi; have := hf9 i hj; omega) fun i hi hj => by
          rcases List.mem_append.1 hj with hj | hj
          · exact x12 i hi hj
          · rcases List.mem_append.1 hj with hj | hj
            · exact n1.2.2 i hi i (by simp [hj]) rfl
            · have := hlt1 i hi; have := hf9 i hj; omega) fun i hi hj => by
          rcases List.mem_append.1 hj with hj | hj
          · exact n0.2.2 i hi i (by simp [hj]) rfl
          · rcases List.mem_append.1 hj with hj | hj
            · exact x02 i hi hj
            · rcases List.mem_append.1 hj with hj | hj
              · exact n0.2.2 i hi i (by simp [hj]) rfl
              · have := hlt0 i hi; have := hf9 i hj; omega⟩
    have hKF : Keep (id :: (f0 ++ (f1 ++ (f2 ++ (f3 ++ f4))))) H HF := by
      have a1 := hK.trans (h := id :: (f0 ++ (f1 ++ (f2 ++ (f3 ++ f4))))) hk'' (fun i hi _ => by simp [hi]) (fun i hi _ => by simp [hi])
      have a2 := a1.trans (h := id :: (f0 ++ (f1 ++ (f2 ++ (f3 ++ f4))))) (Keep.app [] H'' G9) (fun i hi _ => hi) (by simp)
      exact a2.trans (h := id :: (f0 ++ (f1 ++ (f2 ++ (f3 ++ f4))))) kF (fun i hi _ => hi) (fun i hi _ => by simp at hi; simp [hi])
    refine hQ _ _ _ (by simp) ?_
    simp [Tryz.f80]
    obtain ⟨fp2, z1, z2, z3, z4⟩ := leave_box hb0 hI0 bF hIF hKF (fun i hi => by
      rcases List.mem_append.1 hi with hi | hi
      · exact .inl (by simp [hi])
      · rcases List.mem_append.1 hi with hi | hi
        · exact .inl (by simp [hi])
        · rcases List.mem_append.1 hi with hi | hi
          · exact .inl (by simp [hi])
          · rcases List.mem_append.1 hi with hi | hi
            · exact .inl (by simp [hi])
            · exact .inr (by have := hf9 i hi; omega)) ([] : List W)
    exact ⟨_, z1, fp2, z2, by simpa using z3, by simpa using z4, rfl⟩

theorem acceptM {H : Heap} {id : Nat} {l : List Lf} {x : Box} {fp : List Nat} (hb : blkAt H id = some ⟨32, .wr, [l]⟩) (hI : IsBox H l x fp) (hid : id ∉ fp) (hn : x.sz ≤ 1048576) {a : Option (Nat × Nat)} {list : List Out} (hl : Sl H 62 a (list.map Out.enc))
    (hdj : ∀ i r, a = some (i, r) → list ≠ [] → i ∉ fp ∧ i ≠ id) (hln : list.length ≤ 1048576) :
    Runs env 80 [.ptr id 0 0, .w (.lf (.sl a list.length))] H fun v H' => v = .tup [] ∧ ∃ l' fp', blkAt H' id = some ⟨32, .wr, [l']⟩ ∧ IsBox H' l' (acceptB x list) fp' ∧ Keep (id :: fp) H H' ∧ (∀ i ∈ fp', i ∈ fp ∨ H.length ≤ i) := by
  refine (acceptMq hb hI hid hn hl hdj hln).mono ?_
  rintro _ _ ⟨rfl, l', fp', h1, h2, h3, h4, -⟩
  exact ⟨rfl, l', fp', h1, h2, h3, h4⟩

theorem implAccept_is {H : Heap} {l : List Lf} {x : Box} (h : RdBox H l x) (hn : x.sz ≤ 1048576) {q : Lf} {list : List Out} (hl : RdOutS H q list) (hln : list.length ≤ 1048576) (s : Int) (_ : I64 s) :
    Runs env 33 [.agg l, .int s, .w (.lf q)] H fun v H' => ∃ l' fp, v = .agg l' ∧ IsBox H' l' (accept x s list) fp ∧ Fresh H H' fp := by
  have hR := h
  obtain ⟨q0, q1, q2, q3, q4, rfl, ⟨a0, rws, rfl, hs, hlen, hat⟩, r1, r2, r3, r4⟩ := h
  obtain ⟨a, rfl, hsl⟩ := hl
  have hn0 := hn
  unfold Box.sz at hn
  have hl0 := MinderS.sz_len x.two
  refine Runs.walk ok33 Tryz.func33 rfl (by simp [Tryz.f33]) fun Q hQ => ?_
  simp only [Tryz.f33, strip, stripL, stripI, stripG, chkT, tagsB, tagsL, tagD, addT, tagA, lookN, tagOp, elmT, ty22, ty26, ty27, ty28, ty29, ty30, ty41, ty53, ty56, Nat.reduceEqDiff, if_false, reduceIte, Option.getD_some, Option.getD_none, dstAt, dstOk, Nat.reduceLT, decide_true, if_true]
  simp [Box.enc]
  refine stpL_runs (copyBox (hR.app _) hn0) ?_
  rintro _ _ ⟨l1, f1, rfl, o1, ⟨⟨G1, rfl⟩, hf1⟩⟩
  have hL1 := o1.len
  have hT1 : l1.take l1.length = l1 := List.take_length
  rw [hL1] at hT1
  have hlt1 := o1.lt
  have o1' := o1.app [some ⟨32, .wr, [l1]⟩]
  simp only [List.append_assoc, List.cons_append, List.nil_append, Box.enc] at o1'
  simp [hL1, hT1]
  obtain ⟨H3, hH3⟩ : ∃ H3 : Heap, H3 = H ++ some ⟨32, .wr, [[.i .i64 x.id, .i .i64 x.ports, .i .i64 x.reg.epoch, .i .i64 x.reg.owner, .i .i64 x.reg.pair, .sl a0 x.two.length, q1, q2, q3, q4]]⟩ :: some ⟨32, .wr, [[.i .i64 0, .i .i64 0, .i .i64 0, .i .i64 0, .i .i64 0, .sl none 0, .sl none 0, .sl none 0, .sl none 0, .sl none 0]]⟩ :: (G1 ++ [some ⟨32, .wr, [l1]⟩]) := ⟨_, rfl⟩
  have b1 : blkAt H3 H.length = some ⟨32, .wr, [[.i .i64 x.id, .i .i64 x.ports, .i .i64 x.reg.epoch, .i .i64 x.reg.owner, .i .i64 x.reg.pair, .sl a0 x.two.length, q1, q2, q3, q4]]⟩ := by rw [hH3]; simp
  have b2 : blkAt H3 (H.length + 1) = some ⟨32, .wr, [[.i .i64 0, .i .i64 0, .i .i64 0, .i .i64 0, .i .i64 0, .sl none 0, .sl none 0, .sl none 0, .sl none 0, .sl none 0]]⟩ := by rw [hH3]; simp
  obtain ⟨K7, hK7⟩ : ∃ K7, K7 = H.length + (G1.length + 2) := ⟨_, rfl⟩
  have b7 : blkAt H3 K7 = some ⟨32, .wr, [l1]⟩ := by rw [hH3, hK7]; simp
  have o3 : IsBox H3 l1 x f1 := by rw [hH3]; exact o1'
  have k03 : Keep [] H H3 := by rw [hH3]; exact Keep.app _ _ _
  have n7 : ∀ i ∈ f1, H.length + 2 ≤ i ∧ i < K7 := fun i hi => by have h1 := hf1 _ hi; have h2 := hlt1 _ hi; simp only [List.length_append, List.length_cons, List.length_nil] at h1 h2; omega
  have d1 := blkAt_len b1
  have d2 := blkAt_len b2
  have d7 := blkAt_len b7
  have hK7g : H.length + 2 ≤ K7 := by omega
  rw [← hH3, ← hK7]
  clear hH3 o1 o1' hf1 hlt1 hK7
  have fin : ∀ (HF : Heap) (tm : Ab.T) (l' : List Lf) (y : Box) (f' : List Nat), tm 6 = .ptr (H.length + 1) 0 0 → blkAt HF (H.length + 1) = some ⟨32, .wr, [l']⟩ → IsBox HF l' y f' → y = accept x s list → Keep [] H HF → (∀ i ∈ f', H.length ≤ i) → Q .ret tm HF := by
    intro HF tm l' y f' t6 hb4 ho4 hy hK hf
    have hL' := ho4.len
    have hT' : l'.take l'.length = l' := List.take_length
    rw [hL'] at hT'
    refine hQ _ _ _ (by simp) ?_
    have hres : resT env.τ tm HF (Tryz.f33.results.toList) = some [W.agg l'] := by simp [Tryz.f33, t6, hb4, hL', hT']
    rw [hres, optK_some, ← hy]
    obtain ⟨fp, h1, h2⟩ := ho4.leave (H := H) (ws := [W.agg l']) ⟨hK.ext, hf⟩ (by simp)
    exact ⟨_, fp, rfl, h1, h2⟩
  have no : mindsAt x s = false → ∀ tm : Ab.T, tm 6 = .ptr (H.length + 1) 0 0 → Q .ret tm (H3.set (H.length + 1) (some ⟨32, .wr, [l1]⟩)) := by
    intro hm tm t6
    refine fin _ _ l1 x f1 t6 (blkAt_set d2) (o3.keep (Keep.set _ _) (fun i hi hj => by have := n7 i hi; simp at hj; omega)) (by simp [accept, hm]) (k03.next (Keep.set _ _) (by simp)) (fun i hi => by have := n7 i hi; omega)
  have g : IntKind.i64.wrap ((x.two.length : Int) - 1) = (x.two.length : Int) - 1 := wrap64 (by omega) (by omega)
  simp [b1, d1, builtinV, pureB, lenV, g]
  by_cases hc : 0 ≤ s ∧ s ≤ (x.two.length : Int) - 1
  · obtain ⟨k, rfl⟩ : ∃ k : Nat, s = k := ⟨s.toNat, by omega⟩
    have hk : k < x.two.length := by omega
    have hri : k < rws.length := by omega
    obtain ⟨id2, r, bl, rfl, hbl, hbe, hrow⟩ := (hs.keep k03 (by simp)) k _ (List.getElem?_eq_getElem hri)
    have hid := blkAt_len hbl
    have he := (hat k _ _ (List.getElem?_eq_getElem hri) (List.getElem?_eq_getElem hk)).base k03
    have hL := he.len
    have hT : rws[k].take rws[k].length = rws[k] := List.take_length
    rw [hL] at hT
    have hszi := MinderS.sz_at (List.getElem_mem hk)
    have e1 := implMinds_is he (by omega) x.reg (k : Int) ⟨by omega, by omega⟩
    simp only [Reg.enc] at e1
    have hkl : (k : Int) ≤ (x.two.length : Int) - 1 := by omega
    have hm : mindsAt x k = minds x.reg k x.two[k] := by
      unfold mindsAt
      simp [hkl, List.getD, List.getElem?_eq_getElem hk]
    simp [inRange, hkl, b1, d1, indexAddrV, elemIs, hid, hbl, hbe, hk, hrow, hL, hT, e1]
    rw [← hm]
    cases hmm : mindsAt x k
    · simp [b2, b7, d2, d7, hL1, hT1]
      exact no hmm _ (by simp)
    · simp
      refine stpL_runs (acceptM b7 o3 (fun hi => by have := n7 _ hi; omega) hn0 (hsl.keep k03 (by simp)) ?_ hln) ?_
      · intro i r ha hne
        have := Sl.len (by rw [ha] at hsl; exact hsl) (by simpa using hne)
        exact ⟨fun hi => by have := n7 i hi; omega, by omega⟩
      rintro _ H4 ⟨rfl, l4, f4, b74, o4, k4, hf4⟩
      have hL4 := o4.len
      have hT4 : l4.take l4.length = l4 := List.take_length
      rw [hL4] at hT4
      have b24 := k4.blk b2 (by simp; exact ⟨by omega, fun hi => by have := n7 _ hi; omega⟩)
      have d24 := blkAt_len b24
      have d74 := blkAt_len b74
      have h34 := k03.1
      have hge : ∀ i ∈ f4, H.length + 2 ≤ i := fun i hi => by
        rcases hf4 i hi with h | h
        · exact (n7 i h).1
        · omega
      simp [b24, b74, d24, d74, hL4, hT4]
      refine fin _ _ l4 (acceptB x list) f4 (by simp) (blkAt_set d24) (o4.keep (Keep.set _ _) (fun i hi hj => by have := hge i hi; simp at hj; omega)) (by simp [accept, hmm]) ((k03.next k4 (fun i hi => by
        rcases List.mem_cons.1 hi with rfl | hi
        · omega
        · have := n7 i hi; omega)).next (Keep.set _ _) (by simp)) (fun i hi => by have := hge i hi; omega)
  · have hcf : (decide (0 ≤ s) && decide (s ≤ (x.two.length : Int) - 1)) = false := by
      rw [Bool.and_eq_false_iff]; simp; omega
    simp [inRange, hcf, b2, b7, d2, d7, hL1, hT1]
    exact no (by simp [mindsAt, hcf]) _ (by simp)
end W
end Go.Proofs.YtfhaanknijlamaaGreat
