/- The functions that this law reaches: what each computes. Conditions: those that each theorem names. -/
import Derived.Test.YtjgjjaidpceieaaWalkNets
set_option maxRecDepth 100000
set_option maxHeartbeats 4000000
set_option linter.unusedSimpArgs false
set_option linter.unusedVariables false
set_option linter.unnecessarySimpa false
namespace Go.Proofs.Ytjgjjaidpceieaa
open Go Go.Ab Go.ChangeShapes Go.WideShapes Go.ChangeAt Go.RowKit
namespace W
theorem leave_both (H H' : Heap) (ws : List W) : leave H H' ws = H' ∨ (leave H H' ws = H ∧ ws.all W.free = true ∧ ∃ G, H' = H ++ G) := by
  unfold leave
  split
  · rename_i h
    refine .inr ⟨rfl, h.1, H'.drop H.length, ?_⟩
    have := List.take_append_drop H.length H'
    rw [h.2] at this
    exact this.symm
  · exact .inl rfl
theorem grow_next {H2 H' H'' T : Heap} {fp' fp'' : List Nat} (hK : Keep [] H2 H') (hf : ∀ j ∈ fp', H2.length ≤ j) (hk : Keep fp' (H' ++ T) H'') (h : ∀ j ∈ fp'', j ∈ fp' ∨ (H' ++ T).length ≤ j) : Keep [] H2 H'' ∧ ∀ j ∈ fp'', H2.length ≤ j := by
  have h1 := hK.1
  refine ⟨(Keep.trans (h := []) hK (Keep.app [] H' T) (by simp) (by simp)).next hk hf, fun j hj => ?_⟩
  rcases h j hj with h2 | h2
  · exact hf j h2
  · rw [List.length_append] at h2; omega
theorem keep_more0 {H H' : Heap} (h : Keep [] H H') (T : Heap) : Keep [] H (H' ++ T) := Keep.trans (h := []) h (Keep.app [] _ _) (by simp) (by simp)

def upPort : Port := ⟨true, false, ⟨0, 0, 0, 0⟩, 0, 0, 3, 0, false⟩
def inB (b : Bridge) (x : In) : Bridge := if x.kind = 1 then ⟨b.id, b.ports.set x.port.toNat (claimP (b.ports.getD x.port.toNat default) x.vec x.hops)⟩ else if x.kind = 2 then tickB b else ⟨b.id, b.ports.set x.port.toNat (if x.up = true then upPort else Port.zv)⟩
/-- A link that is as it was: nothing turns. -/
def quiet (b : Bridge) (x : In) : Prop := x.kind = 3 ∧ (b.ports.getD x.port.toNat default).up = x.up
instance (b : Bridge) (x : In) : Decidable (quiet b x) := inferInstanceAs (Decidable (_ ∧ _))
def nextB (b : Bridge) (x : In) : Bridge := if quiet b x then b else decideB (inB b x)
theorem inB_id (b : Bridge) (x : In) : (inB b x).id = b.id := by unfold inB; split <;> (try split) <;> rfl
theorem inB_len (b : Bridge) (x : In) : (inB b x).ports.length = b.ports.length := by unfold inB; split <;> (try split) <;> simp [tickB]
theorem set_ok {b : Bridge} (h : b.ok = true) {k : Nat} {p : Port} (hp : p.ok = true) : (⟨b.id, b.ports.set k p⟩ : Bridge).ok = true := by
  obtain ⟨h1, h2⟩ := Bridge.ok_all h
  refine Bridge.ok_of (fun q hq => ?_) (by simpa using h2)
  rcases List.mem_or_eq_of_mem_set hq with hq | rfl
  · exact h1 _ hq
  · exact hp
theorem upPort_ok : upPort.ok = true := by decide
theorem zv_ok : Port.zv.ok = true := by decide
theorem inB_ok {b : Bridge} {x : In} (h : b.ok = true) (hk : x.port.toNat < b.ports.length) : (inB b x).ok = true := by
  unfold inB
  split
  · refine set_ok h (claimP_ok _ _ ?_)
    simp only [List.getD, List.getElem?_eq_getElem hk, Option.getD_some]
    exact Bridge.ok_at h hk
  · split
    · exact tickB_ok h
    · refine set_ok h ?_
      split
      · exact upPort_ok
      · exact zv_ok
theorem nextB_ok {b : Bridge} {x : In} (h : b.ok = true) (hk : x.port.toNat < b.ports.length) : (nextB b x).ok = true := by
  unfold nextB
  split
  · exact h
  · exact decideB_ok (inB_ok h hk)
theorem nextB_id (b : Bridge) (x : In) : (nextB b x).id = b.id := by
  unfold nextB; split
  · rfl
  · simp [decideB, inB_id]
theorem nextB_len (b : Bridge) (x : In) : (nextB b x).ports.length = b.ports.length := by
  unfold nextB; split
  · rfl
  · simp [decideB, inB_len]
theorem In.ok_kind {x : In} (h : x.ok = true) : (x.kind = 1 ∨ x.kind = 2 ∨ x.kind = 3) ∧ 0 ≤ x.port ∧ x.port ≤ 3 := by
  unfold In.ok at h
  split at h
  · rename_i h1
    simp at h
    exact ⟨.inl h1, h.1.1.1⟩
  · split at h
    · rename_i h1
      simp at h
      exact ⟨.inr (.inr h1), h.1.1⟩
    · simp at h
      rw [h]
      decide

theorem l8InM {H : Heap} {l : List Lf} {b : Bridge} {fp : List Nat} (h : IsBridge H l b fp) (hok : b.ok = true) (x : In) (hx : x.ok = true) {k : Nat} (hk : x.port = k) (hkl : k < b.ports.length) :
    Runs env 103 [.agg l, .agg x.enc] H fun v H' => ∃ l' fp', v = .agg l' ∧ IsBridge H' l' (nextB b x) fp' ∧ Keep fp H H' ∧ (∀ i ∈ fp', i ∈ fp ∨ H.length ≤ i) := by
  obtain ⟨hpok, -, -, hl1, hl4⟩ := Bridge.ok_all hok
  have hlt := h.lt
  obtain ⟨a, rfl, ho⟩ := h
  obtain ⟨pid, pb, rfl, rfl, hpb, hpe, hpm, hpre⟩ := ho.blk (by intro h; have := congrArg List.length h; simp only [List.length_map, List.length_nil] at this; omega)
  have hxk := (In.ok_kind hx).1
  have hkT : x.port.toNat = k := by omega
  have hgd : b.ports.getD x.port.toNat default = b.ports[k] := by rw [hkT]; simp [List.getD, List.getElem?_eq_getElem hkl]
  have hkl2 : (k : Int) < (b.ports.length : Int) := by omega
  have hpl := blkAt_len hpb
  obtain ⟨t, ht⟩ := hpre
  have hrw0 : pb.rows[k]? = some b.ports[k].enc := by
    rw [← ht, List.getElem?_append_left (by simp; omega), List.getElem?_map, List.getElem?_eq_getElem hkl]; rfl
  obtain ⟨hrl, hrw⟩ := List.getElem?_eq_some_iff.1 hrw0
  refine Runs.walk ok103 Try.func103 rfl (by simp [Try.f103]) fun Q hQ => ?_
  simp only [Try.f103, strip, stripL, stripI, stripG, chkT, tagsB, tagsL, tagD, addT, tagA, lookN, tagOp, elmT, ty22, ty24, ty25, ty33, ty54, ty58, ty95, ty122, Nat.reduceEqDiff, if_false, reduceIte, Option.getD_some, Option.getD_none, dstAt, dstOk, Nat.reduceLT, decide_true, if_true]
  simp [Bridge.enc, In.enc]
  obtain ⟨H3, hH3⟩ : ∃ H3 : Heap, H3 = H ++ [some ⟨56, .wr, [[.i .i64 b.id, .sl (some (pid, 0)) b.ports.length]]⟩, some ⟨62, .wr, [[.i .i64 x.kind, .i .i64 x.port, .i .i64 x.vec.root, .i .i64 x.vec.cost, .i .i64 x.vec.bridge, .i .i64 x.vec.port, .i .i64 x.hops, .b x.up]]⟩, some ⟨56, .wr, [[.i .i64 0, .sl none 0]]⟩] := ⟨_, rfl⟩
  have b1 : blkAt H3 H.length = some ⟨56, .wr, [[.i .i64 b.id, .sl (some (pid, 0)) b.ports.length]]⟩ := by rw [hH3]; simp
  have b2 : blkAt H3 (H.length + 1) = some ⟨62, .wr, [[.i .i64 x.kind, .i .i64 x.port, .i .i64 x.vec.root, .i .i64 x.vec.cost, .i .i64 x.vec.bridge, .i .i64 x.vec.port, .i .i64 x.hops, .b x.up]]⟩ := by rw [hH3]; simp
  have b3 : blkAt H3 (H.length + 2) = some ⟨56, .wr, [[.i .i64 0, .sl none 0]]⟩ := by rw [hH3]; simp
  have o3 : Own H3 87 (some (pid, 0)) (b.ports.map Port.enc) [pid] := by rw [hH3]; exact ho.app _
  have p3 : blkAt H3 pid = some pb := by rw [hH3]; exact blkAt_app hpb _
  have k03 : Keep [] H H3 := by rw [hH3]; exact Keep.app _ _ _
  have hl3 : H3.length = H.length + 3 := by rw [hH3]; simp
  rw [← hH3]
  clear hH3
  have n1 : H.length ∉ [pid] := by simp; omega
  have n3 : H.length + 2 ∉ [pid] := by simp; omega
  have d1 := blkAt_len b1
  have d2 := blkAt_len b2
  have dp := blkAt_len p3
  obtain ⟨p, hp⟩ : ∃ p, p = b.ports[k] := ⟨_, rfl⟩
  rw [← hp] at hrw hgd
  have fin : ∀ (Hf : Heap) (tm : Ab.T) (c : Bridge) (pid2 : Nat) (fp2 : List Nat), tm 4 = .ptr (H.length + 2) 0 0 → blkAt Hf (H.length + 2) = some ⟨56, .wr, [[.i .i64 c.id, .sl (some (pid2, 0)) c.ports.length]]⟩ → Own Hf 87 (some (pid2, 0)) (c.ports.map Port.enc) fp2 → c = nextB b x → Keep [pid] H Hf → (∀ i ∈ fp2, i ∈ [pid] ∨ H.length ≤ i) → Q .ret tm Hf := by
    intro Hf tm c pid2 fp2 t4 hb4 ho4 hc hK hfp
    refine hQ _ _ _ (by simp) ?_
    have hlv : leave H Hf [W.agg [.i .i64 c.id, .sl (some (pid2, 0)) c.ports.length]] = Hf := by simp [leave, refFree]
    simp [Try.f103, t4, hb4, hlv]
    exact ⟨fp2, ⟨some (pid2, 0), by rw [hc]; rfl, by rw [← hc]; exact ho4⟩, hK, by simpa using hfp⟩
  refine selS_cut (f1 := [.blk 0]) (fun tm H' => ¬ quiet b x ∧ tm 2 = .ptr H.length 0 0 ∧ tm 4 = .ptr (H.length + 2) 0 0 ∧ Own H' 87 (some (pid, 0)) ((inB b x).ports.map Port.enc) [pid] ∧ Keep [pid] H3 H') ?_ ?_
  · intro Q' hn' he' hr'
    rcases hxk with hx1 | hx2 | hx3
    · have eC : ∀ H, run env 123 [.agg [.b p.up, .b p.has, .i .i64 p.vec.root, .i .i64 p.vec.cost, .i .i64 p.vec.bridge, .i .i64 p.vec.port, .i .i64 p.hops, .i .i64 p.left, .i .i64 p.role, .i .i64 p.wait, .b p.opn], .agg [.i .i64 x.vec.root, .i .i64 x.vec.cost, .i .i64 x.vec.bridge, .i .i64 x.vec.port], .int x.hops] H = some (.agg (claimP p x.vec x.hops).enc, H) := fun H => specClaim H p x.vec x.hops
      rw [hx1] at b2 ⊢
      simp [b1, b2, d1, d2, hk, indexAddrV, elemIs, dp, p3, hpe, hpm, hkl2, hkl, hrl, hrw, Port.enc, eC]
      refine hn' _ _ ⟨by unfold quiet; omega, by simp, by simp, ?_, Keep.set _ _⟩
      have := o3.set (row := (claimP p x.vec x.hops).enc) p3 (i := k) (by simp; omega)
      rw [hpm, hpe] at this
      unfold inB
      rw [if_pos hx1, hgd, hkT, List.map_set]
      exact this
    · rw [hx2] at b2 ⊢
      simp [b1, b2, d1, d2]
      refine wpS_loop (fun j tm H' => ∃ i, i + j = b.ports.length ∧ tm 2 = .ptr H.length 0 0 ∧ tm 4 = .ptr (H.length + 2) 0 0 ∧ tm 5 = .int i ∧ Own H' 87 (some (pid, 0)) ((mixL (fun _ p => tickP p) b.ports i).map Port.enc) [pid] ∧ Keep [pid] H3 H') b.ports.length (by rw [env_K]; omega) ⟨0, by simp, by simp, by simp, by simp, by rw [mixL_zero]; exact o3, Keep.refl _ _⟩ ?_
      rintro j tm H1 hj ⟨i, hij, t2, t4, t5, ho1, hk1⟩ Q2 hn2 he2 hr2
      have c1 := hk1.blk b1 n1
      have e1 := blkAt_len c1
      simp [t2, t4, t5, c1, e1, builtinV, pureB, lenV]
      refine selS_intro (fun hc => ?_) (fun hc => ?_)
      · simp at hc
        obtain ⟨pid', qb, hxx, -, hqb, hqe, hqm, hpre'⟩ := ho1.blk (by intro h; have := congrArg List.length h; simp only [List.length_map, mixL_len, List.length_nil] at this; omega)
        cases hxx
        have hql := blkAt_len hqb
        obtain ⟨t', ht'⟩ := hpre'
        have hrw1 : qb.rows[i]? = some b.ports[i].enc := by
          rw [← ht', List.getElem?_append_left (by simp; omega), List.getElem?_map, mixL_at _ _ (Nat.le_refl _), List.getElem?_eq_getElem hc]; rfl
        obtain ⟨hrl1, hrw1⟩ := List.getElem?_eq_some_iff.1 hrw1
        have g4 : IntKind.i64.wrap ((i : Int) + 1) = (i : Int) + 1 := wrap64 (by omega) (by omega)
        have eT := fun H => l8Tick H b.ports[i] (hpok _ (List.getElem_mem hc))
        simp [t2, t4, t5, c1, e1, indexAddrV, elemIs, hql, hqb, hqe, hqm, hc, hrl1, hrw1, eT, g4]
        refine hn2 (j - 1) _ _ (by omega) ⟨i + 1, by omega, by simp [t2], by simp [t4], by simp, ?_, hk1.trans (h := [pid]) (Keep.set _ _) (by simp) (by simp)⟩
        have := ho1.set (row := (tickP b.ports[i]).enc) hqb (i := i) (by simp; omega)
        rw [hqm, hqe] at this
        rw [← mixL_step _ _ hc, List.map_set]
        exact this
      · simp at hc
        obtain rfl : i = b.ports.length := by omega
        simp [t2, t4, t5]
        refine he2 _ _ _ ?_
        simp
        refine hn' _ _ ⟨by unfold quiet; omega, by simp [t2], by simp [t4], ?_, hk1⟩
        rw [mixL_all _ _ (Nat.le_refl _)] at ho1
        unfold inB
        rw [if_neg (by omega), if_pos hx2]
        exact ho1
    · rw [hx3] at b2 ⊢
      simp [b1, b2, d1, d2, hk, indexAddrV, elemIs, dp, p3, hpe, hpm, hkl2, hkl, hrl, hrw, Port.enc]
      by_cases hup : p.up = x.up
      · have hq : quiet b x := ⟨hx3, by rw [hgd]; exact hup⟩
        have b4 := blkAt_len b3
        simp [hup, b1, b3, d1, b4]
        refine hr' _ _ ?_
        simp
        refine fin _ _ b pid [pid] (by simp) (by rw [blkAt_set b4]) (o3.keep (Keep.set _ _) (by simp; omega)) (by rw [nextB, if_pos hq]) ?_ (by simp)
        exact (k03.trans (h := [pid]) (Keep.set _ _) (by simp) (by simp; omega))
      · have hq : ¬ quiet b x := fun h => hup (by have := h.2; rwa [hgd] at this)
        simp [hup, b1, b2, d1, d2, hk, indexAddrV, elemIs, dp, p3, hpe, hpm, hkl2, hkl, hrl, hrw, Port.enc]
        have hset : ∀ q : Port, q = (if x.up = true then upPort else Port.zv) → Own (H3.set pid (some ⟨87, .wr, pb.rows.set k q.enc⟩)) 87 (some (pid, 0)) ((inB b x).ports.map Port.enc) [pid] := by
          intro q hq2
          have := o3.set (row := q.enc) p3 (i := k) (by simp; omega)
          rw [hpm, hpe] at this
          unfold inB
          rw [if_neg (by omega), if_neg (by omega), hkT, List.map_set, ← hq2]
          exact this
        have b1' := fun y => (Keep.set (id := pid) H3 y).blk b1 n1
        have b2' := fun y => (Keep.set (id := pid) H3 y).blk b2 (by simp; omega)
        cases hxu : x.up
        · rw [hxu] at b2' hset
          simp [b1', b2', d1, d2]
          refine hn' _ _ ⟨hq, by simp, by simp, ?_, Keep.set _ _⟩
          have := hset Port.zv (by simp)
          simpa [Port.enc] using this
        · rw [hxu] at b2' hset
          simp [b1', b2', d1, d2, dp, hpe, hpm, blkAt_set dp, indexAddrV, elemIs, hkl2, hkl, hrl, hk]
          refine hn' _ _ ⟨hq, by simp, by simp, ?_, Keep.set _ _⟩
          have := hset upPort (by simp)
          simpa [Port.enc, upPort] using this
  · rintro tm H1 ⟨hnq, t2, t4, ho1, hk1⟩
    have c1 := hk1.blk b1 n1
    have c3 := hk1.blk b3 n3
    have e1 := blkAt_len c1
    have e3 := blkAt_len c3
    have hR : RdBridge H1 [.i .i64 b.id, .sl (some (pid, 0)) b.ports.length] (inB b x) := ⟨some (pid, 0), by simp [Bridge.enc, inB_id, inB_len], ho1.sl⟩
    simp [t2, t4, c1, e1]
    refine stpL_runs (specDecide hR (inB_ok hok (by omega))) ?_
    rintro _ _ ⟨_, f2, rfl, ⟨a2, rfl, o2⟩, ⟨⟨G2, rfl⟩, hf2⟩⟩
    have hlen2 : (decideB (inB b x)).ports.length = b.ports.length := by simp [decideB, inB_len]
    obtain ⟨pid2, pb2, rfl, rfl, hpb2, -⟩ := o2.blk (by intro h; have := congrArg List.length h; simp only [List.length_map, List.length_nil] at this; omega)
    simp [Bridge.enc, t4, c3, e3]
    have e3' : H.length + 2 < (H1.set (H.length + 2) (some ⟨56, .wr, [[.i .i64 (decideB (inB b x)).id, .sl (some (pid2, 0)) (decideB (inB b x)).ports.length]]⟩)).length := by simp; exact e3
    have h13 := hk1.1
    have hp2 := hf2 pid2 (by simp)
    refine fin _ _ (decideB (inB b x)) pid2 [pid2] (by simp [t4]) ?_ ?_ (by rw [nextB, if_neg hnq]) ?_ (by simp; omega)
    · rw [blkAt_lt e3', blkAt_set e3]
    · have := o2.keep (Keep.set (id := H.length + 2) (H1 ++ G2) (some ⟨56, .wr, [[.i .i64 (decideB (inB b x)).id, .sl (some (pid2, 0)) (decideB (inB b x)).ports.length]]⟩)) (by simp; omega)
      rwa [set_lt e3] at this
    · have ha : Keep [pid] H H1 := k03.trans (h := [pid]) hk1 (by simp) (by simp)
      have hb : Keep [pid] H (H1 ++ G2) := ha.trans (h := [pid]) (Keep.app [] _ _) (by simp) (by simp)
      have := hb.trans (h := [pid]) (Keep.set (id := H.length + 2) (H1 ++ G2) (some ⟨56, .wr, [[.i .i64 (decideB (inB b x)).id, .sl (some (pid2, 0)) (decideB (inB b x)).ports.length]]⟩)) (by simp) (by simp; omega)
      rwa [set_lt e3] at this

def gateAt (b c : Bridge) (i : Nat) : List Out := match b.ports[i]?, c.ports[i]? with
  | some p, some q => if q.opn = p.opn then [] else [⟨2, i, ⟨0, 0, 0, 0⟩, 0, q.opn⟩]
  | _, _ => []
def claimAt (c : Bridge) (i : Nat) : List Out := match c.ports[i]? with
  | some q => if q.role = 2 then [⟨1, i, ownV c i, hopsB c, false⟩] else []
  | none => []
theorem gateAt_len (b c : Bridge) (i : Nat) : (gateAt b c i).length ≤ 1 := by
  unfold gateAt; split
  · split <;> simp
  · simp
theorem claimAt_len (c : Bridge) (i : Nat) : (claimAt c i).length ≤ 1 := by
  unfold claimAt; split
  · split <;> simp
  · simp
theorem gateAt_same (b : Bridge) : ∀ i, upto (gateAt b b) i = []
  | 0 => rfl
  | i + 1 => by
    rw [upto, gateAt_same b i]
    unfold gateAt
    cases b.ports[i]? <;> simp
def outsB (b c : Bridge) (x : In) : List Out := upto (gateAt b c) b.ports.length ++ (if x.kind = 2 then upto (claimAt c) b.ports.length else [])
def reactB (b : Bridge) (x : In) : Bridge × List Out := if (b.ok && x.ok && decide (x.port < b.ports.length)) = true then (nextB b x, outsB b (nextB b x) x) else (b, [])
theorem reactB_yes {b : Bridge} {x : In} (h1 : b.ok = true) (h2 : x.ok = true) (h3 : x.port < b.ports.length) : reactB b x = (nextB b x, outsB b (nextB b x) x) := by simp [reactB, h1, h2, h3]
theorem reactB_no {b : Bridge} {x : In} (h : ¬ (b.ok = true ∧ x.ok = true ∧ x.port < b.ports.length)) : reactB b x = (b, []) := by
  unfold reactB
  rw [if_neg]
  simp
  intro h1 h2
  exact Int.not_lt.1 fun h3 => h ⟨h1, h2, h3⟩
theorem quiet_outs {b : Bridge} {x : In} (h : quiet b x) : outsB b (nextB b x) x = [] := by
  unfold outsB nextB
  rw [if_pos h, gateAt_same, if_neg (by rw [h.1]; decide)]
  rfl
theorem outsB_len (b c : Bridge) (x : In) : (outsB b c x).length ≤ 2 * b.ports.length := by
  unfold outsB
  have h1 := upto_len (gateAt_len b c) b.ports.length
  have h2 := upto_len (claimAt_len c) b.ports.length
  rw [List.length_append]
  split
  · omega
  · simp; omega
theorem reactB_id (b : Bridge) (x : In) : (reactB b x).1.id = b.id := by
  unfold reactB; split
  · exact nextB_id b x
  · rfl
theorem reactB_len (b : Bridge) (x : In) : (reactB b x).1.ports.length = b.ports.length := by
  unfold reactB; split
  · exact nextB_len b x
  · rfl
theorem reactB_outs (b : Bridge) (x : In) : (reactB b x).2.length ≤ 2 * b.ports.length := by
  unfold reactB; split
  · exact outsB_len _ _ _
  · simp
theorem reactB_ok {b : Bridge} (x : In) (h : b.ok = true) : (reactB b x).1.ok = true := by
  unfold reactB; split
  · rename_i h1
    simp at h1
    have := (In.ok_kind h1.1.2).2
    exact nextB_ok h (by omega)
  · exact h

theorem reactM {H : Heap} {id ro : Nat} {blo : Blk} {b : Bridge} {a : Option (Nat × Nat)} {fp : List Nat} (hb : blkAt H id = some blo) (hbe0 : blo.elem = 56) (hrow0 : blo.rows[ro]? = some (b.enc a)) (ho : Own H 87 a (b.ports.map Port.enc) fp) (hidf : id ∉ fp) (hok : b.ok = true) (x : In) (hx : x.ok = true) {k : Nat} (hk : x.port = k) (hkl : k < b.ports.length) :
    Runs env 62 [.ptr id ro 0, .agg x.enc] H fun v H' => ∃ q fp2, v = .w (.lf q) ∧ IsOutS H' q (outsB b (nextB b x) x) fp2 ∧ Own H' 87 a ((nextB b x).ports.map Port.enc) fp ∧ Keep fp H H' ∧ (∀ i ∈ fp2, H.length ≤ i) := by
  obtain ⟨hpok, -, -, hl1, hl4⟩ := Bridge.ok_all hok
  obtain ⟨pid, pb, rfl, rfl, hpb, hpe, hpm, hpre⟩ := ho.blk (by intro h; have := congrArg List.length h; simp only [List.length_map, List.length_nil] at this; omega)
  have hxk := (In.ok_kind hx).1
  have hkT : x.port.toNat = k := by omega
  have hgd : b.ports.getD x.port.toNat default = b.ports[k] := by rw [hkT]; simp [List.getD, List.getElem?_eq_getElem hkl]
  have hkl2 : (k : Int) < (b.ports.length : Int) := by omega
  have hpl := blkAt_len hpb
  have hid0 := blkAt_len hb
  obtain ⟨t, ht⟩ := hpre
  have hrw0 : pb.rows[k]? = some b.ports[k].enc := by
    rw [← ht, List.getElem?_append_left (by simp; omega), List.getElem?_map, List.getElem?_eq_getElem hkl]; rfl
  obtain ⟨hrl, hrw⟩ := List.getElem?_eq_some_iff.1 hrw0
  have hrowE := hrow0
  simp only [Bridge.enc] at hrow0
  refine Runs.walk ok62 Try.func62 rfl (by simp [Try.f62]) fun Q hQ => ?_
  simp only [Try.f62, strip, stripL, stripI, stripG, chkT, tagsB, tagsL, tagD, addT, tagA, lookN, tagOp, elmT, ty22, ty24, ty25, ty33, ty54, ty58, ty95, ty122, Nat.reduceEqDiff, if_false, reduceIte, Option.getD_some, Option.getD_none, dstAt, dstOk, Nat.reduceLT, decide_true, if_true]
  simp [hb, hid0, hbe0, hrow0, In.enc]
  refine stpL_runs (clonePortS (q := .sl (some (pid, 0)) b.ports.length) ⟨some (pid, 0), rfl, ho.sl.app _⟩ (by omega)) ?_
  rintro _ _ ⟨_, f2, rfl, ⟨aw, rfl, ow⟩, ⟨⟨G1, rfl⟩, hf2⟩⟩
  simp only [List.append_assoc, List.cons_append, List.nil_append] at ow
  simp only [List.append_assoc, List.cons_append, List.nil_append]
  obtain ⟨H3, hH3⟩ : ∃ H3 : Heap, H3 = H ++ some ⟨62, .wr, [[.i .i64 x.kind, .i .i64 x.port, .i .i64 x.vec.root, .i .i64 x.vec.cost, .i .i64 x.vec.bridge, .i .i64 x.vec.port, .i .i64 x.hops, .b x.up]]⟩ :: G1 := ⟨_, rfl⟩
  have b2 : blkAt H3 H.length = some ⟨62, .wr, [[.i .i64 x.kind, .i .i64 x.port, .i .i64 x.vec.root, .i .i64 x.vec.cost, .i .i64 x.vec.bridge, .i .i64 x.vec.port, .i .i64 x.hops, .b x.up]]⟩ := by rw [hH3]; simp
  have o3 : Own H3 87 (some (pid, 0)) (b.ports.map Port.enc) [pid] := by rw [hH3]; exact ho.app _
  have p3 : blkAt H3 pid = some pb := by rw [hH3]; exact blkAt_app hpb _
  have hb3 : blkAt H3 id = some blo := by rw [hH3]; exact blkAt_app hb _
  have k03 : Keep [] H H3 := by rw [hH3]; exact Keep.app _ _ _
  rw [← hH3] at ow ⊢
  clear hH3
  have d2 := blkAt_len b2
  have dp := blkAt_len p3
  have db := blkAt_len hb3
  have hw0 := ow.sl
  have hf2' : ∀ i ∈ f2, i ∉ [pid] := fun i hi => by have := hf2 i hi; simp only [List.length_append, List.length_cons, List.length_nil] at this; simp; omega
  have hnp : H.length ∉ [pid] := by simp; omega
  have hpid : id ≠ pid := by simpa using hidf
  obtain ⟨p, hp⟩ : ∃ p, p = b.ports[k] := ⟨_, rfl⟩
  rw [← hp] at hrw hgd
  have fin : ∀ (Hf : Heap) (tm : Ab.T) (q : Lf) (fp2 : List Nat), tm 4 = .w (.lf q) → IsOutS Hf q (outsB b (nextB b x) x) fp2 → Own Hf 87 (some (pid, 0)) ((nextB b x).ports.map Port.enc) [pid] → Keep [pid] H Hf → (∀ i ∈ fp2, H.length ≤ i) → Q .ret tm Hf := by
    intro Hf tm q fp2 t4 hq ho4 hK hfp
    refine hQ _ _ _ (by simp) ?_
    simp [Try.f62, t4]
    rcases leave_both H Hf [W.lf q] with e | ⟨e, hfr, G, rfl⟩ <;> rw [e]
    · exact ⟨fp2, hq, ho4, hK, hfp⟩
    · exact ⟨[], hq.free (by simpa using hfr) H, ho4.unapp (by simpa using hpl), Keep.refl _ _, by simp⟩
  simp [hb3, db, hbe0, hrow0, hpid, b2, d2, indexAddrV, elemIs, dp, p3, hpe, hkl2, hk]
  refine selS_cut (f1 := [.blk 0]) (fun tm H' => ¬ quiet b x ∧ tm 0 = .ptr id ro 0 ∧ tm 3 = .ptr H.length 0 0 ∧ tm 5 = .w (.lf (.sl aw b.ports.length)) ∧ Own H' 87 (some (pid, 0)) ((inB b x).ports.map Port.enc) [pid] ∧ Keep [pid] H3 H') ?_ ?_
  · intro Q' hn' he' hr'
    rcases hxk with hx1 | hx2 | hx3
    · have eC : ∀ H, run env 97 [.agg [.b p.up, .b p.has, .i .i64 p.vec.root, .i .i64 p.vec.cost, .i .i64 p.vec.bridge, .i .i64 p.vec.port, .i .i64 p.hops, .i .i64 p.left, .i .i64 p.role, .i .i64 p.wait, .b p.opn], .agg [.i .i64 x.vec.root, .i .i64 x.vec.cost, .i .i64 x.vec.bridge, .i .i64 x.vec.port], .int x.hops] H = some (.agg (claimP p x.vec x.hops).enc, H) := fun H => implClaim H p x.vec x.hops
      rw [hx1] at b2 ⊢
      simp [b2, d2, hk, indexAddrV, elemIs, dp, p3, hpe, hpm, hkl2, hkl, hrl, hrw, Port.enc, eC]
      refine hn' _ _ ⟨by unfold quiet; omega, by simp, by simp, by simp, ?_, Keep.set _ _⟩
      have := o3.set (row := (claimP p x.vec x.hops).enc) p3 (i := k) (by simp; omega)
      rw [hpm, hpe] at this
      unfold inB
      rw [if_pos hx1, hgd, hkT, List.map_set]
      exact this
    · rw [hx2] at b2 ⊢
      simp
      refine stpL_runs (tickM hb3 hbe0 hrowE o3 (by simpa using hpid) hok) ?_
      rintro _ H4 ⟨rfl, o4, k4⟩
      simp
      refine hn' _ _ ⟨by unfold quiet; omega, by simp, by simp, by simp, ?_, k4⟩
      unfold inB
      rw [if_neg (by omega), if_pos hx2]
      exact o4
    · rw [hx3] at b2 ⊢
      simp [b2, d2, hk, indexAddrV, elemIs, dp, p3, hpe, hpm, hkl2, hkl, hrl, hrw, Port.enc]
      by_cases hup : p.up = x.up
      · have hq : quiet b x := ⟨hx3, by rw [hgd]; exact hup⟩
        simp [hup]
        refine hr' _ _ ?_
        simp
        refine fin _ _ _ [] (by simp; rfl) ?_ ?_ (k03.trans (h := [pid]) (Keep.refl [] _) (by simp) (by simp)) (by simp)
        · rw [quiet_outs hq]
          exact ⟨none, rfl, Own.nil _ _⟩
        · rw [nextB, if_pos hq]; exact o3
      · have hq : ¬ quiet b x := fun h => hup (by have := h.2; rwa [hgd] at this)
        simp [hup, b2, d2, hk, indexAddrV, elemIs, dp, p3, hpe, hpm, hkl2, hkl, hrl, hrw, Port.enc]
        have hset : ∀ q : Port, q = (if x.up = true then upPort else Port.zv) → Own (H3.set pid (some ⟨87, .wr, pb.rows.set k q.enc⟩)) 87 (some (pid, 0)) ((inB b x).ports.map Port.enc) [pid] := by
          intro q hq2
          have := o3.set (row := q.enc) p3 (i := k) (by simp; omega)
          rw [hpm, hpe] at this
          unfold inB
          rw [if_neg (by omega), if_neg (by omega), hkT, List.map_set, ← hq2]
          exact this
        have b2' := fun y => (Keep.set (id := pid) H3 y).blk b2 hnp
        cases hxu : x.up
        · rw [hxu] at b2' hset
          simp [b2', d2]
          refine hn' _ _ ⟨hq, by simp, by simp, by simp, ?_, Keep.set _ _⟩
          have := hset Port.zv (by simp)
          simpa [Port.enc] using this
        · rw [hxu] at b2' hset
          simp [b2', d2, dp, hpe, hpm, blkAt_set dp, indexAddrV, elemIs, hkl2, hkl, hrl, hk]
          refine hn' _ _ ⟨hq, by simp, by simp, by simp, ?_, Keep.set _ _⟩
          have := hset upPort (by simp)
          simpa [Port.enc, upPort] using this
  · rintro tm H4 ⟨hnq, t0, t3, t5, o4, k4⟩
    have hb4 := k4.blk hb3 (by simpa using hpid)
    simp [t0]
    have hinOk := inB_ok (x := x) hok (by omega)
    have hnx : nextB b x = decideB (inB b x) := by rw [nextB, if_neg hnq]
    refine stpL_runs (decideM hb4 hbe0 (by rw [hrowE]; simp [Bridge.enc, inB_id, inB_len]) o4 (by simpa using hpid) hinOk) ?_
    rintro _ H5 ⟨rfl, o5, k5⟩
    have k35 : Keep [pid] H3 H5 := k4.trans (h := [pid]) k5 (by simp) (by simp)
    obtain ⟨c, hc⟩ : ∃ c, c = nextB b x := ⟨_, rfl⟩
    rw [← hnx, ← hc] at o5
    rw [← hc] at fin
    have hcl : c.ports.length = b.ports.length := by rw [hc]; exact nextB_len _ _
    have hci : c.id = b.id := by rw [hc]; exact nextB_id _ _
    have hcok : c.ok = true := by rw [hc]; exact nextB_ok hok (by omega)
    have hb5 := k35.blk hb3 (by simpa using hpid)
    have b25 := k35.blk b2 hnp
    have hw5 := hw0.keep k35 (fun id r h => hf2' _ (ow.ids id r h))
    have e5 := blkAt_len hb5
    have k05 : Keep [pid] H H5 := k03.trans (h := [pid]) k35 (by simp) (by simp)
    have hl05 := k05.1
    clear hc hnx o4 k4 hb4 o3 p3 hw0 ow k35 hnq
    simp [t0, t3, t5, hb5, e5, hbe0, hrow0, builtinV, pureB, lenV]
    have s5 := o5.sl
    refine wpS_loop (fun j tm H' => ∃ i a' fp', i + j = b.ports.length ∧ tm 0 = .ptr id ro 0 ∧ tm 3 = .ptr H.length 0 0 ∧ tm 5 = .w (.lf (.sl aw b.ports.length)) ∧ tm 64 = .sl pid 0 b.ports.length ∧ tm 65 = .int b.ports.length ∧ tm 66 = .int i ∧ tm 7 = .w (.lf (.sl a' (upto (gateAt b c) i).length)) ∧ Own H' 108 a' ((upto (gateAt b c) i).map Out.enc) fp' ∧ (∀ j ∈ fp', H5.length ≤ j) ∧ Keep [] H5 H') b.ports.length (by rw [env_K]; omega)
      ⟨0, none, [], by simp, by simp [t0], by simp [t3], by simp [t5], by simp, by simp, by simp, by simp [upto], Own.nil _ _, by simp, Keep.refl _ _⟩ ?_
    · rintro j tm H6 hj ⟨i, a', fp', hij, t0, t3, t5, t64, t65, t66, t7, ho', hf', hK⟩ Q2 hn2 he2 hr2
      simp [t64, t65, t66]
      refine selS_intro (fun hc => ?_) (fun hc => ?_)
      · simp at hc
        have hc' : i < c.ports.length := by omega
        obtain ⟨id3, r3, bl3, hx3, hbl3, hbe3, hrow3⟩ := (s5.keep hK (by simp)) i _ (by simp [hc']; rfl)
        cases hx3
        obtain ⟨id4, r4, bl4, rfl, hbl4, hbe4, hrow4⟩ := (hw5.keep hK (by simp)) i _ (by simp [hc]; rfl)
        have hid3 := blkAt_len hbl3
        have hid4 := blkAt_len hbl4
        have g4 : IntKind.i64.wrap ((i : Int) + 1) = (i : Int) + 1 := wrap64 (by omega) (by omega)
        have hst : upto (gateAt b c) (i + 1) = upto (gateAt b c) i ++ (if c.ports[i].opn = b.ports[i].opn then [] else [⟨2, i, ⟨0, 0, 0, 0⟩, 0, c.ports[i].opn⟩]) := by
          rw [upto, gateAt, List.getElem?_eq_getElem hc, List.getElem?_eq_getElem hc']
        have hul := upto_len (gateAt_len b c) i
        simp only [Nat.zero_add] at hrow3
        simp [t0, t3, t5, t64, t65, t66, t7, indexAddrV, elemIs, hid3, hbl3, hbe3, hc, hrow3, hid4, hbl4, hbe4, hrow4, Port.enc]
        refine selS_intro (fun hd => ?_) (fun hd => ?_)
        · simp at hd
          rw [if_neg hd] at hst
          simp [t7]
          refine stpL_append (rows := (upto (gateAt b c) i).map Out.enc) (ys := [[.i .i64 2, .i .i64 i, .i .i64 0, .i .i64 0, .i .i64 0, .i .i64 0, .i .i64 0, .b c.ports[i].opn]]) (ho'.app _) (Sl.of (by simp)) rfl rfl rfl (by simp) (by simp; omega) (by simp) rfl fun a'' H'' fp'' ho'' hk'' hf'' => ?_
          obtain ⟨hK2, hf2⟩ := grow_next hK hf' hk'' hf''
          simp [t0, t3, t5, t64, t65, t66, g4]
          refine hn2 (j - 1) _ _ (by omega) ⟨i + 1, a'', fp'', by omega, by simp [t0], by simp [t3], by simp [t5], by simp [t64], by simp [t65], by simp, by simp [hst], ?_, hf2, hK2⟩
          simpa [hst, Out.enc] using ho''
        · simp at hd
          rw [if_pos hd, List.append_nil] at hst
          simp [t0, t3, t5, t64, t65, t66, t7, g4]
          refine hn2 (j - 1) _ _ (by omega) ⟨i + 1, a', fp', by omega, by simp [t0], by simp [t3], by simp [t5], by simp [t64], by simp [t65], by simp, by rw [hst]; simp [t7], ?_, hf', keep_more0 hK _⟩
          rw [hst]
          exact ho'.app _
      · simp at hc
        obtain rfl : i = b.ports.length := by omega
        simp [t0, t3, t5, t64, t65, t66, t7]
        refine he2 _ _ _ ?_
        have hb6 := hK.blk hb5 (by simp)
        have e6 := blkAt_len hb6
        obtain ⟨gs, hgs⟩ : ∃ gs, gs = upto (gateAt b c) b.ports.length := ⟨_, rfl⟩
        have hgl : gs.length ≤ b.ports.length := by rw [hgs]; exact upto_len (gateAt_len b c) _
        rw [← hgs] at t7 ho'
        simp [t0, hb6, e6, hbe0, hrow0, builtinV, pureB, lenV]
        by_cases hx2 : x.kind = 2
        · have hout : outsB b c x = gs ++ upto (claimAt c) b.ports.length := by unfold outsB; rw [if_pos hx2, hgs]
          rw [hx2] at b25
          refine wpS_loop (fun j tm H' => ∃ i a' fp', i + j = b.ports.length ∧ tm 0 = .ptr id ro 0 ∧ tm 3 = .ptr H.length 0 0 ∧ tm 90 = .sl pid 0 b.ports.length ∧ tm 91 = .int b.ports.length ∧ tm 92 = .int i ∧ tm 7 = .w (.lf (.sl a' (gs ++ upto (claimAt c) i).length)) ∧ Own H' 108 a' ((gs ++ upto (claimAt c) i).map Out.enc) fp' ∧ (∀ j ∈ fp', H5.length ≤ j) ∧ Keep [] H5 H') b.ports.length (by rw [env_K]; omega)
            ⟨0, a', fp', by simp, by simp [t0], by simp [t3], by simp, by simp, by simp, by simp [upto, t7], by simpa [upto] using ho', hf', hK⟩ ?_
          rintro j tm H6 hj ⟨i, a', fp', hij, t0, t3, t90, t91, t92, t7, ho', hf', hK⟩ Q3 hn3 he3 hr3
          simp [t90, t91, t92]
          refine selS_intro (fun hc => ?_) (fun hc => ?_)
          · simp at hc
            have hc' : i < c.ports.length := by omega
            have s6 := s5.keep hK (by simp)
            obtain ⟨id3, r3, bl3, hx3, hbl3, hbe3, hrow3⟩ := s6 i _ (by simp [hc']; rfl)
            cases hx3
            have hid3 := blkAt_len hbl3
            have b26 := hK.blk b25 (by simp)
            have d26 := blkAt_len b26
            have hb6 := hK.blk hb5 (by simp)
            have e6 := blkAt_len hb6
            have g4 : IntKind.i64.wrap ((i : Int) + 1) = (i : Int) + 1 := wrap64 (by omega) (by omega)
            have hst : upto (claimAt c) (i + 1) = upto (claimAt c) i ++ (if c.ports[i].role = 2 then [⟨1, i, ownV c i, hopsB c, false⟩] else []) := by
              rw [upto, claimAt, List.getElem?_eq_getElem hc']
            have hul := upto_len (claimAt_len c) i
            have eO := fun G => ownM (H := H6 ++ G) (b := c) (a := some (pid, 0)) (blkAt_app hb6 G) hbe0 (by rw [hrowE]; simp [Bridge.enc, hci, hcl]) (s6.app G) hcok (i : Int)
            have eH := fun G => hopsM (H := H6 ++ G) (b := c) (a := some (pid, 0)) (blkAt_app hb6 G) hbe0 (by rw [hrowE]; simp [Bridge.enc, hci, hcl]) (s6.app G) hcok
            simp only [Nat.zero_add] at hrow3
            simp [t0, t3, t90, t91, t92, t7, b26, d26, indexAddrV, elemIs, hid3, hbl3, hbe3, hc, hrow3, Port.enc]
            refine selS_intro (fun hd => ?_) (fun hd => ?_)
            · simp at hd
              rw [if_pos hd] at hst
              simp [t0, t7, eO, eH, Vec.enc]
              refine stpL_append (rows := (gs ++ upto (claimAt c) i).map Out.enc) (ys := [[.i .i64 1, .i .i64 i, .i .i64 (ownV c i).root, .i .i64 (ownV c i).cost, .i .i64 (ownV c i).bridge, .i .i64 (ownV c i).port, .i .i64 (hopsB c), .b false]]) (ho'.app _) (Sl.of (by simp)) rfl rfl rfl (by simp) (by simp; omega) (by simp) rfl fun a'' H'' fp'' ho'' hk'' hf'' => ?_
              obtain ⟨hK2, hf2⟩ := grow_next hK hf' hk'' hf''
              simp [t0, t3, t90, t91, t92, g4]
              refine hn3 (j - 1) _ _ (by omega) ⟨i + 1, a'', fp'', by omega, by simp [t0], by simp [t3], by simp [t90], by simp [t91], by simp, by simp [hst]; omega, ?_, hf2, hK2⟩
              simpa [hst, Out.enc] using ho''
            · simp at hd
              rw [if_neg hd, List.append_nil] at hst
              simp [t0, t3, t90, t91, t92, t7, g4]
              refine hn3 (j - 1) _ _ (by omega) ⟨i + 1, a', fp', by omega, by simp [t0], by simp [t3], by simp [t90], by simp [t91], by simp, by rw [hst]; simp [t7], ?_, hf', keep_more0 hK _⟩
              rw [hst]
              exact ho'.app _
          · simp at hc
            obtain rfl : i = b.ports.length := by omega
            simp [t0, t3, t90, t91, t92, t7]
            refine he3 _ _ _ ?_
            simp [t7]
            rw [← hout] at ho'
            refine fin _ _ (.sl a' (outsB b c x).length) fp' (by simp [hout]) ⟨a', rfl, ho'⟩ (o5.keep hK (by simp)) ?_ (fun i hi => by have := hf' i hi; omega)
            exact k05.trans (h := [pid]) hK (by simp) (by simp)
        · have hout : outsB b c x = gs := by unfold outsB; rw [if_neg hx2, hgs, List.append_nil]
          refine wpS_loop (fun j tm H' => ∃ i, i + j = b.ports.length ∧ tm 3 = .ptr H.length 0 0 ∧ tm 90 = .sl pid 0 b.ports.length ∧ tm 91 = .int b.ports.length ∧ tm 92 = .int i ∧ tm 7 = .w (.lf (.sl a' gs.length)) ∧ Own H' 108 a' (gs.map Out.enc) fp' ∧ Keep [] H5 H') b.ports.length (by rw [env_K]; omega)
            ⟨0, by simp, by simp [t3], by simp, by simp, by simp, by simp [t7], ho', hK⟩ ?_
          rintro j tm H6 hj ⟨i, hij, t3, t90, t91, t92, t7, ho', hK⟩ Q3 hn3 he3 hr3
          simp [t90, t91, t92]
          refine selS_intro (fun hc => ?_) (fun hc => ?_)
          · simp at hc
            have hc' : i < c.ports.length := by omega
            have s6 := s5.keep hK (by simp)
            obtain ⟨id3, r3, bl3, hx3, hbl3, hbe3, hrow3⟩ := s6 i _ (by simp [hc']; rfl)
            cases hx3
            have hid3 := blkAt_len hbl3
            have b26 := hK.blk b25 (by simp)
            have d26 := blkAt_len b26
            have g4 : IntKind.i64.wrap ((i : Int) + 1) = (i : Int) + 1 := wrap64 (by omega) (by omega)
            simp only [Nat.zero_add] at hrow3
            simp [t3, t90, t91, t92, t7, b26, d26, indexAddrV, elemIs, hid3, hbl3, hbe3, hc, hrow3, Port.enc, hx2, g4]
            refine hn3 (j - 1) _ _ (by omega) ⟨i + 1, by omega, by simp [t3], by simp [t90], by simp [t91], by simp, by simp [t7], ho'.app _, keep_more0 hK _⟩
          · simp at hc
            obtain rfl : i = b.ports.length := by omega
            simp [t90, t91, t92]
            refine he3 _ _ _ ?_
            simp [t7]
            rw [← hout] at ho'
            refine fin _ _ (.sl a' (outsB b c x).length) fp' (by simp [hout]) ⟨a', rfl, ho'⟩ (o5.keep hK (by simp)) ?_ (fun i hi => by have := hf' i hi; omega)
            exact k05.trans (h := [pid]) hK (by simp) (by simp)

theorem grow_next0 {H2 H' H'' T : Heap} {fp0 fp' fp'' : List Nat} (hK : Keep fp0 H2 H') (hf : ∀ j ∈ fp', j ∈ fp0 ∨ H2.length ≤ j) (hk : Keep fp' (H' ++ T) H'') (h : ∀ j ∈ fp'', j ∈ fp' ∨ (H' ++ T).length ≤ j) : Keep fp0 H2 H'' ∧ ∀ j ∈ fp'', j ∈ fp0 ∨ H2.length ≤ j := by
  have h1 := hK.1
  refine ⟨Keep.trans (h := fp0) (Keep.trans (h := fp0) hK (Keep.app [] H' T) (fun _ hi _ => hi) (by simp)) hk (fun _ hi _ => hi) (fun i hi hl => (hf i hi).resolve_right (by omega)), fun j hj => ?_⟩
  rcases h j hj with h2 | h2
  · exact hf j h2
  · rw [List.length_append] at h2; omega

theorem specReact {H : Heap} {l : List Lf} {b : Bridge} (h : RdBridge H l b) (hn : b.sz ≤ 1048576) (x : In) :
    Runs env 65 [.agg l, .agg x.enc] H fun v H' => ∃ l' fp q fp2, v = .tup [.agg l', .lf q] ∧ IsBridge H' l' (reactB b x).1 fp ∧ IsOutS H' q (reactB b x).2 fp2 ∧ Fresh H H' (fp ++ fp2) ∧ (∀ i ∈ fp, i ∉ fp2) := by
  have hR := h
  have e1 : ∀ H, run env 101 [.agg [.i .i64 x.kind, .i .i64 x.port, .i .i64 x.vec.root, .i .i64 x.vec.cost, .i .i64 x.vec.bridge, .i .i64 x.vec.port, .i .i64 x.hops, .b x.up]] H = some (.bool x.ok, H) := fun H => specInOk H x
  have e2 := fun G => specBridgeOk_is (hR.app G) hn
  obtain ⟨a, rfl, h_⟩ := h
  simp only [Bridge.enc] at e2
  refine Runs.walk ok65 Try.func65 rfl (by simp [Try.f65]) fun Q hQ => ?_
  simp only [Try.f65, strip, stripL, stripI, stripG, chkT, tagsB, tagsL, tagD, addT, tagA, lookN, tagOp, elmT, ty22, ty24, ty25, ty33, ty54, ty58, ty95, ty122, Nat.reduceEqDiff, if_false, reduceIte, Option.getD_some, Option.getD_none, dstAt, dstOk, Nat.reduceLT, decide_true, if_true]
  simp [Bridge.enc, In.enc]
  obtain ⟨H3, hH3⟩ : ∃ H3 : Heap, H3 = H ++ [some ⟨56, .wr, [[.i .i64 b.id, .sl a b.ports.length]]⟩, some ⟨62, .wr, [[.i .i64 x.kind, .i .i64 x.port, .i .i64 x.vec.root, .i .i64 x.vec.cost, .i .i64 x.vec.bridge, .i .i64 x.vec.port, .i .i64 x.hops, .b x.up]]⟩, some ⟨56, .wr, [[.i .i64 0, .sl none 0]]⟩, some ⟨108, .wr, []⟩] := ⟨_, rfl⟩
  have b1 : blkAt H3 H.length = some ⟨56, .wr, [[.i .i64 b.id, .sl a b.ports.length]]⟩ := by rw [hH3]; simp
  have bx : blkAt H3 (H.length + 1) = some ⟨62, .wr, [[.i .i64 x.kind, .i .i64 x.port, .i .i64 x.vec.root, .i .i64 x.vec.cost, .i .i64 x.vec.bridge, .i .i64 x.vec.port, .i .i64 x.hops, .b x.up]]⟩ := by rw [hH3]; simp
  have bz : blkAt H3 (H.length + 2) = some ⟨56, .wr, [[.i .i64 0, .sl none 0]]⟩ := by rw [hH3]; simp
  have bo : blkAt H3 (H.length + 3) = some ⟨108, .wr, []⟩ := by rw [hH3]; simp
  have hl3 : H3.length = H.length + 4 := by rw [hH3]; simp
  have k03 : Keep [] H H3 := by rw [hH3]; exact Keep.app _ _ _
  have hR3 : RdBridge H3 [.i .i64 b.id, .sl a b.ports.length] b := by rw [hH3]; exact hR.app _
  have e2' : run env 78 [.agg [.i .i64 b.id, .sl a b.ports.length]] H3 = some (.bool b.ok, H3) := by rw [hH3]; exact e2 _
  have d1 := blkAt_len b1
  have dx := blkAt_len bx
  have dz := blkAt_len bz
  rw [← hH3]
  clear hH3
  have fin : ∀ (Hf : Heap) (tm : Ab.T) (c : Bridge) (a7 : Option (Nat × Nat)) (f7 : List Nat) (os : List Out) (q : Lf) (f2 : List Nat), tm 4 = .ptr (H.length + 2) 0 0 → tm 5 = .w (.lf q) → blkAt Hf (H.length + 2) = some ⟨56, .wr, [[.i .i64 b.id, .sl a7 b.ports.length]]⟩ → Own Hf 87 a7 (c.ports.map Port.enc) f7 → IsOutS Hf q os f2 → c.id = b.id → c.ports.length = b.ports.length → reactB b x = (c, os) → Keep [] H Hf → (∀ i ∈ f7, H.length ≤ i) → (∀ i ∈ f2, H.length ≤ i) → (∀ i ∈ f7, i ∉ f2) → Q .ret tm Hf := by
    intro Hf tm c a7 f7 os q f2 t4 t5 hb4 ho4 hq hci hcl hr hK n0 hf2 hdj
    refine hQ _ _ _ (by simp) ?_
    have hres : resT env.τ tm Hf (Try.f65.results.toList) = some [W.agg [.i .i64 b.id, .sl a7 b.ports.length], W.lf q] := by simp [Try.f65, t4, t5, hb4]
    rw [hres, optK_some, hr]
    have hI : IsBridge Hf [.i .i64 b.id, .sl a7 b.ports.length] c f7 := ⟨a7, by simp [Bridge.enc, hci, hcl], ho4⟩
    rcases leave_both H Hf [W.agg [.i .i64 b.id, .sl a7 b.ports.length], W.lf q] with e | ⟨e, hfr, G, rfl⟩ <;> rw [e]
    · refine ⟨_, f7, _, f2, rfl, hI, hq, ⟨hK.ext, fun i hi => ?_⟩, hdj⟩
      rcases List.mem_append.1 hi with hi | hi
      · exact n0 i hi
      · exact hf2 i hi
    · simp at hfr
      exact ⟨_, [], _, [], rfl, hI.free (by simp [hfr]) H, hq.free hfr.2 H, Fresh.refl H, by simp⟩
  have done : ¬ (b.ok = true ∧ x.ok = true ∧ x.port < b.ports.length) → ∀ (tm : Ab.T) (f7 : List Nat) (a7 : Option (Nat × Nat)) (G7 : Heap), tm 4 = .ptr (H.length + 2) 0 0 → tm 5 = .sl (H.length + 3) 0 0 → Own (H3 ++ G7) 87 a7 (b.ports.map Port.enc) f7 → (∀ i ∈ f7, H3.length ≤ i) → Q .ret tm (H3.set (H.length + 2) (some ⟨56, .wr, [[.i .i64 b.id, .sl a7 b.ports.length]]⟩) ++ G7) := by
    intro hno tm f7 a7 G7 t4 t5 o7 hf7
    have hk := Keep.set (id := H.length + 2) (H3 ++ G7) (some ⟨56, .wr, [[.i .i64 b.id, .sl a7 b.ports.length]]⟩)
    rw [set_lt dz] at hk
    have bo7 : blkAt (H3 ++ G7) (H.length + 3) = some ⟨108, .wr, []⟩ := blkAt_app bo G7
    refine fin _ _ b a7 f7 [] (.sl (some (H.length + 3, 0)) 0) [H.length + 3] t4 t5 ?_ (o7.keep hk (fun i hi hj => by have := hf7 i hi; simp at hj; omega)) ⟨some (H.length + 3, 0), rfl, Own.of (hk.blk bo7 (by simp))⟩ rfl rfl (reactB_no hno) ?_ (fun i hi => by have := hf7 i hi; omega) (by simp) (fun i hi hj => by have := hf7 i hi; simp at hj; omega)
    · exact blkAt_app (blkAt_set dz) _
    · exact (keep_more0 k03 G7).next hk (by simp)
  cases hbo : b.ok
  · rw [hbo] at e2'
    simp [b1, d1, e2']
    refine stpL_runs (specCopyB hR3 hn) ?_
    rintro _ _ ⟨_, f7, rfl, ⟨a7, rfl, o7⟩, ⟨⟨G7, rfl⟩, hf7⟩⟩
    simp [Bridge.enc, bz, dz]
    exact done (by simp [hbo]) _ f7 a7 G7 (by simp) (by simp) o7 hf7
  rw [hbo] at e2'
  simp [b1, d1, bx, dx, e1, e2']
  cases hxo : x.ok
  · simp [b1, d1]
    refine stpL_runs (specCopyB hR3 hn) ?_
    rintro _ _ ⟨_, f7, rfl, ⟨a7, rfl, o7⟩, ⟨⟨G7, rfl⟩, hf7⟩⟩
    simp [Bridge.enc, bz, dz]
    exact done (by simp [hxo]) _ f7 a7 G7 (by simp) (by simp) o7 hf7
  simp [b1, d1, bx, dx, builtinV, pureB, lenV]
  by_cases hlx : x.port < (b.ports.length : Int)
  case neg =>
    have hlx' : (b.ports.length : Int) ≤ x.port := by omega
    simp [hlx', b1, d1]
    refine stpL_runs (specCopyB hR3 hn) ?_
    rintro _ _ ⟨_, f7, rfl, ⟨a7, rfl, o7⟩, ⟨⟨G7, rfl⟩, hf7⟩⟩
    simp [Bridge.enc, bz, dz]
    exact done (fun h => hlx h.2.2) _ f7 a7 G7 (by simp) (by simp) o7 hf7
  clear done
  have hlx' : ¬ (b.ports.length : Int) ≤ x.port := by omega
  obtain ⟨-, hx0, -⟩ := In.ok_kind hxo
  obtain ⟨hpok, -, -, hl1, hl4⟩ := Bridge.ok_all hbo
  simp [hlx', b1, d1]
  refine stpL_runs_f (specCopyB hR3 hn) (by rintro _ _ ⟨_, _, _, _, hf⟩; exact hf.1) ?_
  rintro _ _ ⟨_, f7, rfl, o7, ⟨⟨G7, rfl⟩, hf7⟩⟩
  have hlt7 := o7.lt
  simp [bx, dx]
  refine stpL_runs_w (l8InM o7 hbo x hxo (k := x.port.toNat) (by omega) (by omega)) rfl (by rintro _ _ ⟨_, _, _, _, hk, _⟩; exact hk.1) ?_
  rintro _ H4 ⟨_, f8, rfl, ⟨a8, rfl, o8⟩, k8, hf8⟩
  obtain ⟨c, hc⟩ : ∃ c, c = nextB b x := ⟨_, rfl⟩
  rw [← hc] at o8
  have hcl : c.ports.length = b.ports.length := by rw [hc]; exact nextB_len _ _
  have hci : c.id = b.id := by rw [hc]; exact nextB_id _ _
  have hcok : c.ok = true := by rw [hc]; exact nextB_ok hbo (by omega)
  have hrB : reactB b x = (c, outsB b c x) := by rw [hc]; exact reactB_yes hbo hxo hlx
  rw [← hc]
  clear hc
  simp [Bridge.enc, hci, hcl]
  obtain ⟨H5, hH5⟩ : ∃ H5 : Heap, H5 = H4 ++ [some ⟨56, .wr, [[.i .i64 b.id, .sl a8 b.ports.length]]⟩] := ⟨_, rfl⟩
  have k35 : Keep f7 (H3 ++ G7) H5 := by rw [hH5]; exact Keep.trans (h := f7) k8 (Keep.app [] _ _) (fun _ hi _ => hi) (by simp)
  have k345 : Keep [] H3 H5 := (Keep.app [] H3 G7).next k35 hf7
  have c1 := k345.blk b1 (by simp)
  have cx := k345.blk bx (by simp)
  have cz := k345.blk bz (by simp)
  have co := k345.blk bo (by simp)
  have k05 : Keep [] H H5 := k03.next k345 (by simp)
  have o5 : Own H5 87 a8 (c.ports.map Port.enc) f8 := by rw [hH5]; exact o8.app _
  have c7 : blkAt H5 H4.length = some ⟨56, .wr, [[.i .i64 b.id, .sl a8 b.ports.length]]⟩ := by rw [hH5]; simp
  have h84 := k8.1
  have hf8' : ∀ i ∈ f8, H3.length ≤ i ∧ i < H4.length := fun i hi => by
    have hl := o8.lt i hi
    rcases hf8 i hi with h | h
    · exact ⟨hf7 i h, hl⟩
    · rw [List.length_append] at h; exact ⟨by omega, hl⟩
  have hl45 : H4.length < H5.length := blkAt_len c7
  have hs0 : Sl H5 87 a (b.ports.map Port.enc) := h_.keep k05 (by simp)
  have h345 := k345.1
  have h34 : H3.length ≤ H4.length := by rw [List.length_append] at h84; omega
  rw [← hH5]
  clear hH5 k8 k35 o8 hlt7 hf8 hf7
  refine wpS_loop (fun j tm H' => ∃ i a' fp', i + j = b.ports.length ∧ tm 2 = .ptr H.length 0 0 ∧ tm 3 = .ptr (H.length + 1) 0 0 ∧ tm 4 = .ptr (H.length + 2) 0 0 ∧ tm 7 = .ptr H4.length 0 0 ∧ tm 8 = .int i ∧ tm 6 = .w (.lf (.sl a' (upto (gateAt b c) i).length)) ∧ Own H' 108 a' ((upto (gateAt b c) i).map Out.enc) fp' ∧ (∀ j ∈ fp', j ∈ [H.length + 3] ∨ H5.length ≤ j) ∧ Keep [H.length + 3] H5 H') b.ports.length (by rw [env_K]; omega)
    ⟨0, some (H.length + 3, 0), [H.length + 3], by simp, by simp, by simp, by simp, by simp, by simp, by simp [upto], Own.of co, by simp, Keep.refl _ _⟩ ?_
  rintro j tm H6 hj ⟨i, a', fp', hij, t2, t3, t4, t7, t8, t6, ho', hf', hK⟩ Q2 hn2 he2 hr2
  have c16 := hK.blk c1 (by simp)
  have c76 := hK.blk c7 (by simp; omega)
  have d16 := blkAt_len c16
  have d76 := blkAt_len c76
  simp [t2, t8, c16, d16, builtinV, pureB, lenV]
  refine selS_intro (fun hcc => ?_) (fun hcc => ?_)
  · simp at hcc
    have hc' : i < c.ports.length := by omega
    have s6 := (o5.keep hK (fun i hi hj => by have := hf8' i hi; simp at hj; omega)).sl
    have s0 := hs0.keep hK (fun id r hx hj => by
      have h1 := h_.keep (Keep.refl [] H) (by simp)
      subst hx
      have := Sl.len h1 (by intro h; have := congrArg List.length h; simp only [List.length_map, List.length_nil] at this; omega)
      simp at hj; omega)
    obtain ⟨id3, r3, bl3, rfl, hbl3, hbe3, hrow3⟩ := s6 i _ (by simp [hc']; rfl)
    obtain ⟨id4, r4, bl4, rfl, hbl4, hbe4, hrow4⟩ := s0 i _ (by simp [hcc]; rfl)
    have hid3 := blkAt_len hbl3
    have hid4 := blkAt_len hbl4
    have g4 : IntKind.i64.wrap ((i : Int) + 1) = (i : Int) + 1 := wrap64 (by omega) (by omega)
    have hst : upto (gateAt b c) (i + 1) = upto (gateAt b c) i ++ (if c.ports[i].opn = b.ports[i].opn then [] else [⟨2, i, ⟨0, 0, 0, 0⟩, 0, c.ports[i].opn⟩]) := by
      rw [upto, gateAt, List.getElem?_eq_getElem hcc, List.getElem?_eq_getElem hc']
    have hul := upto_len (gateAt_len b c) i
    simp [t2, t3, t4, t6, t7, t8, c16, d16, c76, d76, indexAddrV, elemIs, hid3, hbl3, hbe3, hcc, hrow3, hid4, hbl4, hbe4, hrow4, Port.enc]
    refine selS_intro (fun hd => ?_) (fun hd => ?_)
    · simp at hd
      rw [if_neg hd] at hst
      simp [t6, t7, t8, c76, d76, indexAddrV, elemIs, hid3, hbl3, hbe3, hcc, hrow3, Port.enc]
      refine stpL_append (rows := (upto (gateAt b c) i).map Out.enc) (ys := [[.i .i64 2, .i .i64 i, .i .i64 0, .i .i64 0, .i .i64 0, .i .i64 0, .i .i64 0, .b c.ports[i].opn]]) (ho'.app _) (Sl.of (by simp)) rfl rfl rfl (by simp) (by simp; omega) (by simp) rfl fun a'' H'' fp'' ho'' hk'' hf'' => ?_
      obtain ⟨hK2, hf2⟩ := grow_next0 hK hf' hk'' hf''
      simp [t2, t3, t4, t7, t8, g4]
      refine hn2 (j - 1) _ _ (by omega) ⟨i + 1, a'', fp'', by omega, by simp [t2], by simp [t3], by simp [t4], by simp [t7], by simp, by simp [hst], ?_, hf2, hK2⟩
      simpa [hst, Out.enc] using ho''
    · simp at hd
      rw [if_pos hd, List.append_nil] at hst
      simp [t2, t3, t4, t6, t7, t8, g4]
      refine hn2 (j - 1) _ _ (by omega) ⟨i + 1, a', fp', by omega, by simp [t2], by simp [t3], by simp [t4], by simp [t7], by simp, by rw [hst]; simp [t6], ?_, hf', hK⟩
      rw [hst]
      exact ho'
  · simp at hcc
    obtain rfl : i = b.ports.length := by omega
    simp [t2, t3, t4, t6, t7, t8]
    refine he2 _ _ _ ?_
    obtain ⟨gs, hgs⟩ : ∃ gs, gs = upto (gateAt b c) b.ports.length := ⟨_, rfl⟩
    have hgl : gs.length ≤ b.ports.length := by rw [hgs]; exact upto_len (gateAt_len b c) _
    rw [← hgs] at t6 ho'
    have last : ∀ (tm : Ab.T) (Hf : Heap) (os : List Out) (a' : Option (Nat × Nat)) (fp' : List Nat), tm 4 = .ptr (H.length + 2) 0 0 → tm 5 = .w (.lf (.sl a' os.length)) → Own Hf 108 a' (os.map Out.enc) fp' → (∀ j ∈ fp', j ∈ [H.length + 3] ∨ H5.length ≤ j) → Keep [H.length + 3] H5 Hf → os = outsB b c x → Q .ret tm (Hf.set (H.length + 2) (some ⟨56, .wr, [[.i .i64 b.id, .sl a8 b.ports.length]]⟩)) := by
      intro tm Hf os a' fp' t4 t5 ho' hf' hK hos
      have czf := hK.blk cz (by simp)
      have dzf := blkAt_len czf
      have ks := Keep.set (id := H.length + 2) Hf (some ⟨56, .wr, [[.i .i64 b.id, .sl a8 b.ports.length]]⟩)
      refine fin _ _ c a8 f8 os (.sl a' os.length) fp' t4 t5 (blkAt_set dzf) ((o5.keep hK (fun i hi hj => by have := hf8' i hi; simp at hj; omega)).keep ks (fun i hi hj => by have := hf8' i hi; simp at hj; omega)) (IsSl.keep ⟨a', rfl, ho'⟩ ks (fun i hi hj => by have := hf' i hi; simp at hj this; omega)) hci hcl (by rw [hrB, hos]) ((k05.next hK (by simp)).next ks (by simp)) (fun i hi => by have := hf8' i hi; omega) (fun i hi => by have := hf' i hi; simp at this; omega) (fun i hi hj => by have := hf8' i hi; have := hf' i hj; simp at this; omega)
    simp
    by_cases hx2 : x.kind = 2
    · have hout : outsB b c x = gs ++ upto (claimAt c) b.ports.length := by unfold outsB; rw [if_pos hx2, hgs]
      rw [hx2] at cx
      refine wpS_loop (fun j tm H' => ∃ i a' fp', i + j = b.ports.length ∧ tm 3 = .ptr (H.length + 1) 0 0 ∧ tm 4 = .ptr (H.length + 2) 0 0 ∧ tm 7 = .ptr H4.length 0 0 ∧ tm 9 = .int i ∧ tm 6 = .w (.lf (.sl a' (gs ++ upto (claimAt c) i).length)) ∧ Own H' 108 a' ((gs ++ upto (claimAt c) i).map Out.enc) fp' ∧ (∀ j ∈ fp', j ∈ [H.length + 3] ∨ H5.length ≤ j) ∧ Keep [H.length + 3] H5 H') b.ports.length (by rw [env_K]; omega)
        ⟨0, a', fp', by simp, by simp [t3], by simp [t4], by simp [t7], by simp, by simp [upto, t6], by simpa [upto] using ho', hf', hK⟩ ?_
      rintro j tm H6 hj ⟨i, a', fp', hij, t3, t4, t7, t9, t6, ho', hf', hK⟩ Q3 hn3 he3 hr3
      have c76 := hK.blk c7 (by simp; omega)
      have cx6 := hK.blk cx (by simp)
      have cz6 := hK.blk cz (by simp)
      have d76 := blkAt_len c76
      have dx6 := blkAt_len cx6
      have dz6 := blkAt_len cz6
      simp [t3, t7, t9, c76, d76, builtinV, pureB, lenV]
      by_cases hcc : i < b.ports.length
      · have hc' : i < c.ports.length := by omega
        have s6 := (o5.keep hK (fun i hi hj => by have := hf8' i hi; simp at hj; omega)).sl
        have hR6 : RdBridge H6 [.i .i64 b.id, .sl a8 b.ports.length] c := ⟨a8, by simp [Bridge.enc, hci, hcl], s6⟩
        obtain ⟨id3, r3, bl3, rfl, hbl3, hbe3, hrow3⟩ := s6 i _ (by simp [hc']; rfl)
        have hid3 := blkAt_len hbl3
        have g4 : IntKind.i64.wrap ((i : Int) + 1) = (i : Int) + 1 := wrap64 (by omega) (by omega)
        have hst : upto (claimAt c) (i + 1) = upto (claimAt c) i ++ (if c.ports[i].role = 2 then [⟨1, i, ownV c i, hopsB c, false⟩] else []) := by
          rw [upto, claimAt, List.getElem?_eq_getElem hc']
        have hul := upto_len (claimAt_len c) i
        have eO := specOwn hR6 hcok (port := (i : Int)) (by omega) (by omega)
        have eH := specHops hR6 hcok
        simp [hcc, t3, t4, t6, t7, t9, c76, d76, cx6, dx6, indexAddrV, elemIs, hid3, hbl3, hbe3, hrow3, Port.enc]
        refine selS_intro (fun hd => ?_) (fun hd => ?_)
        · simp at hd
          rw [if_pos hd] at hst
          simp [t6, t7, t9, c76, d76, eO, eH, Vec.enc]
          refine stpL_append (rows := (gs ++ upto (claimAt c) i).map Out.enc) (ys := [[.i .i64 1, .i .i64 i, .i .i64 (ownV c i).root, .i .i64 (ownV c i).cost, .i .i64 (ownV c i).bridge, .i .i64 (ownV c i).port, .i .i64 (hopsB c), .b false]]) (ho'.app _) (Sl.of (by simp)) rfl rfl rfl (by simp) (by simp; omega) (by simp) rfl fun a'' H'' fp'' ho'' hk'' hf'' => ?_
          obtain ⟨hK2, hf2⟩ := grow_next0 hK hf' hk'' hf''
          simp [t3, t4, t7, t9, g4]
          refine hn3 (j - 1) _ _ (by omega) ⟨i + 1, a'', fp'', by omega, by simp [t3], by simp [t4], by simp [t7], by simp, by simp [hst]; omega, ?_, hf2, hK2⟩
          simpa [hst, Out.enc] using ho''
        · simp at hd
          rw [if_neg hd, List.append_nil] at hst
          simp [t3, t4, t6, t7, t9, g4]
          refine hn3 (j - 1) _ _ (by omega) ⟨i + 1, a', fp', by omega, by simp [t3], by simp [t4], by simp [t7], by simp, by rw [hst]; simp [t6], ?_, hf', hK⟩
          rw [hst]
          exact ho'
      · obtain rfl : i = b.ports.length := by omega
        simp
        refine he3 _ _ _ ?_
        simp [t3, t4, t6, t7, t9, c76, d76, cz6, dz6]
        exact last _ _ (gs ++ upto (claimAt c) b.ports.length) a' fp' (by simp [t4]) (by simp) ho' hf' hK hout.symm
    · have hout : outsB b c x = gs := by unfold outsB; rw [if_neg hx2, hgs, List.append_nil]
      refine wpS_loop (fun j tm H' => tm 3 = .ptr (H.length + 1) 0 0 ∧ tm 4 = .ptr (H.length + 2) 0 0 ∧ tm 7 = .ptr H4.length 0 0 ∧ tm 9 = .int 0 ∧ tm 6 = .w (.lf (.sl a' gs.length)) ∧ H' = H6) 0 (by rw [env_K]; omega)
        ⟨by simp [t3], by simp [t4], by simp [t7], by simp, by simp [t6], rfl⟩ ?_
      rintro j tm H6' hj ⟨t3, t4, t7, t9, t6, rfl⟩ Q3 hn3 he3 hr3
      have cx6 := hK.blk cx (by simp)
      have cz6 := hK.blk cz (by simp)
      have dx6 := blkAt_len cx6
      have dz6 := blkAt_len cz6
      have hpos : (0 : Int) < b.ports.length := by omega
      simp [t3, t7, t9, c76, d76, cx6, dx6, builtinV, pureB, lenV, hx2]
      have hb0 : decide (0 < b.ports.length) = true := by simp; omega
      rw [hb0]
      simp [t3, cx6, dx6, hx2]
      refine he3 _ _ _ ?_
      simp [t3, t4, t6, t7, t9, c76, d76, cz6, dz6]
      exact last _ _ gs a' fp' (by simp [t4]) (by simp) ho' hf' hK hout.symm

theorem nd5 {f0 f1 f2 f3 f4 : List Nat} (n0 : f0.Nodup) (n1 : f1.Nodup) (n2 : f2.Nodup) (n3 : f3.Nodup) (n4 : f4.Nodup) {a b c d e : Nat} (h1 : ∀ i ∈ f1, a ≤ i ∧ i < b) (h2 : ∀ i ∈ f2, b ≤ i ∧ i < c) (h3 : ∀ i ∈ f3, c ≤ i ∧ i < d) (h4 : ∀ i ∈ f4, d ≤ i ∧ i < e) (h0 : ∀ i ∈ f0, i < a ∨ e ≤ i)
    (hab : a ≤ b) (hbc : b ≤ c) (hcd : c ≤ d) (hde : d ≤ e) : (f0 ++ (f1 ++ (f2 ++ (f3 ++ f4)))).Nodup := by
  refine nodup_app n0 (nodup_app n1 (nodup_app n2 (nodup_app n3 n4 fun i hi hj => ?_) fun i hi hj => ?_) fun i hi hj => ?_) fun i hi hj => ?_
  · have := h3 i hi; have := h4 i hj; omega
  · have := h2 i hi
    rcases List.mem_append.1 hj with hj | hj
    · have := h3 i hj; omega
    · have := h4 i hj; omega
  · have := h1 i hi
    rcases List.mem_append.1 hj with hj | hj
    · have := h2 i hj; omega
    · rcases List.mem_append.1 hj with hj | hj
      · have := h3 i hj; omega
      · have := h4 i hj; omega
  · have := h0 i hi
    rcases List.mem_append.1 hj with hj | hj
    · have := h1 i hj; omega
    · rcases List.mem_append.1 hj with hj | hj
      · have := h2 i hj; omega
      · rcases List.mem_append.1 hj with hj | hj
        · have := h3 i hj; omega
        · have := h4 i hj; omega
/-- One element more, in memory that grew. -/
theorem isL_snoc {α : Type} {R : Heap → List Lf → α → List Nat → Prop} {e : Nat} {H1 H2 H3 : Heap} {a' : Option (Nat × Nat)} {rows : List (List Lf)} {xs : List α} {fp0 fp0' f : List Nat} {fps : List (List Nat)} {row : List Lf} {x : α} (ok : RepOk R) (hp : Part R H1 rows xs fps) (hnd : (fp0 ++ fps.flatten).Nodup) (hlt0 : ∀ i ∈ fp0, i < H1.length)
    (k12 : Keep [] H1 H2) (hr : R H2 row x f) (hf : ∀ i ∈ f, H1.length ≤ i) (k23 : Keep fp0 H2 H3) (ho : Own H3 e a' (rows ++ [row]) fp0') (hf0 : ∀ i ∈ fp0', i ∈ fp0 ∨ H2.length ≤ i) :
    Part R H3 (rows ++ [row]) (xs ++ [x]) (fps ++ [f]) ∧ (fp0' ++ (fps ++ [f]).flatten).Nodup := by
  have hlt := hp.lt ok
  have hfl := ok.lt hr
  have h12 := k12.1
  have hd : ∀ i ∈ fp0, i ∉ fps.flatten := fun i hi hj => (List.nodup_append.1 hnd).2.2 i hi i hj rfl
  have p2 := hp.keep ok k12 (by simp)
  have p3 := p2.keep ok k23 (fun i hi hj => hd i hj hi)
  have r3 := ok.keep hr k23 (fun i hi hj => by have := hf i hi; have := hlt0 i hj; omega)
  refine ⟨p3.snoc ok r3 (fun i hi hj => by have := hf i hi; have := hlt i hj; omega), ?_⟩
  rw [List.flatten_append]
  refine nodup_app ho.nodup (nodup_app hp.nodup (by simpa using ok.nodup hr) fun i hi hj => ?_) fun i hi hj => ?_
  · have := hlt i hi
    simp at hj
    have := hf i hj; omega
  · rcases List.mem_append.1 hj with hj | hj
    · rcases hf0 i hi with h | h
      · exact hd i h hj
      · have := hlt i hj; omega
    · simp at hj
      have := hf i hj
      have := hfl i hj
      rcases hf0 i hi with h | h
      · have := hlt0 i h; omega
      · omega

theorem bridgeNew_yes {id ports : Int} (h : (bridgeNew id ports).2 = true) : (1 ≤ id ∧ id ≤ 9) ∧ (1 ≤ ports ∧ ports ≤ 4) ∧ (bridgeNew id ports).1 = ⟨id, List.replicate ports.toNat Port.zv⟩ := by
  unfold bridgeNew at h ⊢
  split at h
  · rename_i h1
    rw [if_pos h1]
    simp at h1
    exact ⟨h1.1, h1.2, rfl⟩
  · simp at h

theorem copyNet {H : Heap} {l : List Lf} {n : Net} (h : RdNet H l n) (hn : n.sz ≤ 1048576) : Runs env 52 [.agg l] H fun v H' => ∃ l' fp, v = .agg l' ∧ IsNet H' l' n fp ∧ Fresh H H' fp := by
  obtain ⟨_, _, rfl, ⟨a0, rws, rfl, hs, hlen, hat⟩, ⟨a1, rfl, r1⟩⟩ := h
  unfold Net.sz at hn
  have hl0 := BridgeS.sz_len n.bridges
  refine Runs.walk ok52 Try.func52 rfl (by simp [Try.f52]) fun Q hQ => ?_
  simp only [Try.f52, strip, stripL, stripI, stripG, chkT, tagsB, tagsL, tagD, addT, tagA, lookN, tagOp, elmT, ty22, ty24, ty25, ty33, ty54, ty58, ty95, ty122, Nat.reduceEqDiff, if_false, reduceIte, Option.getD_some, Option.getD_none, dstAt, dstOk, Nat.reduceLT, decide_true, if_true]
  simp [Net.enc]
  obtain ⟨HX0, hH0⟩ : ∃ H3 : Heap, H3 = H ++ [some ⟨27, .wr, [[.sl a0 n.bridges.length, .sl a1 n.links.length]]⟩, some ⟨27, .wr, [[.sl none 0, .sl none 0]]⟩] := ⟨_, rfl⟩
  have c1_0 : blkAt HX0 H.length = some ⟨27, .wr, [[.sl a0 n.bridges.length, .sl a1 n.links.length]]⟩ := by rw [hH0]; simp
  have c2_0 : blkAt HX0 (H.length + 1) = some ⟨27, .wr, [[.sl none 0, .sl none 0]]⟩ := by rw [hH0]; simp
  have k0_0 : Keep [] H HX0 := by rw [hH0]; exact Keep.app _ _ _
  have lx0 : HX0.length = H.length + 2 := by rw [hH0]; simp
  rw [← hH0]
  clear hH0
  refine stpL_runs (cloneLinkS (q := .sl a1 n.links.length) ⟨a1, rfl, r1.keep k0_0 (by simp)⟩ (by omega)) ?_
  rintro _ HX4 ⟨_, f1, rfl, ⟨q1, rfl, o1⟩, hf1⟩
  have kx1 : Keep [] HX0 HX4 := hf1.keep
  have lx1' := kx1.1
  have lt1 := o1.lt
  have ge1 := hf1.2
  have c1_4 := kx1.blk c1_0 (by simp)
  have c2_4 := kx1.blk c2_0 (by simp)
  have d1_4 := blkAt_len c1_4
  have k0_4 : Keep [] H HX4 := k0_0.next kx1 (by simp)
  simp [c1_4, d1_4, builtinV, pureB, lenV]
  obtain ⟨H3, hH3⟩ : ∃ H3 : Heap, H3 = HX4 ++ [some ⟨27, .wr, [[.sl none 0, .sl q1 n.links.length]]⟩] := ⟨_, rfl⟩
  have b3 : blkAt H3 HX4.length = some ⟨27, .wr, [[.sl none 0, .sl q1 n.links.length]]⟩ := by rw [hH3]; simp
  have k43 : Keep [] HX4 H3 := by rw [hH3]; exact Keep.app _ _ _
  have hl3 : H3.length = HX4.length + 1 := by rw [hH3]; simp
  rw [← hH3]
  clear hH3
  have b1 := k43.blk c1_4 (by simp)
  have b2 := k43.blk c2_4 (by simp)
  have db1 := blkAt_len b1
  have o1 := o1.keep k43 (by simp)
  have k03 : Keep [] H H3 := k0_4.next k43 (by simp)
  skip
  refine wpS_loop (fun j tm H' => ∃ i a' rows fp0 fps, i + j = n.bridges.length ∧ tm 1 = .ptr H.length 0 0 ∧ tm 2 = .ptr (H.length + 1) 0 0 ∧ tm 3 = .ptr HX4.length 0 0 ∧ tm 11 = .w (.lf (.sl a0 n.bridges.length)) ∧ tm 12 = .int n.bridges.length ∧ tm 13 = .int i ∧ blkAt H' HX4.length = some ⟨27, .wr, [[.sl a' i, .sl q1 n.links.length]]⟩ ∧ Own H' 56 a' rows fp0 ∧ Part IsBridge H' rows (n.bridges.take i) fps ∧ (fp0 ++ fps.flatten).Nodup ∧ (∀ k ∈ fp0 ++ fps.flatten, H3.length ≤ k) ∧ Keep [HX4.length] H3 H') n.bridges.length (by rw [env_K]; omega)
    ⟨0, none, [], [], [], by simp, by simp, by simp, by simp, by simp, by simp, by simp, b3, Own.nil _ _, Part.nil _ _, by simp, by simp, Keep.refl _ _⟩ ?_
  rintro j tm H1 hj ⟨i, a', rows, fp0, fps, hij, t1, t2, t3, t11, t12, t13, c3, ho, hp, hnd, hge, hK3⟩ Q2 hn2 he2 hr2
  have c1 := hK3.blk b1 (by simp; omega)
  have c2 := hK3.blk b2 (by simp; omega)
  have d1 := blkAt_len c1
  have d2 := blkAt_len c2
  have d3 := blkAt_len c3
  have hK : Keep [] H H1 := k03.next hK3 (by simp; omega)
  have h31 := hK3.1
  simp [t1, t11, t12, t13, c1, d1, builtinV, pureB, lenV]
  refine selS_intro (fun hc => ?_) (fun hc => ?_)
  · simp at hc
    have hri : i < rws.length := by omega
    obtain ⟨id2, r, bl, rfl, hbl, hbe, hrow⟩ := (hs.keep hK (by simp)) i _ (List.getElem?_eq_getElem hri)
    have hid := blkAt_len hbl
    have he := (hat i _ _ (List.getElem?_eq_getElem hri) (List.getElem?_eq_getElem hc)).base hK
    have hL := he.len
    have hT : rws[i].take rws[i].length = rws[i] := List.take_length
    rw [hL] at hT
    have hszi := BridgeS.sz_at (List.getElem_mem hc)
    have g4 : IntKind.i64.wrap ((i : Int) + 1) = (i : Int) + 1 := wrap64 (by omega) (by omega)
    have hrl : rows.length = i := by rw [hp.len]; simp; omega
    simp [t1, t2, t3, t11, t12, t13, c1, d1, c3, d3, indexAddrV, elemIs, hid, hbl, hbe, hc, hrow, hL, hT]
    refine stpL_runs_f (copyBridge (he.app _) (by omega)) (by rintro _ _ ⟨_, _, _, _, hf⟩; exact hf.1) ?_
    rintro _ _ ⟨l2, f2, rfl, o2', ⟨⟨G2, rfl⟩, hf2⟩⟩
    have hl2 := o2'.len
    have hT2 : l2.take l2.length = l2 := List.take_length
    rw [hl2] at hT2
    simp [hl2, hT2]
    have hlt0 := ho.lt
    refine stpL_append (e := 56) (rows := rows) (ys := [l2]) (ho.app _) (Sl.of (by simp)) rfl rfl rfl (by simp) (by simp; omega) (by omega) rfl fun a'' H'' fp'' ho'' hk'' hf'' => ?_
    have k12 : Keep [] H1 (H1 ++ some ⟨56, .wr, [rws[i]]⟩ :: (G2 ++ [some ⟨56, .wr, [l2]⟩])) := Keep.app _ _ _
    have o2'' := o2'.app [some ⟨56, .wr, [l2]⟩]
    simp only [List.append_assoc, List.cons_append, List.nil_append] at o2''
    have hf2' : ∀ k ∈ f2, H1.length ≤ k := fun k hk => by have := hf2 k hk; simp at this; omega
    obtain ⟨hp2, hnd2⟩ := isL_snoc okBridge hp hnd hlt0 k12 o2'' hf2' hk'' ho'' hf''
    have c3' := (hk''.blk (k12.blk c3 (by simp)) (fun h => by have := hge _ (List.mem_append.2 (.inl h)); omega))
    have d3' := blkAt_len c3'
    have hk1 : Keep [HX4.length] H3 H'' := Keep.trans (h := [HX4.length]) (Keep.trans (h := [HX4.length]) hK3 k12 (by simp) (by simp)) hk'' (by simp) (fun k hk hl => by have := hge k (List.mem_append.2 (.inl hk)); omega)
    have hge2 : ∀ k ∈ fp'' ++ (fps ++ [f2]).flatten, H3.length ≤ k := fun k hk => by
      rcases List.mem_append.1 hk with hk | hk
      · rcases hf'' k hk with h | h
        · exact hge k (List.mem_append.2 (.inl h))
        · rw [List.length_append] at h; omega
      · rw [List.flatten_append] at hk
        rcases List.mem_append.1 hk with hk | hk
        · exact hge k (List.mem_append.2 (.inr hk))
        · simp at hk
          have := hf2' k hk; omega
    have ks := fun y => Keep.set (id := HX4.length) H'' y
    have hno : ∀ k ∈ fp'' ++ (fps ++ [f2]).flatten, k ∉ [HX4.length] := fun k hk => by have := hge2 k hk; simp; omega
    simp [t1, t2, t3, t11, t12, t13, c3', d3', g4]
    refine hn2 (j - 1) _ _ (by omega) ⟨i + 1, a'', rows ++ [l2], fp'', fps ++ [f2], by omega, by simp [t1], by simp [t2], by simp [t3], by simp [t11], by simp [t12], by simp, by rw [blkAt_set d3'], ho''.keep (ks _) (fun k hk => hno k (List.mem_append.2 (.inl hk))), ?_, hnd2, hge2, hk1.trans (h := [HX4.length]) (ks _) (by simp) (by simp)⟩
    rw [List.take_add_one, List.getElem?_eq_getElem hc]
    exact hp2.keep okBridge (ks _) (fun k hk => hno k (List.mem_append.2 (.inr hk)))
  · simp at hc
    obtain rfl : i = n.bridges.length := by omega
    rw [List.take_length] at hp
    simp [t1, t11, t12, t13]
    refine he2 _ _ _ ?_
    have o0 : IsBridgeS H1 (.sl a' n.bridges.length) n.bridges (fp0 ++ fps.flatten) := ⟨a', rows, fp0, fps, rfl, ho, hp, rfl, hnd⟩
    have o1 := o1.keep hK3 (fun i hi hj => by have := lt1 i hi; simp at hj; omega)
    simp [t2, t3, c2, d2, c3, d3]
    obtain ⟨HF, hHF⟩ : ∃ HF : Heap, HF = H1.set (H.length + 1) (some ⟨27, .wr, [[.sl a' n.bridges.length, .sl q1 n.links.length]]⟩) := ⟨_, rfl⟩
    rw [← hHF]
    have kF : Keep [H.length + 1] H1 HF := by rw [hHF]; exact Keep.set _ _
    have cF : blkAt HF (H.length + 1) = some ⟨27, .wr, [[.sl a' n.bridges.length, .sl q1 n.links.length]]⟩ := by rw [hHF]; exact blkAt_set d2
    clear hHF
    refine hQ _ _ _ (by simp) ?_
    simp [Try.f52, t2, cF]
    have hI : IsNet HF [.sl a' n.bridges.length, .sl q1 n.links.length] n ((fp0 ++ fps.flatten) ++ f1) := ⟨_, _, _, f1, rfl, o0.keep okBridge kF (fun i hi hj => by have := hge i hi; simp at hj; omega), ⟨q1, rfl, o1.keep kF (fun i hi hj => by have := ge1 i hi; simp at hj; omega)⟩, rfl, nodup_app hnd o1.nodup fun i hi hj => by have := hge i hi; have := lt1 i hj; omega⟩
    have hfr : Fresh H HF ((fp0 ++ fps.flatten) ++ f1) := ⟨(hK.next kF (by simp)).ext, fun i hi => by
      rcases List.mem_append.1 hi with hi | hi
      · have := hge i hi; omega
      · have := ge1 i hi; omega⟩
    exact hI.leave hfr (by simp)

theorem specCopyNet {H : Heap} {l : List Lf} {n : Net} (h : RdNet H l n) (hn : n.sz ≤ 1048576) : Runs env 67 [.agg l] H fun v H' => ∃ l' fp, v = .agg l' ∧ IsNet H' l' n fp ∧ Fresh H H' fp := by
  obtain ⟨_, _, rfl, ⟨a0, rws, rfl, hs, hlen, hat⟩, ⟨a1, rfl, r1⟩⟩ := h
  unfold Net.sz at hn
  have hl0 := BridgeS.sz_len n.bridges
  refine Runs.walk ok67 Try.func67 rfl (by simp [Try.f67]) fun Q hQ => ?_
  simp only [Try.f67, strip, stripL, stripI, stripG, chkT, tagsB, tagsL, tagD, addT, tagA, lookN, tagOp, elmT, ty22, ty24, ty25, ty33, ty54, ty58, ty95, ty122, Nat.reduceEqDiff, if_false, reduceIte, Option.getD_some, Option.getD_none, dstAt, dstOk, Nat.reduceLT, decide_true, if_true]
  simp [Net.enc]
  obtain ⟨HX0, hH0⟩ : ∃ H3 : Heap, H3 = H ++ [some ⟨27, .wr, [[.sl a0 n.bridges.length, .sl a1 n.links.length]]⟩, some ⟨27, .wr, [[.sl none 0, .sl none 0]]⟩] := ⟨_, rfl⟩
  have c1_0 : blkAt HX0 H.length = some ⟨27, .wr, [[.sl a0 n.bridges.length, .sl a1 n.links.length]]⟩ := by rw [hH0]; simp
  have c2_0 : blkAt HX0 (H.length + 1) = some ⟨27, .wr, [[.sl none 0, .sl none 0]]⟩ := by rw [hH0]; simp
  have k0_0 : Keep [] H HX0 := by rw [hH0]; exact Keep.app _ _ _
  have lx0 : HX0.length = H.length + 2 := by rw [hH0]; simp
  have hT : ∀ tmp : Option Blk, H ++ [some ⟨27, .wr, [[.sl a0 n.bridges.length, .sl a1 n.links.length]]⟩, some ⟨27, .wr, [[.sl none 0, .sl none 0]]⟩, tmp] = HX0 ++ [tmp] := by intro tmp; rw [hH0]; simp
  rw [hT]
  rw [show H.length + 2 = HX0.length from lx0.symm]
  clear hT hH0
  refine stpL_append (rows := []) (ys := n.links.map Link.enc) (Own.of (by simp)) ((r1.keep k0_0 (by simp)).app _) rfl rfl rfl (by simp) (by simp; omega) rfl (by simp) fun q1 HX4 f1 o1 kt1 ft1 => ?_
  rw [List.nil_append] at o1
  have kx1 : Keep [] HX0 HX4 := (Keep.app [] _ _).next kt1 (by simp)
  have lx1' := kx1.1
  have lt1 := o1.lt
  have ge1 : ∀ i ∈ f1, HX0.length ≤ i := fun i hi => by
    rcases ft1 i hi with h | h
    · simp at h; omega
    · rw [List.length_append] at h; omega
  have c1_4 := kx1.blk c1_0 (by simp)
  have c2_4 := kx1.blk c2_0 (by simp)
  have d1_4 := blkAt_len c1_4
  have k0_4 : Keep [] H HX4 := k0_0.next kx1 (by simp)
  simp
  obtain ⟨H3, hH3⟩ : ∃ H3 : Heap, H3 = HX4 ++ [some ⟨27, .wr, [[.sl none 0, .sl q1 n.links.length]]⟩] := ⟨_, rfl⟩
  have b3 : blkAt H3 HX4.length = some ⟨27, .wr, [[.sl none 0, .sl q1 n.links.length]]⟩ := by rw [hH3]; simp
  have k43 : Keep [] HX4 H3 := by rw [hH3]; exact Keep.app _ _ _
  have hl3 : H3.length = HX4.length + 1 := by rw [hH3]; simp
  rw [← hH3]
  clear hH3
  have b1 := k43.blk c1_4 (by simp)
  have b2 := k43.blk c2_4 (by simp)
  have db1 := blkAt_len b1
  have o1 := o1.keep k43 (by simp)
  have k03 : Keep [] H H3 := k0_4.next k43 (by simp)
  skip
  refine wpS_loop (fun j tm H' => ∃ i a' rows fp0 fps, i + j = n.bridges.length ∧ tm 1 = .ptr H.length 0 0 ∧ tm 2 = .ptr (H.length + 1) 0 0 ∧ tm 3 = .ptr HX4.length 0 0 ∧ tm 4 = .int i ∧ blkAt H' HX4.length = some ⟨27, .wr, [[.sl a' i, .sl q1 n.links.length]]⟩ ∧ Own H' 56 a' rows fp0 ∧ Part IsBridge H' rows (n.bridges.take i) fps ∧ (fp0 ++ fps.flatten).Nodup ∧ (∀ k ∈ fp0 ++ fps.flatten, H3.length ≤ k) ∧ Keep [HX4.length] H3 H') n.bridges.length (by rw [env_K]; omega)
    ⟨0, none, [], [], [], by simp, by simp, by simp, by simp, by simp, b3, Own.nil _ _, Part.nil _ _, by simp, by simp, Keep.refl _ _⟩ ?_
  rintro j tm H1 hj ⟨i, a', rows, fp0, fps, hij, t1, t2, t3, t4, c3, ho, hp, hnd, hge, hK3⟩ Q2 hn2 he2 hr2
  have c1 := hK3.blk b1 (by simp; omega)
  have c2 := hK3.blk b2 (by simp; omega)
  have d1 := blkAt_len c1
  have d2 := blkAt_len c2
  have d3 := blkAt_len c3
  have hK : Keep [] H H1 := k03.next hK3 (by simp; omega)
  have h31 := hK3.1
  simp [t1, t4, c1, d1, builtinV, pureB, lenV]
  refine selS_intro (fun hc => ?_) (fun hc => ?_)
  · simp at hc
    have hri : i < rws.length := by omega
    obtain ⟨id2, r, bl, rfl, hbl, hbe, hrow⟩ := (hs.keep hK (by simp)) i _ (List.getElem?_eq_getElem hri)
    have hid := blkAt_len hbl
    have he := (hat i _ _ (List.getElem?_eq_getElem hri) (List.getElem?_eq_getElem hc)).base hK
    have hL := he.len
    have hT : rws[i].take rws[i].length = rws[i] := List.take_length
    rw [hL] at hT
    have hszi := BridgeS.sz_at (List.getElem_mem hc)
    have g4 : IntKind.i64.wrap ((i : Int) + 1) = (i : Int) + 1 := wrap64 (by omega) (by omega)
    have hrl : rows.length = i := by rw [hp.len]; simp; omega
    simp [t1, t2, t3, t4, c1, d1, c3, d3, indexAddrV, elemIs, hid, hbl, hbe, hc, hrow, hL, hT]
    refine stpL_runs_f (specCopyB he (by omega)) (by rintro _ _ ⟨_, _, _, _, hf⟩; exact hf.1) ?_
    rintro _ _ ⟨l2, f2, rfl, o2', ⟨⟨G2, rfl⟩, hf2⟩⟩
    have hl2 := o2'.len
    have hT2 : l2.take l2.length = l2 := List.take_length
    rw [hl2] at hT2
    simp [hl2, hT2]
    have hlt0 := ho.lt
    refine stpL_append (e := 56) (rows := rows) (ys := [l2]) (ho.app _) (Sl.of (by simp)) rfl rfl rfl (by simp) (by simp; omega) (by omega) rfl fun a'' H'' fp'' ho'' hk'' hf'' => ?_
    have k12 : Keep [] H1 (H1 ++ (G2 ++ [some ⟨56, .wr, [l2]⟩])) := Keep.app _ _ _
    have o2'' := o2'.app [some ⟨56, .wr, [l2]⟩]
    simp only [List.append_assoc, List.cons_append, List.nil_append] at o2''
    have hf2' : ∀ k ∈ f2, H1.length ≤ k := fun k hk => by have := hf2 k hk; omega
    obtain ⟨hp2, hnd2⟩ := isL_snoc okBridge hp hnd hlt0 k12 o2'' hf2' hk'' ho'' hf''
    have c3' := (hk''.blk (k12.blk c3 (by simp)) (fun h => by have := hge _ (List.mem_append.2 (.inl h)); omega))
    have d3' := blkAt_len c3'
    have hk1 : Keep [HX4.length] H3 H'' := Keep.trans (h := [HX4.length]) (Keep.trans (h := [HX4.length]) hK3 k12 (by simp) (by simp)) hk'' (by simp) (fun k hk hl => by have := hge k (List.mem_append.2 (.inl hk)); omega)
    have hge2 : ∀ k ∈ fp'' ++ (fps ++ [f2]).flatten, H3.length ≤ k := fun k hk => by
      rcases List.mem_append.1 hk with hk | hk
      · rcases hf'' k hk with h | h
        · exact hge k (List.mem_append.2 (.inl h))
        · rw [List.length_append] at h; omega
      · rw [List.flatten_append] at hk
        rcases List.mem_append.1 hk with hk | hk
        · exact hge k (List.mem_append.2 (.inr hk))
        · simp at hk
          have := hf2' k hk; omega
    have ks := fun y => Keep.set (id := HX4.length) H'' y
    have hno : ∀ k ∈ fp'' ++ (fps ++ [f2]).flatten, k ∉ [HX4.length] := fun k hk => by have := hge2 k hk; simp; omega
    simp [t1, t2, t3, t4, c3', d3', g4]
    refine hn2 (j - 1) _ _ (by omega) ⟨i + 1, a'', rows ++ [l2], fp'', fps ++ [f2], by omega, by simp [t1], by simp [t2], by simp [t3], by simp, by rw [blkAt_set d3'], ho''.keep (ks _) (fun k hk => hno k (List.mem_append.2 (.inl hk))), ?_, hnd2, hge2, hk1.trans (h := [HX4.length]) (ks _) (by simp) (by simp)⟩
    rw [List.take_add_one, List.getElem?_eq_getElem hc]
    exact hp2.keep okBridge (ks _) (fun k hk => hno k (List.mem_append.2 (.inr hk)))
  · simp at hc
    obtain rfl : i = n.bridges.length := by omega
    rw [List.take_length] at hp
    simp [t1, t4]
    refine he2 _ _ _ ?_
    have o0 : IsBridgeS H1 (.sl a' n.bridges.length) n.bridges (fp0 ++ fps.flatten) := ⟨a', rows, fp0, fps, rfl, ho, hp, rfl, hnd⟩
    have o1 := o1.keep hK3 (fun i hi hj => by have := lt1 i hi; simp at hj; omega)
    simp [t2, t3, c2, d2, c3, d3]
    obtain ⟨HF, hHF⟩ : ∃ HF : Heap, HF = H1.set (H.length + 1) (some ⟨27, .wr, [[.sl a' n.bridges.length, .sl q1 n.links.length]]⟩) := ⟨_, rfl⟩
    rw [← hHF]
    have kF : Keep [H.length + 1] H1 HF := by rw [hHF]; exact Keep.set _ _
    have cF : blkAt HF (H.length + 1) = some ⟨27, .wr, [[.sl a' n.bridges.length, .sl q1 n.links.length]]⟩ := by rw [hHF]; exact blkAt_set d2
    clear hHF
    refine hQ _ _ _ (by simp) ?_
    simp [Try.f67, t2, cF]
    have hI : IsNet HF [.sl a' n.bridges.length, .sl q1 n.links.length] n ((fp0 ++ fps.flatten) ++ f1) := ⟨_, _, _, f1, rfl, o0.keep okBridge kF (fun i hi hj => by have := hge i hi; simp at hj; omega), ⟨q1, rfl, o1.keep kF (fun i hi hj => by have := ge1 i hi; simp at hj; omega)⟩, rfl, nodup_app hnd o1.nodup fun i hi hj => by have := hge i hi; have := lt1 i hj; omega⟩
    have hfr : Fresh H HF ((fp0 ++ fps.flatten) ++ f1) := ⟨(hK.next kF (by simp)).ext, fun i hi => by
      rcases List.mem_append.1 hi with hi | hi
      · have := hge i hi; omega
      · have := ge1 i hi; omega⟩
    exact hI.leave hfr (by simp)

theorem andD {p q : Prop} [Decidable p] [Decidable q] (h : ¬ (p ∧ q)) : (decide p && decide q) = false := by by_cases hp : p <;> by_cases hq : q <;> simp_all
def tickIn : In := ⟨2, 0, ⟨0, 0, 0, 0⟩, 0, false⟩
def otherL : List Link → Int → Int → Option (Int × Int)
  | [], _, _ => none
  | l :: ls, a, p => if l.a = a ∧ l.p = p then some (l.b, l.q) else if l.b = a ∧ l.q = p then some (l.a, l.p) else otherL ls a p
def setBr (n : Net) (i : Nat) (b : Bridge) : Net := ⟨n.bridges.set i b, n.links⟩
def bAt (n : Net) (i : Nat) : Bridge := n.bridges.getD i ⟨0, []⟩
def claimIn (port : Int) (o : Out) : In := ⟨1, port, o.vec, o.hops, false⟩
def sendTo (i : Nat) (n : Net) (o : Out) : Net := if o.kind = 1 then (match otherL n.links i o.port with
  | some e => setBr n e.1.toNat (reactB (bAt n e.1.toNat) (claimIn e.2 o)).1
  | none => n) else n
def roundAt (n : Net) (i : Nat) : Net := (reactB (bAt n i) tickIn).2.foldl (sendTo i) (setBr n i (reactB (bAt n i) tickIn).1)
def roundU (n : Net) : Nat → Net
  | 0 => n
  | i + 1 => roundAt (roundU n i) i
def roundN (n : Net) : Net := roundU n n.bridges.length
structure NetW (n : Net) : Prop where
  ok : ∀ b ∈ n.bridges, b.ok = true
  ends : ∀ l ∈ n.links, isEndP n l.a l.p ∧ isEndP n l.b l.q
  len : n.bridges.length ≤ 5 ∧ n.links.length ≤ 6
theorem NetW.of {n : Net} (h : n.P) : NetW n := ⟨h.2.2.1, fun l hl => (h.2.2.2.2.1 l hl).2, h.1.2, h.2.1⟩
theorem bAt_eq {n : Net} {i : Nat} (h : i < n.bridges.length) : bAt n i = n.bridges[i] := by simp [bAt, List.getD, List.getElem?_eq_getElem h]
theorem bAt_ok {n : Net} (hw : NetW n) {i : Nat} (h : i < n.bridges.length) : (bAt n i).ok = true := by rw [bAt_eq h]; exact hw.ok _ (List.getElem_mem h)
theorem NetW.set {n : Net} (hw : NetW n) {i : Nat} (hi : i < n.bridges.length) {b : Bridge} (hb : b.ok = true) (hl : b.ports.length = (bAt n i).ports.length) : NetW (setBr n i b) := by
  have key : ∀ a p, isEndP n a p → isEndP (setBr n i b) a p := by
    rintro a p ⟨j, k, c, rfl, rfl, h1, h2⟩
    by_cases he : i = j
    · subst he
      refine ⟨i, k, b, rfl, rfl, by simp [setBr, hi], ?_⟩
      rw [bAt_eq hi] at hl
      rw [List.getElem?_eq_getElem hi] at h1
      injection h1 with h1
      rw [hl, h1]; exact h2
    · exact ⟨j, k, c, rfl, rfl, by simp only [setBr]; rw [List.getElem?_set_ne he]; exact h1, h2⟩
  refine ⟨fun c hc => ?_, fun l hl => ⟨key _ _ (hw.ends l hl).1, key _ _ (hw.ends l hl).2⟩, by simpa [setBr] using hw.len⟩
  rcases List.mem_or_eq_of_mem_set hc with hc | rfl
  · exact hw.ok _ hc
  · exact hb
theorem otherL_end {n : Net} (hw : NetW n) {a p : Int} {e : Int × Int} (h : otherL n.links a p = some e) : isEndP n e.1 e.2 := by
  have key : ∀ ls : List Link, (∀ l ∈ ls, isEndP n l.a l.p ∧ isEndP n l.b l.q) → otherL ls a p = some e → isEndP n e.1 e.2 := by
    intro ls
    induction ls with
    | nil => intro _ h; simp [otherL] at h
    | cons l ls ih =>
      intro h1 h2
      rw [otherL] at h2
      split at h2
      · injection h2 with h2; subst h2; exact (h1 l (by simp)).2
      · split at h2
        · injection h2 with h2; subst h2; exact (h1 l (by simp)).1
        · exact ih (fun l hl => h1 l (by simp [hl])) h2
  exact key _ hw.ends h
theorem otherL_at {n : Net} (hw : NetW n) {a p : Int} {e : Int × Int} (h : otherL n.links a p = some e) : 0 ≤ e.1 ∧ e.1.toNat < n.bridges.length ∧ 0 ≤ e.2 ∧ e.2.toNat < (bAt n e.1.toNat).ports.length := by
  obtain ⟨i, k, b, h1, h2, h3, h4⟩ := otherL_end hw h
  have hi := (List.getElem?_eq_some_iff.1 h3)
  have e1 : e.1.toNat = i := by omega
  have e2 : e.2.toNat = k := by omega
  rw [e1, e2, bAt_eq hi.1, hi.2]
  exact ⟨by omega, hi.1, by omega, h4⟩
theorem sendTo_w {n : Net} (hw : NetW n) (i : Nat) (o : Out) : NetW (sendTo i n o) ∧ (sendTo i n o).bridges.length = n.bridges.length ∧ (sendTo i n o).links = n.links := by
  unfold sendTo
  split
  · cases he : otherL n.links i o.port with
    | none => exact ⟨hw, rfl, rfl⟩
    | some e =>
      obtain ⟨-, h2, -, -⟩ := otherL_at hw he
      exact ⟨hw.set h2 (reactB_ok _ (bAt_ok hw h2)) (reactB_len _ _), by simp [setBr], rfl⟩
  · exact ⟨hw, rfl, rfl⟩
theorem fold_w {n : Net} (hw : NetW n) (i : Nat) : ∀ (os : List Out) {m : Net}, NetW m → m.bridges.length = n.bridges.length → m.links = n.links → NetW (os.foldl (sendTo i) m) ∧ (os.foldl (sendTo i) m).bridges.length = n.bridges.length ∧ (os.foldl (sendTo i) m).links = n.links
  | [], m, h1, h2, h3 => ⟨h1, h2, h3⟩
  | o :: os, m, h1, h2, h3 => by
    have := sendTo_w h1 i o
    exact fold_w hw i os this.1 (by rw [this.2.1, h2]) (by rw [this.2.2, h3])
theorem roundAt_w {n : Net} (hw : NetW n) {i : Nat} (hi : i < n.bridges.length) : NetW (roundAt n i) ∧ (roundAt n i).bridges.length = n.bridges.length ∧ (roundAt n i).links = n.links := by
  unfold roundAt
  exact fold_w hw i _ (hw.set hi (reactB_ok _ (bAt_ok hw hi)) (reactB_len _ _)) (by simp [setBr]) rfl
theorem roundU_w {n : Net} (hw : NetW n) : ∀ i, i ≤ n.bridges.length → NetW (roundU n i) ∧ (roundU n i).bridges.length = n.bridges.length ∧ (roundU n i).links = n.links
  | 0, _ => ⟨hw, rfl, rfl⟩
  | i + 1, h => by
    obtain ⟨h1, h2, h3⟩ := roundU_w hw i (by omega)
    obtain ⟨h4, h5, h6⟩ := roundAt_w h1 (i := i) (by omega)
    exact ⟨h4, by rw [roundU, h5, h2], by rw [roundU, h6, h3]⟩
theorem rootUpto_skip (b : Bridge) : ∀ i, 0 ≤ rootUpto b i → rootSkip b (b.ports.getD (rootUpto b i).toNat default) = false
  | 0, h => by simp [rootUpto] at h
  | i + 1, h => by
    rw [rootUpto] at h ⊢
    cases hp : b.ports[i]? with
    | none => simp only [hp] at h ⊢; exact rootUpto_skip b i h
    | some p =>
      simp only [hp] at h ⊢
      unfold rootStep at h ⊢
      cases hs : rootSkip b p with
      | true => simp only [hs, if_true] at h ⊢; exact rootUpto_skip b i h
      | false =>
        simp only [hs, Bool.false_eq_true, if_false] at h ⊢
        split
        · rename_i hc
          rw [if_pos hc] at h
          have : b.ports.getD ((i : Int).toNat) default = p := by simp [List.getD, hp]
          rw [this]; exact hs
        · rename_i hc
          rw [if_neg hc] at h
          exact rootUpto_skip b i h
theorem claim_ok {c : Bridge} (h : c.ok = true) {i : Nat} (hi : i < c.ports.length) : (ownV c i).ok = true ∧ 0 ≤ hopsB c ∧ hopsB c ≤ 8 := by
  obtain ⟨h1, h2, h3, h4, h5⟩ := Bridge.ok_all h
  by_cases hr : 0 ≤ rootAt c
  · obtain ⟨hk, -, hgd, hpo, c0, c1, d0, d1⟩ := rootGet h hr
    have hs := rootUpto_skip c c.ports.length hr
    have hs : rootSkip c (c.ports.getD (rootAt c).toNat default) = false := hs
    rw [hgd] at hs
    have hnr : ¬ rootAt c < 0 := by omega
    unfold ownV hopsB
    rw [if_neg hnr, if_neg hnr, hgd]
    obtain ⟨p, hp⟩ : ∃ p, p = c.ports[(rootAt c).toNat] := ⟨_, rfl⟩
    rw [← hp] at hs hpo c0 c1 d0 d1 ⊢
    simp [rootSkip] at hs
    obtain ⟨⟨⟨⟨s1, s2⟩, s3⟩, s4⟩, s5⟩ := hs
    have hv : p.vec.ok = true := by
      simp [Port.ok, s1] at hpo
      exact hpo.1.1.1.1.1.1.2
    simp [Vec.ok] at hv ⊢
    have e1 : ¬ p.vec.cost + 1 = 0 := by omega
    have e2 : ¬ p.vec.root = c.id := by omega
    simp [e1, e2]
    omega
  · unfold ownV hopsB
    rw [if_pos (by omega), if_pos (by omega)]
    simp [Vec.ok]
    omega
theorem out_claim {b : Bridge} {x : In} (hb : b.ok = true) {o : Out} (ho : o ∈ (reactB b x).2) (hk : o.kind = 1) : o.vec.ok = true ∧ 0 ≤ o.hops ∧ o.hops ≤ 8 := by
  by_cases hy : b.ok = true ∧ x.ok = true ∧ x.port < b.ports.length
  · rw [reactB_yes hy.1 hy.2.1 hy.2.2] at ho
    have hx := In.ok_kind hy.2.1
    have hco := nextB_ok (x := x) hb (by omega)
    unfold outsB at ho
    rcases List.mem_append.1 ho with ho | ho
    · have := upto_all (f := gateAt b (nextB b x)) (p := fun o => o.kind = 2) (fun i o ho => by
        unfold gateAt at ho
        split at ho
        · split at ho
          · simp at ho
          · simp at ho; rw [ho]
        · simp at ho) _ _ ho
      omega
    · split at ho
      · exact upto_all (f := claimAt (nextB b x)) (p := fun o => o.vec.ok = true ∧ 0 ≤ o.hops ∧ o.hops ≤ 8) (fun i o ho => by
          unfold claimAt at ho
          split at ho
          · rename_i q hq
            split at ho
            · simp at ho; rw [ho]; exact claim_ok hco (List.getElem?_eq_some_iff.1 hq).1
            · simp at ho
          · simp at ho) _ _ ho
      · simp at ho
  · rw [reactB_no hy] at ho
    simp at ho
theorem claimIn_ok {b : Bridge} {x : In} (hb : b.ok = true) {o : Out} (ho : o ∈ (reactB b x).2) (hk : o.kind = 1) {port : Int} (h0 : 0 ≤ port) (h3 : port ≤ 3) : (claimIn port o).ok = true := by
  obtain ⟨h1, h2, h4⟩ := out_claim hb ho hk
  have h1' : (claimIn port o).vec.ok = true := h1
  simp [In.ok, h1']
  simp [claimIn]
  omega
theorem tickIn_ok : tickIn.ok = true := by decide

theorem otherM {H : Heap} {id : Nat} {l : List Lf} {n : Net} (hb : blkAt H id = some ⟨27, .wr, [l]⟩) (h : RdNet H l n) (hn : n.links.length ≤ 1048576) (a p : Int) :
    ∃ (e : Int × Int) (k : Int), run env 94 [.ptr id 0 0, .agg [.i .i64 a, .i .i64 p]] H = some (.tup [.agg [.i .i64 e.1, .i .i64 e.2], .lf (.i .i64 k)], H) ∧ ((0 ≤ k ∧ otherL n.links a p = some e) ∨ (k = -1 ∧ otherL n.links a p = none)) := by
  have hrun : Runs env 94 [.ptr id 0 0, .agg [.i .i64 a, .i .i64 p]] H fun v H' => ∃ (e : Int × Int) (k : Int), (v = .tup [.agg [.i .i64 e.1, .i .i64 e.2], .lf (.i .i64 k)] ∧ H' = H) ∧ ((0 ≤ k ∧ otherL n.links a p = some e) ∨ (k = -1 ∧ otherL n.links a p = none)) := by
    obtain ⟨q0, _, rfl, -, ⟨a1, rfl, r1⟩⟩ := h
    have hid0 := blkAt_len hb
    have el := fun H (l1 l2 l3 l4 : Int) => linkEnds H ⟨l1, l2, l3, l4⟩
    simp only [Link.enc, encE] at el
    simp only [Net.enc] at hb
    refine Runs.walk ok94 Try.func94 rfl (by simp [Try.f94]) fun Q hQ => ?_
    simp only [Try.f94, strip, stripL, stripI, stripG, chkT, tagsB, tagsL, tagD, addT, tagA, lookN, tagOp, elmT, ty22, ty24, ty25, ty33, ty54, ty58, ty95, ty122, Nat.reduceEqDiff, if_false, reduceIte, Option.getD_some, Option.getD_none, dstAt, dstOk, Nat.reduceLT, decide_true, if_true]
    have fin : ∀ (tm : Ab.T) (G : Heap) (e : Int × Int) (k : Int) (B : Option Blk), tm 4 = .ptr (H.length + 1) 0 0 → tm 5 = .int k → ((0 ≤ k ∧ otherL n.links a p = some e) ∨ (k = -1 ∧ otherL n.links a p = none)) → Q .ret tm (H ++ B :: some ⟨75, .wr, [[.i .i64 e.1, .i .i64 e.2]]⟩ :: G) := by
      intro tm G e k B t4 t5 hk
      refine hQ _ _ _ (by simp) ?_
      have hres : resT env.τ tm (H ++ B :: some ⟨75, .wr, [[.i .i64 e.1, .i .i64 e.2]]⟩ :: G) (Try.f94.results.toList) = some [W.agg [.i .i64 e.1, .i .i64 e.2], W.lf (.i .i64 k)] := by simp [Try.f94, t4, t5]
      rw [hres, optK_some]
      exact ⟨e, k, ⟨rfl, by simp⟩, hk⟩
    simp [hb, hid0, builtinV, pureB, lenV]
    refine wpS_loop (fun j tm H' => ∃ i G, i + j = n.links.length ∧ tm 0 = .ptr id 0 0 ∧ tm 3 = .ptr H.length 0 0 ∧ tm 4 = .ptr (H.length + 1) 0 0 ∧ tm 13 = .w (.lf (.sl a1 n.links.length)) ∧ tm 14 = .int n.links.length ∧ tm 15 = .int i ∧ H' = H ++ some ⟨75, .wr, [[.i .i64 a, .i .i64 p]]⟩ :: some ⟨75, .wr, [[.i .i64 0, .i .i64 0]]⟩ :: G ∧ otherL n.links a p = otherL (n.links.drop i) a p) n.links.length (by rw [env_K]; omega) ⟨0, [], by simp, by simp, by simp, by simp, by simp, by simp, by simp, by simp, by simp⟩ ?_
    rintro j tm H' hj ⟨i, G, hij, t0, t3, t4, t13, t14, t15, rfl, hoth⟩ Q2 hn2 he2 hr2
    simp [t13, t14, t15]
    refine selS_intro (fun hc => ?_) (fun hc => ?_)
    · simp at hc
      obtain ⟨id2, r, bl, rfl, hbl, hbe, hrow⟩ := r1 i _ (by simp [hc]; rfl)
      have hid := blkAt_len hbl
      have g4 : IntKind.i64.wrap ((i : Int) + 1) = (i : Int) + 1 := wrap64 (by omega) (by omega)
      rw [List.drop_eq_getElem_cons hc, otherL] at hoth
      obtain ⟨L, hL⟩ : ∃ L, L = n.links[i] := ⟨_, rfl⟩
      rw [← hL] at hoth hrow
      simp [t0, t3, t4, t13, t14, t15, indexAddrV, elemIs, hid, hbl, hbe, hc, hrow, Link.enc, el]
      by_cases h1 : L.a = a ∧ L.p = p
      · rw [if_pos h1] at hoth
        simp [h1, t4]
        refine hr2 _ _ ?_
        simp
        exact fin _ _ (L.b, L.q) i _ (by simp [t4]) (by simp) (.inl ⟨by omega, hoth⟩)
      · rw [if_neg h1] at hoth
        have h1' := andD h1
        by_cases h2 : L.b = a ∧ L.q = p
        · rw [if_pos h2] at hoth
          simp [h1']
          simp [h2, t3, t4]
          refine hr2 _ _ ?_
          simp
          exact fin _ _ (L.a, L.p) i _ (by simp [t4]) (by simp) (.inl ⟨by omega, hoth⟩)
        · rw [if_neg h2] at hoth
          have h2' := andD h2
          simp [h1', h2', t0, t3, t4, t13, t14, t15, g4]
          refine hn2 (j - 1) _ _ (by omega) ⟨i + 1, _, by omega, by simp [t0], by simp [t3], by simp [t4], by simp [t13], by simp [t14], by simp, rfl, hoth⟩
    · simp at hc
      obtain rfl : i = n.links.length := by omega
      rw [List.drop_length, otherL] at hoth
      simp [t13, t14, t15]
      refine he2 _ _ _ ?_
      simp [t4]
      exact fin _ _ (0, 0) (-1) _ (by simp [t4]) (by simp) (.inr ⟨rfl, hoth⟩)
  obtain ⟨v, H', hr, e, k, ⟨rfl, rfl⟩, hk⟩ := hrun
  exact ⟨e, k, hr, hk⟩

theorem l10Other {H : Heap} {l : List Lf} {n : Net} (h : RdNet H l n) (hn : n.links.length ≤ 1048576) (a p : Int) :
    run env 106 [.agg l, .int a, .int p] H = some (.tup [.lf (.i .i64 ((otherL n.links a p).getD (0, 0)).1), .lf (.i .i64 ((otherL n.links a p).getD (0, 0)).2), .lf (.b (otherL n.links a p).isSome)], H) := by
  obtain ⟨q0, _, rfl, -, ⟨a1, rfl, r1⟩⟩ := h
  refine run_walk ok106 Try.func106 rfl (by simp [Try.f106]) fun Q hQ => ?_
  simp only [Try.f106, strip, stripL, stripI, stripG, chkT, tagsB, tagsL, tagD, addT, tagA, lookN, tagOp, elmT, ty22, ty24, ty25, ty33, ty54, ty58, ty95, ty122, Nat.reduceEqDiff, if_false, reduceIte, Option.getD_some, Option.getD_none, dstAt, dstOk, Nat.reduceLT, decide_true, if_true]
  have fin : ∀ (tm : Ab.T) (G : Heap) (e : Int × Int) (b : Bool), tm 6 = .int e.1 → tm 7 = .int e.2 → tm 8 = .bool b → ((otherL n.links a p).getD (0, 0) = e ∧ (otherL n.links a p).isSome = b) → Q .ret tm (H ++ G) := by
    rintro tm G e b t6 t7 t8 ⟨hk1, hk2⟩
    refine hQ _ _ _ (by simp) ?_
    have hres : resT env.τ tm (H ++ G) (Try.f106.results.toList) = some [W.lf (.i .i64 e.1), W.lf (.i .i64 e.2), W.lf (.b b)] := by simp [Try.f106, t6, t7, t8]
    rw [hres, optK_some, hk1, hk2]
    exact ⟨rfl, by simp⟩
  simp [Net.enc]
  refine wpS_loop (fun j tm H' => ∃ i G, i + j = n.links.length ∧ tm 1 = .int a ∧ tm 2 = .int p ∧ tm 3 = .ptr H.length 0 0 ∧ tm 9 = .int i ∧ H' = H ++ some ⟨27, .wr, [[q0, .sl a1 n.links.length]]⟩ :: G ∧ otherL n.links a p = otherL (n.links.drop i) a p) n.links.length (by rw [env_K]; omega) ⟨0, [], by simp, by simp, by simp, by simp, by simp, by simp, by simp⟩ ?_
  rintro j tm H' hj ⟨i, G, hij, t1, t2, t3, t9, rfl, hoth⟩ Q2 hn2 he2 hr2
  simp [t3, t9, builtinV, pureB, lenV]
  refine selS_intro (fun hc => ?_) (fun hc => ?_)
  · simp at hc
    obtain ⟨id2, r, bl, rfl, hbl, hbe, hrow⟩ := r1 i _ (by simp [hc]; rfl)
    have hid := blkAt_len hbl
    have g4 : IntKind.i64.wrap ((i : Int) + 1) = (i : Int) + 1 := wrap64 (by omega) (by omega)
    rw [List.drop_eq_getElem_cons hc, otherL] at hoth
    obtain ⟨L, hL⟩ : ∃ L, L = n.links[i] := ⟨_, rfl⟩
    rw [← hL] at hoth hrow
    simp [t1, t2, t3, t9, indexAddrV, elemIs, hid, hbl, hbe, hc, hrow, Link.enc]
    have next : ∀ tm' G', tm' 1 = .int a → tm' 2 = .int p → tm' 3 = .ptr H.length 0 0 → tm' 9 = .int ((i : Int) + 1) → otherL n.links a p = otherL (n.links.drop (i + 1)) a p → Q2 .normal tm' (H ++ some ⟨27, .wr, [[q0, .sl (some (id2, r)) n.links.length]]⟩ :: G') := by
      intro tm' G' a1 a2 a3 a9 hx
      exact hn2 (j - 1) _ _ (by omega) ⟨i + 1, G', by omega, a1, a2, a3, by simpa using a9, rfl, hx⟩
    have yes : ∀ e, otherL n.links a p = some e → ∀ tm' G', tm' 6 = .int e.1 → tm' 7 = .int e.2 → tm' 8 = .bool true → Q2 .ret tm' (H ++ G') := by
      intro e he tm' G' a6 a7 a8
      refine hr2 _ _ ?_
      simp
      exact fin _ _ e true a6 a7 a8 (by simp [he])
    by_cases c1 : L.a = a
    · simp [c1, t1, t2]
      by_cases c2 : L.p = p
      · rw [if_pos ⟨c1, c2⟩] at hoth
        simp [c2]
        exact yes _ hoth _ _ (by simp) (by simp) (by simp)
      · rw [if_neg (fun h => c2 h.2)] at hoth
        simp [c2, t1, t2]
        by_cases c3 : L.b = a
        · simp [c3, t2]
          by_cases c4 : L.q = p
          · rw [if_pos ⟨c3, c4⟩] at hoth
            simp [c4]
            exact yes _ hoth _ _ (by simp [c1]) (by simp) (by simp)
          · rw [if_neg (fun h => c4 h.2)] at hoth
            simp [c4, t1, t2, t3, t9, g4]
            exact next _ _ (by simp [t1]) (by simp [t2]) (by simp [t3]) (by simp) hoth
        · rw [if_neg (fun h => c3 h.1)] at hoth
          simp [c3, t1, t2, t3, t9, g4]
          exact next _ _ (by simp [t1]) (by simp [t2]) (by simp [t3]) (by simp) hoth
    · rw [if_neg (fun h => c1 h.1)] at hoth
      simp [c1, t1, t2]
      by_cases c3 : L.b = a
      · simp [c3, t2]
        by_cases c4 : L.q = p
        · rw [if_pos ⟨c3, c4⟩] at hoth
          simp [c4]
          exact yes _ hoth _ _ (by simp) (by simp) (by simp)
        · rw [if_neg (fun h => c4 h.2)] at hoth
          simp [c4, t1, t2, t3, t9, g4]
          exact next _ _ (by simp [t1]) (by simp [t2]) (by simp [t3]) (by simp) hoth
      · rw [if_neg (fun h => c3 h.1)] at hoth
        simp [c3, t1, t2, t3, t9, g4]
        exact next _ _ (by simp [t1]) (by simp [t2]) (by simp [t3]) (by simp) hoth
  · simp at hc
    obtain rfl : i = n.links.length := by omega
    rw [List.drop_length, otherL] at hoth
    simp [t3, t9]
    refine he2 _ _ _ ?_
    simp
    exact fin _ _ (0, 0) false (by simp) (by simp) (by simp) (by simp [hoth])

/-- One bridge of a net reacts in its place. -/
theorem reactAt {H : Heap} {a : Option (Nat × Nat)} {rows : List (List Lf)} {fp0 : List Nat} {fps : List (List Nat)} {m : Net} (ho : Own H 56 a rows fp0) (hp : Part IsBridge H rows m.bridges fps) (hdis : ∀ i ∈ fp0, i ∉ fps.flatten) (hw : NetW m) {t : Nat} (ht : t < m.bridges.length) (x : In) (hx : x.ok = true) (hk : x.port.toNat < (bAt m t).ports.length) :
    ∃ (bid : Nat) (blo : Blk), a = some (bid, 0) ∧ fp0 = [bid] ∧ bid < H.length ∧ blkAt H bid = some blo ∧ blo.elem = 56 ∧ Runs env 62 [.ptr bid t 0, .agg x.enc] H fun v H' => ∃ q fp2, v = .w (.lf q) ∧ IsOutS H' q (reactB (bAt m t) x).2 fp2 ∧ Part IsBridge H' rows (setBr m t (reactB (bAt m t) x).1).bridges fps ∧ Keep fps.flatten H H' ∧ (∀ i ∈ fp2, H.length ≤ i) := by
  obtain ⟨h1, h2, a1, hrow, hown⟩ := hp.get ht
  obtain ⟨bid, blo, rfl, rfl, hb, hbe, hm, hpre⟩ := ho.blk (by rintro rfl; simp at h1)
  obtain ⟨tl, htl⟩ := hpre
  have hrow2 : blo.rows[t]? = some (m.bridges[t].enc a1) := by rw [← htl, List.getElem?_append_left h1, List.getElem?_eq_getElem h1, hrow]
  have hbt : bAt m t = m.bridges[t] := bAt_eq ht
  have hok := bAt_ok hw ht
  rw [hbt] at hok hk ⊢
  obtain ⟨-, hx0, -⟩ := In.ok_kind hx
  have hyes := reactB_yes hok hx (by omega)
  have hidf : bid ∉ fps[t] := fun hi => hdis bid (by simp) (flat_mem (List.getElem?_eq_getElem h2) hi)
  refine ⟨bid, blo, rfl, rfl, blkAt_len hb, hb, hbe, ?_⟩
  refine (reactM hb hbe hrow2 hown hidf hok x hx (k := x.port.toNat) (by omega) hk).mono ?_
  rintro v H' ⟨q, f2, rfl, o2, o3, k3, hf2⟩
  have hget : fps[t]?.getD [] = fps[t] := by rw [List.getElem?_eq_getElem h2]; rfl
  have h4 := hp.turn (i := t) (row := rows[t]) (x := nextB m.bridges[t] x) (g := fps[t]) okBridge (by rw [hget]; exact k3) ht ⟨a1, by rw [hrow]; simp [Bridge.enc, nextB_id, nextB_len], o3⟩ (fun j hj => .inl (by rw [hget]; exact hj))
  have e1 : fps.set t fps[t] = fps := by simp
  have e2 : rows.set t rows[t] = rows := by simp
  rw [e1, e2] at h4
  refine ⟨q, f2, rfl, by rw [hyes]; exact o2, by rw [hyes]; exact h4, k3.more fun i hi _ => flat_mem (List.getElem?_eq_getElem h2) hi, hf2⟩

theorem roundM {H : Heap} {id : Nat} {l : List Lf} {n : Net} {fp : List Nat} (hb : blkAt H id = some ⟨27, .wr, [l]⟩) (hI : IsNet H l n fp) (hid : id ∉ fp) (hw : NetW n) :
    Runs env 53 [.ptr id 0 0] H fun v H' => v = .tup [] ∧ IsNet H' l (roundN n) fp ∧ Keep fp H H' := by
  have hlt := hI.lt
  obtain ⟨_, _, _, f1, rfl, ⟨a, rows, fp0, fps, rfl, ho, hp, rfl, hnd0⟩, ⟨a1, rfl, o1⟩, rfl, hnd⟩ := hI
  have hdis : ∀ i ∈ fp0, i ∉ fps.flatten := fun i hi hj => (List.nodup_append.1 hnd0).2.2 i hi i hj rfl
  have x1 : ∀ i ∈ f1, i ∉ fps.flatten := fun i hi hj => (List.nodup_append.1 hnd).2.2 i (by simp only [List.mem_append]; exact .inr hj) i hi rfl
  have hidf : id ∉ fps.flatten := fun hj => hid (by simp only [List.mem_append]; exact .inl (.inr hj))
  obtain ⟨hl5, hl6⟩ := hw.len
  have e3 := fun (H' : Heap) (m : Net) (hk : Keep fps.flatten H H') (hp' : Part IsBridge H' rows m.bridges fps) (hml : m.bridges.length = n.bridges.length) (hmk : m.links = n.links) (c p : Int) => otherM (n := m) (hk.blk hb hidf) ⟨.sl a n.bridges.length, .sl a1 n.links.length, rfl, ⟨a, rows, by rw [hml], (ho.keep hk hdis).sl, by rw [hp'.len], fun i row x h1 h2 => by
      have hi := (List.getElem?_eq_some_iff.1 h2).1
      have h3 : i < fps.length := by rw [hp'.len2]; exact hi
      exact (hp'.at_ i row x _ h1 h2 (List.getElem?_eq_getElem h3)).rd⟩, ⟨a1, by rw [hmk], by rw [hmk]; exact (o1.keep hk x1).sl⟩⟩ (by rw [hmk]; omega) c p
  simp only [Net.enc] at hb
  have hid0 := blkAt_len hb
  refine Runs.walk ok53 Try.func53 rfl (by simp [Try.f53]) fun Q hQ => ?_
  simp only [Try.f53, strip, stripL, stripI, stripG, chkT, tagsB, tagsL, tagD, addT, tagA, lookN, tagOp, elmT, ty22, ty24, ty25, ty33, ty54, ty58, ty95, ty122, Nat.reduceEqDiff, if_false, reduceIte, Option.getD_some, Option.getD_none, dstAt, dstOk, Nat.reduceLT, decide_true, if_true]
  simp [hb, hid0, builtinV, pureB, lenV]
  refine wpS_loop (fun j tm H' => ∃ i, i + j = n.bridges.length ∧ tm 0 = .ptr id 0 0 ∧ tm 11 = .int n.bridges.length ∧ tm 12 = .int i ∧ Part IsBridge H' rows (roundU n i).bridges fps ∧ Keep fps.flatten H H') n.bridges.length (by rw [env_K]; omega) ⟨0, by simp, by simp, by simp, by simp, hp, Keep.refl _ _⟩ ?_
  rintro j tm H1 hj ⟨i, hij, t0, t11, t12, hp1, hk1⟩ Q2 hn2 he2 hr2
  simp [t11, t12]
  refine selS_intro (fun hc => ?_) (fun hc => ?_)
  · simp at hc
    obtain ⟨hwi, hli, hki⟩ := roundU_w hw i (by omega)
    have hb1 := hk1.blk hb hidf
    have hid1 := blkAt_len hb1
    have hci : i < (roundU n i).bridges.length := by omega
    have hpo : 0 < (bAt (roundU n i) i).ports.length := by have := (Bridge.ok_all (bAt_ok hwi hci)).2.2.2.1; omega
    obtain ⟨bid, blo, ha, hf0, hbl, hbb, hbe, hrun⟩ := reactAt (ho.keep hk1 hdis) hp1 hdis hwi hci tickIn tickIn_ok (by simp [tickIn]; omega)
    subst ha
    simp only [tickIn, In.enc] at hrun
    have g4 : IntKind.i64.wrap ((i : Int) + 1) = (i : Int) + 1 := wrap64 (by omega) (by omega)
    simp [t0, t11, t12, hb1, hid1, indexAddrV, elemIs, hbb, hbe, hbl, hc]
    refine stpL_runs hrun ?_
    rintro _ H2 ⟨_, f2, rfl, ⟨a2, rfl, o2⟩, hp2, hk2, hf2⟩
    obtain ⟨os, hos⟩ : ∃ os, os = (reactB (bAt (roundU n i) i) tickIn).2 := ⟨_, rfl⟩
    have hos' : (reactB (bAt (roundU n i) i) ⟨2, 0, ⟨0, 0, 0, 0⟩, 0, false⟩).2 = os := by rw [hos]; rfl
    rw [hos'] at o2 ⊢
    have hoc := fun o (h : o ∈ os) (hk : o.kind = 1) (p : Int) (h0 : 0 ≤ p) (h3 : p ≤ 3) => claimIn_ok (bAt_ok hwi hci) (x := tickIn) (by rw [← hos]; exact h) hk h0 h3
    have hol : os.length ≤ 8 := by
      have := reactB_outs (bAt (roundU n i) i) tickIn
      have h4 := (Bridge.ok_all (bAt_ok hwi hci)).2.2.2.2
      rw [hos]; omega
    obtain ⟨m1, hm1⟩ : ∃ m1, m1 = setBr (roundU n i) i (reactB (bAt (roundU n i) i) tickIn).1 := ⟨_, rfl⟩
    have hp2' : Part IsBridge H2 rows m1.bridges fps := by rw [hm1]; exact hp2
    have hw1 : NetW m1 := by rw [hm1]; exact hwi.set hci (reactB_ok _ (bAt_ok hwi hci)) (reactB_len _ _)
    have hl1 : m1.bridges.length = n.bridges.length := by rw [hm1]; simp [setBr]; omega
    have hk1' : m1.links = n.links := by rw [hm1]; exact hki
    have hra : roundAt (roundU n i) i = os.foldl (sendTo i) m1 := by rw [hm1, hos]; rfl
    have h12 := hk2.1
    have h01 := hk1.1
    have s2 := o2.sl
    have hf2' : ∀ k ∈ f2, k ∉ fps.flatten := fun k hk hj => by
      have := hf2 k hk
      have := hlt k (by simp only [List.mem_append]; exact .inl (.inr hj))
      omega
    have kH2 : Keep fps.flatten H H2 := hk1.trans hk2 (fun _ h _ => h) (fun _ h _ => h)
    clear hm1 hos hos' hp2 hrun hp1
    simp [t0, t11, t12, builtinV, pureB, lenV]
    refine wpS_loop (fun j2 tm H' => ∃ k, k + j2 = os.length ∧ tm 0 = .ptr id 0 0 ∧ tm 2 = .int i ∧ tm 11 = .int n.bridges.length ∧ tm 12 = .int i ∧ tm 22 = .w (.lf (.sl a2 os.length)) ∧ tm 23 = .int os.length ∧ tm 24 = .int k ∧ Part IsBridge H' rows ((os.take k).foldl (sendTo i) m1).bridges fps ∧ Keep fps.flatten H2 H') os.length (by rw [env_K]; omega) ⟨0, by simp, by simp [t0], by simp, by simp [t11], by simp [t12], by simp, by simp, by simp, hp2', Keep.refl _ _⟩ ?_
    rintro j2 tm H3 hj2 ⟨k, hkj, t0, t2, t11, t12, t22, t23, t24, hp3, hk3⟩ Q3 hn3 he3 hr3
    simp [t22, t23, t24]
    refine selS_intro (fun hc2 => ?_) (fun hc2 => ?_)
    · simp at hc2
      obtain ⟨id2, r, bl, rfl, hbl2, hbe2, hrow2⟩ := (s2.keep hk3 (fun i r h hj => hf2' i (o2.ids i r h) hj)) k _ (by simp [hc2]; rfl)
      have hid2 := blkAt_len hbl2
      have g5 : IntKind.i64.wrap ((k : Int) + 1) = (k : Int) + 1 := wrap64 (by omega) (by omega)
      have hstep : (os.take (k + 1)).foldl (sendTo i) m1 = sendTo i ((os.take k).foldl (sendTo i) m1) os[k] := by
        rw [List.take_add_one, List.getElem?_eq_getElem hc2, List.foldl_append]; rfl
      obtain ⟨hwm, hlm, hkm⟩ := fold_w hw1 i (os.take k) hw1 rfl rfl
      have hmem := List.getElem_mem hc2
      obtain ⟨o, hoo⟩ : ∃ o, o = os[k] := ⟨_, rfl⟩
      rw [← hoo] at hstep hrow2 hmem
      obtain ⟨m, hmm⟩ : ∃ m, m = (os.take k).foldl (sendTo i) m1 := ⟨_, rfl⟩
      rw [← hmm] at hstep hp3 hwm hlm hkm
      have k03 : Keep fps.flatten H H3 := kH2.trans hk3 (fun _ h _ => h) (fun _ h _ => h)
      have next : ∀ (tm' : Ab.T) (H' : Heap), tm' 0 = .ptr id 0 0 → tm' 2 = .int i → tm' 11 = .int n.bridges.length → tm' 12 = .int i → tm' 22 = .w (.lf (.sl (some (id2, r)) os.length)) → tm' 23 = .int os.length → tm' 24 = .int ((k : Int) + 1) → Part IsBridge H' rows (sendTo i m o).bridges fps → Keep fps.flatten H3 H' → Q3 .normal tm' H' := by
        intro tm' H' a0 a2 a11 a12 a22 a23 a24 hpp hkk
        exact hn3 (j2 - 1) _ _ (by omega) ⟨k + 1, by omega, a0, a2, a11, a12, a22, a23, by simpa using a24, by rw [hstep]; exact hpp, hk3.trans hkk (fun _ h _ => h) (fun _ h _ => h)⟩
      have kapp : ∀ T, Keep fps.flatten H3 (H3 ++ T) := fun T => Keep.app _ _ _
      simp [t0, t2, t11, t12, t22, t23, t24, indexAddrV, elemIs, hid2, hbl2, hbe2, hc2, hrow2, Out.enc]
      by_cases hk1 : o.kind = 1
      · obtain ⟨e, idx, hrun, hcase⟩ := e3 (H3 ++ [some ⟨108, .wr, [[.i .i64 o.kind, .i .i64 o.port, .i .i64 o.vec.root, .i .i64 o.vec.cost, .i .i64 o.vec.bridge, .i .i64 o.vec.port, .i .i64 o.hops, .b o.on]]⟩]) m (k03.trans (kapp _) (fun _ h _ => h) (fun _ h _ => h)) (hp3.keep okBridge (Keep.app [] _ _) (by simp)) (by omega) (by rw [hkm, hk1']) (i : Int) o.port
        rw [hk1] at hrun
        simp [hk1, t0, t2, hrun]
        rcases hcase with ⟨hi0, hoth⟩ | ⟨hi1, hoth⟩
        · obtain ⟨ea0, ea1, ea2, ea3⟩ := otherL_at hwm hoth
          have hst : sendTo i m o = setBr m e.1.toNat (reactB (bAt m e.1.toNat) (claimIn e.2 o)).1 := by unfold sendTo; rw [if_pos hk1, hoth]
          have h4 := (Bridge.ok_all (bAt_ok hwm ea1)).2.2.2.2
          have ho3 := (ho.keep k03 hdis).app [some ⟨108, .wr, [[.i .i64 1, .i .i64 o.port, .i .i64 o.vec.root, .i .i64 o.vec.cost, .i .i64 o.vec.bridge, .i .i64 o.vec.port, .i .i64 o.hops, .b o.on]]⟩, some ⟨75, .wr, [[.i .i64 e.1, .i .i64 e.2]]⟩]
          obtain ⟨bid', blo', ha', hf0', hbl', hbb', hbe', hrun'⟩ := reactAt ho3 (hp3.keep okBridge (Keep.app [] _ _) (by simp)) hdis hwm ea1 (claimIn e.2 o) (hoc o hmem hk1 e.2 ea2 (by omega)) (by simpa [claimIn] using ea3)
          cases ha'
          have hb3 := k03.blk hb hidf
          have hid3 := blkAt_len hb3
          have hbb3 : blkAt H3 bid = some blo' := by
            have hl : bid < H3.length := by have := hk3.1; have := hk2.1; have := hk1'; omega
            rwa [blkAt_lt hl] at hbb'
          have hl3 := blkAt_len hbb3
          have ea4 : e.1 < (n.bridges.length : Int) := by omega
          have ea5 : e.1.toNat < n.bridges.length := by omega
          simp only [claimIn, In.enc] at hrun'
          simp [hi0, t0, hb3, hid3, indexAddrV, elemIs, hbb3, hbe', hl3, ea0, ea4, ea5]
          refine stpL_runs_w hrun' rfl (by rintro _ _ ⟨_, _, _, _, _, hk, _⟩; exact hk.1) ?_
          rintro _ H4 ⟨_, f4, rfl, o4, hp4, hk4, hf4⟩
          simp [t0, t2, t11, t12, t22, t23, t24, g5]
          refine next _ _ (by simp [t0]) (by simp [t2]) (by simp [t11]) (by simp [t12]) (by simp [t22]) (by simp [t23]) (by simp) (by rw [hst]; exact hp4) ((kapp _).trans hk4 (fun _ h _ => h) (fun _ h _ => h))
        · have hst : sendTo i m o = m := by unfold sendTo; rw [if_pos hk1, hoth]
          subst hi1
          simp [t0, t2, t11, t12, t22, t23, t24, g5]
          refine next _ _ (by simp [t0]) (by simp [t2]) (by simp [t11]) (by simp [t12]) (by simp [t22]) (by simp [t23]) (by simp) (by rw [hst]; exact hp3.keep okBridge (Keep.app [] _ _) (by simp)) (kapp _)
      · have hst : sendTo i m o = m := by unfold sendTo; rw [if_neg hk1]
        simp [hk1, t0, t2, t11, t12, t22, t23, t24, g5]
        refine next _ _ (by simp [t0]) (by simp [t2]) (by simp [t11]) (by simp [t12]) (by simp [t22]) (by simp [t23]) (by simp) (by rw [hst]; exact hp3.keep okBridge (Keep.app [] _ _) (by simp)) (kapp _)
    · simp at hc2
      obtain rfl : k = os.length := by omega
      rw [List.take_length, ← hra] at hp3
      simp [t22, t23, t24]
      refine he3 _ _ _ ?_
      simp [t0, t11, t12, g4]
      exact hn2 (j - 1) _ _ (by omega) ⟨i + 1, by omega, by simp [t0], by simp [t11], by simp, hp3, kH2.trans hk3 (fun _ h _ => h) (fun _ h _ => h)⟩
  · simp at hc
    obtain rfl : i = n.bridges.length := by omega
    simp [t11, t12]
    refine he2 _ _ _ ?_
    simp
    refine hQ _ _ _ (by simp) ?_
    obtain ⟨-, hli, hki⟩ := roundU_w hw n.bridges.length (Nat.le_refl _)
    have o0 : IsBridgeS H1 (.sl a n.bridges.length) (roundN n).bridges (fp0 ++ fps.flatten) := ⟨a, rows, fp0, fps, by rw [roundN, hli], ho.keep hk1 hdis, hp1, rfl, hnd0⟩
    have q1 : IsLinkS H1 (.sl a1 n.links.length) (roundN n).links f1 := ⟨a1, by rw [roundN, hki], by rw [roundN, hki]; exact o1.keep hk1 x1⟩
    have hK : Keep ((fp0 ++ fps.flatten) ++ f1) H H1 := hk1.more fun i hi _ => by simp only [List.mem_append]; exact .inl (.inr hi)
    have hI1 : IsNet H1 (.sl a n.bridges.length ::[.sl a1 n.links.length]) (roundN n) ((fp0 ++ fps.flatten) ++ f1) := ⟨_, _, _, f1, rfl, o0, q1, rfl, hnd⟩
    have hU : ∀ G, H1 = H ++ G → IsNet H (.sl a n.bridges.length ::[.sl a1 n.links.length]) (roundN n) ((fp0 ++ fps.flatten) ++ f1) := by
      rintro G rfl
      refine ⟨_, _, _, f1, rfl, o0.unapp okBridge unBridge (fun i hi => hlt i (by simp only [List.mem_append] at hi ⊢; exact .inl hi)), ?_, rfl, hnd⟩
      obtain ⟨a', h1, h2⟩ := q1
      exact ⟨a', h1, h2.unapp (fun i hi => hlt i (by simp only [List.mem_append]; exact .inr hi))⟩
    simp [Try.f53]
    rcases leave_or H H1 ([] : List W) with e | ⟨e, G, hG⟩ <;> rw [e]
    · exact ⟨by rw [← List.append_assoc]; exact hI1, by simpa using hK⟩
    · exact ⟨by rw [← List.append_assoc]; exact hU G hG, Keep.refl _ _⟩

/-- A bridge of our own put in the place of another. -/
theorem placeAt {H H1 : Heap} {bid t : Nat} {blo : Blk} {rows : List (List Lf)} {fp0 : List Nat} {fps : List (List Nat)} {bs : List Bridge} {b : Bridge} {l2 : List Lf} {f2 : List Nat} (ho : Own H 56 (some (bid, 0)) rows fp0) (hp : Part IsBridge H rows bs fps) (hdis : ∀ i ∈ fp0, i ∉ fps.flatten) (ht : t < bs.length)
    (hk : Keep [] H H1) (hr : IsBridge H1 l2 b f2) (hf2 : ∀ i ∈ f2, H.length ≤ i) (hb : blkAt H1 bid = some blo) :
    Own (H1.set bid (some { blo with rows := blo.rows.set t l2 })) 56 (some (bid, 0)) (rows.set t l2) fp0 ∧ Part IsBridge (H1.set bid (some { blo with rows := blo.rows.set t l2 })) (rows.set t l2) (bs.set t b) (fps.set t f2) ∧ Keep fp0 H (H1.set bid (some { blo with rows := blo.rows.set t l2 })) ∧ ∀ k ∈ (fps.set t f2).flatten, k ∈ fps.flatten ∨ H.length ≤ k := by
  have hri : t < rows.length := by rw [hp.len]; exact ht
  have hbi : bid ∈ fp0 := ho.ids bid 0 rfl
  have hbl : bid < H.length := ho.lt bid hbi
  have o1 := (ho.keep hk (by simp)).set (row := l2) hb hri
  have hp1 := hp.turn okBridge (H' := H1) (i := t) (row := l2) (x := b) (g := f2) (hk.more (by simp)) ht hr (fun j hj => .inr (hf2 j hj))
  have hfl : ∀ k ∈ (fps.set t f2).flatten, k ∈ fps.flatten ∨ H.length ≤ k := fun k hk => by
    obtain ⟨f, hf, hkf⟩ := List.mem_flatten.1 hk
    rcases List.mem_or_eq_of_mem_set hf with hf | rfl
    · exact .inl (List.mem_flatten.2 ⟨f, hf, hkf⟩)
    · exact .inr (hf2 k hkf)
  have ks := Keep.set (id := bid) H1 (some { blo with rows := blo.rows.set t l2 })
  refine ⟨o1, hp1.keep okBridge ks (fun j hj hj' => ?_), hk.trans ks (by simp) (fun i hi _ => by simp at hi; rw [hi]; exact hbi), hfl⟩
  simp at hj'
  rcases hfl j hj with h | h
  · exact hdis bid hbi (hj' ▸ h)
  · omega

theorem l10RoundM {H : Heap} {l : List Lf} {n : Net} {fp : List Nat} (hI : IsNet H l n fp) (hw : NetW n) :
    Runs env 72 [.agg l] H fun v H' => v = .agg l ∧ ∃ fp', IsNet H' l (roundN n) fp' ∧ Keep fp H H' ∧ ∀ i ∈ fp', i ∈ fp ∨ H.length ≤ i := by
  have hlt := hI.lt
  obtain ⟨_, _, _, f1, rfl, ⟨a, rows, fp0, fps, rfl, ho, hp, rfl, hnd0⟩, ⟨a1, rfl, o1⟩, rfl, hnd⟩ := hI
  have hdis : ∀ i ∈ fp0, i ∉ fps.flatten := fun i hi hj => (List.nodup_append.1 hnd0).2.2 i hi i hj rfl
  have x01 : ∀ i ∈ f1, i ∉ fp0 := fun i hi hj => (List.nodup_append.1 hnd).2.2 i (by simp only [List.mem_append]; exact .inl hj) i hi rfl
  have x11 : ∀ i ∈ f1, i ∉ fps.flatten := fun i hi hj => (List.nodup_append.1 hnd).2.2 i (by simp only [List.mem_append]; exact .inr hj) i hi rfl
  have lt0 : ∀ i ∈ fp0, i < H.length := ho.lt
  have lt1 : ∀ i ∈ f1, i < H.length := o1.lt
  obtain ⟨hl5, hl6⟩ := hw.len
  refine Runs.walk ok72 Try.func72 rfl (by simp [Try.f72]) fun Q hQ => ?_
  simp only [Try.f72, strip, stripL, stripI, stripG, chkT, tagsB, tagsL, tagD, addT, tagA, lookN, tagOp, elmT, ty22, ty24, ty25, ty33, ty54, ty58, ty95, ty122, Nat.reduceEqDiff, if_false, reduceIte, Option.getD_some, Option.getD_none, dstAt, dstOk, Nat.reduceLT, decide_true, if_true]
  simp [Net.enc]
  obtain ⟨H3, hH3⟩ : ∃ H3 : Heap, H3 = H ++ [some ⟨27, .wr, [[.sl a n.bridges.length, .sl a1 n.links.length]]⟩, some ⟨27, .wr, [[.sl none 0, .sl none 0]]⟩] := ⟨_, rfl⟩
  have b1 : blkAt H3 H.length = some ⟨27, .wr, [[.sl a n.bridges.length, .sl a1 n.links.length]]⟩ := by rw [hH3]; simp
  have b2 : blkAt H3 (H.length + 1) = some ⟨27, .wr, [[.sl none 0, .sl none 0]]⟩ := by rw [hH3]; simp
  have k03 : Keep [] H H3 := by rw [hH3]; exact Keep.app _ _ _
  have hl3 : H3.length = H.length + 2 := by rw [hH3]; simp
  rw [← hH3]
  clear hH3
  have ho3 := ho.keep k03 (by simp)
  have hp3 := hp.keep okBridge k03 (by simp)
  have o13 := o1.keep k03 (by simp)
  clear ho hp o1
  -- what holds all along
  obtain ⟨St, hSt⟩ : ∃ St : Heap → Net → List (List Lf) → List (List Nat) → Prop, St = fun H' m rws fs => Own H' 56 a rws fp0 ∧ Part IsBridge H' rws m.bridges fs ∧ Keep fp0 H3 H' ∧ ∀ k ∈ fs.flatten, k ∈ fps.flatten ∨ H3.length ≤ k := ⟨_, rfl⟩
  have s0 : St H3 n rows fps := by rw [hSt]; exact ⟨ho3, hp3, Keep.refl _ _, fun k hk => .inl hk⟩
  have sdis : ∀ {H' m rws fs}, St H' m rws fs → ∀ i ∈ fp0, i ∉ fs.flatten := by
    intro H' m rws fs h i hi hj
    rw [hSt] at h
    rcases h.2.2.2 i hj with h | h
    · exact hdis i hi h
    · have := lt0 i hi; omega
  have sk : ∀ {H' m rws fs H''}, St H' m rws fs → Keep [] H' H'' → St H'' m rws fs := by
    intro H' m rws fs H'' h hk
    rw [hSt] at h ⊢
    exact ⟨h.1.keep hk (by simp), h.2.1.keep okBridge hk (by simp), h.2.2.1.trans hk (fun _ h _ => h) (by simp), h.2.2.2⟩
  have sb1 : ∀ {H' m rws fs}, St H' m rws fs → blkAt H' H.length = some ⟨27, .wr, [[.sl a n.bridges.length, .sl a1 n.links.length]]⟩ := by
    intro H' m rws fs h
    rw [hSt] at h
    exact h.2.2.1.blk b1 (fun h => by have := lt0 _ h; omega)
  have sb2 : ∀ {H' m rws fs}, St H' m rws fs → blkAt H' (H.length + 1) = some ⟨27, .wr, [[.sl none 0, .sl none 0]]⟩ := by
    intro H' m rws fs h
    rw [hSt] at h
    exact h.2.2.1.blk b2 (fun h => by have := lt0 _ h; omega)
  have sget : ∀ {H' m rws fs}, St H' m rws fs → NetW m → ∀ t, t < m.bridges.length → ∃ bid blo l0, a = some (bid, 0) ∧ bid < H'.length ∧ blkAt H' bid = some blo ∧ blo.elem = 56 ∧ blo.md = .wr ∧ blo.rows[t]? = some l0 ∧ RdBridge H' l0 (bAt m t) := by
    intro H' m rws fs h hwm t ht
    rw [hSt] at h
    obtain ⟨h1, h2, h3⟩ := h.2.1.get ht
    obtain ⟨bid, blo, ha, hf, hb, hbe, hm, hpre⟩ := h.1.blk (by rintro rfl; simp at h1)
    obtain ⟨tl, htl⟩ := hpre
    refine ⟨bid, blo, rws[t], ha, blkAt_len hb, hb, hbe, hm, ?_, ?_⟩
    · rw [← htl, List.getElem?_append_left h1, List.getElem?_eq_getElem h1]
    · rw [bAt_eq ht]; exact h3.rd
  have sset : ∀ {H' m rws fs}, St H' m rws fs → ∀ {t bid : Nat} {blo : Blk} {H1 : Heap} {l2 : List Lf} {b : Bridge} {f2 : List Nat}, t < m.bridges.length → a = some (bid, 0) → Keep [] H' H1 → IsBridge H1 l2 b f2 → (∀ i ∈ f2, H'.length ≤ i) → blkAt H1 bid = some blo → ∃ rws' fs', St (H1.set bid (some { blo with rows := blo.rows.set t l2 })) (setBr m t b) rws' fs' := by
    intro H' m rws fs h t bid blo H1 l2 b f2 ht ha hk hr hf2 hb
    have hd := sdis h
    rw [hSt] at h ⊢
    rw [ha] at h ⊢
    obtain ⟨p1, p2, p3, p4⟩ := placeAt h.1 h.2.1 hd ht hk hr hf2 hb
    refine ⟨_, _, p1, p2, h.2.2.1.trans p3 (fun _ h _ => h) (fun _ h _ => h), fun k hk => ?_⟩
    rcases p4 k hk with hh | hh
    · exact h.2.2.2 k hh
    · have := h.2.2.1.1; exact .inr (by omega)
  have srd : ∀ {H' m rws fs}, St H' m rws fs → m.bridges.length = n.bridges.length → m.links = n.links → RdNet H' [.sl a n.bridges.length, .sl a1 n.links.length] m := by
    intro H' m rws fs h hml hmk
    rw [hSt] at h
    refine ⟨.sl a n.bridges.length, .sl a1 n.links.length, rfl, ⟨a, rws, by rw [hml], h.1.sl, h.2.1.len, fun i row x h1 h2 => ?_⟩, ⟨a1, by rw [hmk], by rw [hmk]; exact (o13.keep h.2.2.1 x01).sl⟩⟩
    have hi := (List.getElem?_eq_some_iff.1 h2).1
    have h3 : i < fs.length := by rw [h.2.1.len2]; exact hi
    exact (h.2.1.at_ i row x _ h1 h2 (List.getElem?_eq_getElem h3)).rd
  have e3 := fun {H' : Heap} {m rws fs} (h : St H' m rws fs) (h1 : m.bridges.length = n.bridges.length) (h2 : m.links = n.links) (c p : Int) => l10Other (srd h h1 h2) (by rw [h2]; omega) c p
  refine wpS_loop (fun j tm H' => ∃ i rws fs, i + j = n.bridges.length ∧ tm 1 = .ptr H.length 0 0 ∧ tm 2 = .ptr (H.length + 1) 0 0 ∧ tm 3 = .int i ∧ St H' (roundU n i) rws fs) n.bridges.length (by rw [env_K]; omega) ⟨0, rows, fps, by simp, by simp, by simp, by simp, s0⟩ ?_
  rintro j tm H1 hj ⟨i, rws, fs, hij, t1, t2, t3, s1⟩ Q2 hn2 he2 hr2
  have c1 := sb1 s1
  have d1 := blkAt_len c1
  simp [t1, t3, c1, d1, builtinV, pureB, lenV]
  refine selS_intro (fun hc => ?_) (fun hc => ?_)
  · simp at hc
    obtain ⟨hwi, hli, hki⟩ := roundU_w hw i (by omega)
    have hci : i < (roundU n i).bridges.length := by omega
    obtain ⟨bid, blo, l0, rfl, hid, hbl, hbe, hbm, hrow, hrd⟩ := sget s1 hwi i hci
    have hL := hrd.len
    have hT : l0.take l0.length = l0 := List.take_length
    rw [hL] at hT
    have hbok := bAt_ok hwi hci
    have hb4 := (Bridge.ok_all hbok).2.2.2.2
    have hrun := specReact hrd (by unfold Bridge.sz; omega) tickIn
    simp only [In.enc] at hrun
    simp only [show tickIn.kind = 2 from rfl, show tickIn.port = 0 from rfl, show tickIn.vec = ⟨0, 0, 0, 0⟩ from rfl, show tickIn.hops = 0 from rfl, show tickIn.up = false from rfl] at hrun
    have g4 : IntKind.i64.wrap ((i : Int) + 1) = (i : Int) + 1 := wrap64 (by omega) (by omega)
    simp [t1, t3, c1, d1, indexAddrV, elemIs, hid, hbl, hbe, hc, hrow, hL, hT]
    refine stpL_runs hrun ?_
    rintro _ _ ⟨l2, f2, q, fq, rfl, o2, oq, ⟨⟨G2, rfl⟩, hf2⟩, hdj⟩
    obtain ⟨c2, hc2⟩ : ∃ c2, c2 = (reactB (bAt (roundU n i) i) tickIn).1 := ⟨_, rfl⟩
    obtain ⟨os, hos⟩ : ∃ os, os = (reactB (bAt (roundU n i) i) tickIn).2 := ⟨_, rfl⟩
    rw [← hos] at oq
    rw [← hc2] at o2
    have hoc := fun o (h : o ∈ os) (hk : o.kind = 1) (p : Int) (h0 : 0 ≤ p) (h3 : p ≤ 3) => claimIn_ok hbok (x := tickIn) (by rw [← hos]; exact h) hk h0 h3
    have hol : os.length ≤ 8 := by
      have := reactB_outs (bAt (roundU n i) i) tickIn
      rw [hos]; omega
    obtain ⟨m1, hm1⟩ : ∃ m1, m1 = setBr (roundU n i) i c2 := ⟨_, rfl⟩
    have hw1 : NetW m1 := by rw [hm1, hc2]; exact hwi.set hci (reactB_ok _ hbok) (reactB_len _ _)
    have hl1 : m1.bridges.length = n.bridges.length := by rw [hm1]; simp [setBr]; omega
    have hk1' : m1.links = n.links := by rw [hm1]; exact hki
    have hra : roundAt (roundU n i) i = os.foldl (sendTo i) m1 := by rw [hm1, hos, hc2]; rfl
    obtain ⟨a2, rfl, o2'⟩ := id o2
    obtain ⟨a3, rfl, oq'⟩ := id oq
    clear hos hc2 hrun hrd
    simp [Bridge.enc, t1, t3]
    obtain ⟨H4, hH4⟩ : ∃ H4 : Heap, H4 = H1 ++ (G2 ++ [some ⟨56, .wr, [[.i .i64 c2.id, .sl a2 c2.ports.length]]⟩]) := ⟨_, rfl⟩
    have k14 : Keep [] H1 H4 := by rw [hH4]; exact Keep.app _ _ _
    have b4 : blkAt H4 (H1.length + G2.length) = some ⟨56, .wr, [[.i .i64 c2.id, .sl a2 c2.ports.length]]⟩ := by rw [hH4]; simp
    have o24 : IsBridge H4 [.i .i64 c2.id, .sl a2 c2.ports.length] c2 f2 := by rw [hH4, ← List.append_assoc]; exact o2.app _
    have oq4 : IsOutS H4 (.sl a3 os.length) os fq := by rw [hH4, ← List.append_assoc]; exact oq.app _
    have hbl4 := k14.blk hbl (by simp)
    have c14 := k14.blk c1 (by simp)
    have d4 := blkAt_len b4
    have d14 := blkAt_len c14
    have hid4 := blkAt_len hbl4
    rw [← hH4]
    clear hH4 o2' oq'
    have hD : l0.drop 2 = [] := by rw [← hL]; exact List.drop_length
    simp [t1, t3, c14, d14, b4, d4, indexAddrV, elemIs, hbl4, hbe, hid4, hc, hbm, hrow, hL, hD]
    obtain ⟨rws', fs', s5⟩ := sset s1 hci rfl k14 o24 (fun k hk => hf2 k (List.mem_append.2 (.inl hk))) hbl4
    rw [← hm1] at s5
    have oq5 := oq4.keep (Keep.set (id := bid) H4 (some { blo with rows := blo.rows.set i [.i .i64 c2.id, .sl a2 c2.ports.length] })) (fun k hk hj => by have := hf2 k (List.mem_append.2 (.inr hk)); simp at hj; omega)
    have hbf : bid ∈ fp0 := ho3.ids bid 0 rfl
    have l3 : H3.length ≤ H1.length := by rw [hSt] at s1; exact s1.2.2.1.1
    have hfq : ∀ k ∈ fq, H3.length ≤ k := fun k hk => by have := hf2 k (List.mem_append.2 (.inr hk)); omega
    obtain ⟨H5, hH5⟩ : ∃ H5 : Heap, H5 = H4.set bid (some { blo with rows := blo.rows.set i [.i .i64 c2.id, .sl a2 c2.ports.length] }) := ⟨_, rfl⟩
    rw [← hH5] at s5 oq5
    have hset : H4.set bid (some ⟨56, .wr, blo.rows.set i [.i .i64 c2.id, .sl a2 c2.ports.length]⟩) = H5 := by rw [hH5, ← hbe, ← hbm]
    rw [hset]
    clear hset hH5 hm1 oq oq4 hbl4 c14 b4 o24 o2 k14
    have l5 : H3.length ≤ H5.length := by rw [hSt] at s5; exact s5.2.2.1.1
    obtain ⟨_, hq3, oq6⟩ := oq5
    cases hq3
    refine wpS_loop (fun j2 tm H' => ∃ k rws fs, k + j2 = os.length ∧ tm 1 = .ptr H.length 0 0 ∧ tm 2 = .ptr (H.length + 1) 0 0 ∧ tm 3 = .int i ∧ tm 5 = .w (.lf (.sl a3 os.length)) ∧ tm 6 = .int k ∧ St H' ((os.take k).foldl (sendTo i) m1) rws fs ∧ Keep fp0 H5 H') os.length (by rw [env_K]; omega) ⟨0, rws', fs', by simp, by simp [t1], by simp [t2], by simp [t3], by simp, by simp, s5, Keep.refl _ _⟩ ?_
    rintro j2 tm H6 hj2 ⟨k, rws6, fs6, hkj, t1, t2, t3, t5, t6, s6, hk6⟩ Q3 hn3 he3 hr3
    simp [t5, t6, builtinV, pureB, lenV]
    refine selS_intro (fun hc2 => ?_) (fun hc2 => ?_)
    · simp at hc2
      obtain ⟨id2, r, bl, rfl, hbl2, hbe2, hrow2⟩ := (oq6.sl.keep hk6 (fun i r h hj => by have := hfq i (oq6.ids i r h); have := lt0 i hj; omega)) k _ (by simp [hc2]; rfl)
      have hid2 := blkAt_len hbl2
      have g5 : IntKind.i64.wrap ((k : Int) + 1) = (k : Int) + 1 := wrap64 (by omega) (by omega)
      have hstep : (os.take (k + 1)).foldl (sendTo i) m1 = sendTo i ((os.take k).foldl (sendTo i) m1) os[k] := by
        rw [List.take_add_one, List.getElem?_eq_getElem hc2, List.foldl_append]; rfl
      obtain ⟨hwm, hlm, hkm⟩ := fold_w hw1 i (os.take k) hw1 rfl rfl
      have hmem := List.getElem_mem hc2
      obtain ⟨o, hoo⟩ : ∃ o, o = os[k] := ⟨_, rfl⟩
      rw [← hoo] at hstep hrow2 hmem
      obtain ⟨m, hmm⟩ : ∃ m, m = (os.take k).foldl (sendTo i) m1 := ⟨_, rfl⟩
      rw [← hmm] at hstep s6 hwm hlm hkm
      have next : ∀ (tm' : Ab.T) (H' : Heap) rws fs, tm' 1 = .ptr H.length 0 0 → tm' 2 = .ptr (H.length + 1) 0 0 → tm' 3 = .int i → tm' 5 = .w (.lf (.sl (some (id2, r)) os.length)) → tm' 6 = .int ((k : Int) + 1) → St H' (sendTo i m o) rws fs → Keep fp0 H6 H' → Q3 .normal tm' H' := by
        intro tm' H' rws fs a1 a2 a3 a5 a6 hs hk
        exact hn3 (j2 - 1) _ _ (by omega) ⟨k + 1, rws, fs, by omega, a1, a2, a3, a5, by simpa using a6, by rw [hstep]; exact hs, hk6.trans hk (fun _ h _ => h) (fun _ h _ => h)⟩
      have s7 := fun T => sk s6 (Keep.app [] H6 T)
      have c7 := fun T => sb1 (s7 T)
      have d7 := fun T => blkAt_len (c7 T)
      have e7 := fun T => e3 (s7 T) (by omega) (by rw [hkm, hk1']) (i : Int) o.port
      simp [t1, t3, t5, t6, indexAddrV, elemIs, hid2, hbl2, hbe2, hc2, hrow2, Out.enc, c7, d7, e7]
      by_cases hk1 : o.kind = 1
      case neg =>
        have hst : sendTo i m o = m := by unfold sendTo; rw [if_neg hk1]
        simp [hk1, t1, t2, t3, t5, t6, g5]
        exact next _ _ rws6 fs6 (by simp [t1]) (by simp [t2]) (by simp [t3]) (by simp [t5]) (by simp) (by rw [hst]; exact s7 _) (Keep.app _ _ _)
      cases hoth : otherL m.links (i : Int) o.port with
      | none =>
        have hst : sendTo i m o = m := by unfold sendTo; rw [if_pos hk1, hoth]
        simp [hk1, hoth, t1, t2, t3, t5, t6, g5]
        exact next _ _ rws6 fs6 (by simp [t1]) (by simp [t2]) (by simp [t3]) (by simp [t5]) (by simp) (by rw [hst]; exact s7 _) (Keep.app _ _ _)
      | some e =>
        have hst : sendTo i m o = setBr m e.1.toNat (reactB (bAt m e.1.toNat) (claimIn e.2 o)).1 := by unfold sendTo; rw [if_pos hk1, hoth]
        obtain ⟨ea0, ea1, ea2, ea3⟩ := otherL_at hwm hoth
        obtain ⟨H7, hH7⟩ : ∃ H7 : Heap, H7 = H6 ++ [some ⟨108, .wr, [[.i .i64 o.kind, .i .i64 o.port, .i .i64 o.vec.root, .i .i64 o.vec.cost, .i .i64 o.vec.bridge, .i .i64 o.vec.port, .i .i64 o.hops, .b o.on]]⟩] := ⟨_, rfl⟩
        have s77 := s7 [some ⟨108, .wr, [[.i .i64 o.kind, .i .i64 o.port, .i .i64 o.vec.root, .i .i64 o.vec.cost, .i .i64 o.vec.bridge, .i .i64 o.vec.port, .i .i64 o.hops, .b o.on]]⟩]
        have bo : blkAt H7 H6.length = some ⟨108, .wr, [[.i .i64 o.kind, .i .i64 o.port, .i .i64 o.vec.root, .i .i64 o.vec.cost, .i .i64 o.vec.bridge, .i .i64 o.vec.port, .i .i64 o.hops, .b o.on]]⟩ := by rw [hH7]; simp
        have do' := blkAt_len bo
        have k67 : Keep [] H6 H7 := by rw [hH7]; exact Keep.app _ _ _
        rw [← hH7] at s77 ⊢
        clear hH7 s7 c7 d7 e7
        have c7 := sb1 s77
        have d7 := blkAt_len c7
        obtain ⟨bid', blo', l0', ha', hid', hbl', hbe', hbm', hrow', hrd'⟩ := sget s77 hwm e.1.toNat ea1
        cases ha'
        have hL' := hrd'.len
        have hT' : l0'.take l0'.length = l0' := List.take_length
        have hD' : l0'.drop 2 = [] := by rw [← hL']; exact List.drop_length
        rw [hL'] at hT'
        have hbok' := bAt_ok hwm ea1
        have hb4' := (Bridge.ok_all hbok').2.2.2.2
        have hrun' := specReact hrd' (by unfold Bridge.sz; omega) (claimIn e.2 o)
        simp only [In.enc] at hrun'
        simp only [show (claimIn e.2 o).kind = 1 from rfl, show (claimIn e.2 o).port = e.2 from rfl, show (claimIn e.2 o).vec = o.vec from rfl, show (claimIn e.2 o).hops = o.hops from rfl, show (claimIn e.2 o).up = false from rfl] at hrun'
        have ea4 : e.1 < (n.bridges.length : Int) := by omega
        have ea5 : e.1.toNat < n.bridges.length := by omega
        simp [hk1, hoth, t1, t3, c7, d7, bo, do', indexAddrV, elemIs, hid', hbl', hbe', hrow', hL', hT', ea0, ea4, ea5]
        refine stpL_runs_f hrun' (by rintro _ _ ⟨_, _, _, _, _, _, _, hf, _⟩; exact hf.1) ?_
        rintro _ _ ⟨l3, f3, q3, fq3, rfl, o3, oq3, ⟨⟨G3, rfl⟩, hf3⟩, -⟩
        obtain ⟨c3, hc3⟩ : ∃ c3, c3 = (reactB (bAt m e.1.toNat) (claimIn e.2 o)).1 := ⟨_, rfl⟩
        rw [← hc3] at o3 hst
        clear hc3 hrun' oq3
        obtain ⟨a4, rfl, -⟩ := id o3
        simp [Bridge.enc, t1, t3]
        obtain ⟨H8, hH8⟩ : ∃ H8 : Heap, H8 = H7 ++ (G3 ++ [some ⟨56, .wr, [[.i .i64 c3.id, .sl a4 c3.ports.length]]⟩]) := ⟨_, rfl⟩
        have k78 : Keep [] H7 H8 := by rw [hH8]; exact Keep.app _ _ _
        have b8 : blkAt H8 (H7.length + G3.length) = some ⟨56, .wr, [[.i .i64 c3.id, .sl a4 c3.ports.length]]⟩ := by rw [hH8]; simp
        have o8 : IsBridge H8 [.i .i64 c3.id, .sl a4 c3.ports.length] c3 f3 := by rw [hH8, ← List.append_assoc]; exact o3.app _
        have hbl8 := k78.blk hbl' (by simp)
        have c8 := k78.blk c7 (by simp)
        have d8 := blkAt_len b8
        have dc8 := blkAt_len c8
        have hid8 := blkAt_len hbl8
        rw [← hH8]
        clear hH8
        simp [t1, t3, c8, dc8, b8, d8, indexAddrV, elemIs, hbl8, hbe', hid8, ea0, ea4, ea5, hbm', hrow', hL', hD', t2, t5, t6, g5]
        obtain ⟨rws'', fs'', s9⟩ := sset s77 ea1 rfl k78 o8 (fun k hk => hf3 k (List.mem_append.2 (.inl hk))) hbl8
        rw [← hst, hbe', hbm'] at s9
        have k68 : Keep [] H6 H8 := k67.trans k78 (by simp) (by simp)
        have ks8 := Keep.set (id := bid) H8 (some ⟨56, .wr, blo'.rows.set e.1.toNat [.i .i64 c3.id, .sl a4 c3.ports.length]⟩)
        refine next _ _ rws'' fs'' (by simp [t1]) (by simp [t2]) (by simp [t3]) (by simp [t5]) (by simp) s9 (Keep.trans (h := fp0) k68 ks8 (fun _ h _ => absurd h (by simp)) (fun k hk _ => by rw [List.mem_singleton] at hk; rw [hk]; exact hbf))
    · simp at hc2
      obtain rfl : k = os.length := by omega
      rw [List.take_length, ← hra] at s6
      simp [t5, t6]
      refine he3 _ _ _ ?_
      simp [t3, g4]
      exact hn2 (j - 1) _ _ (by omega) ⟨i + 1, rws6, fs6, by omega, by simp [t1], by simp [t2], by simp, s6⟩
  · simp at hc
    obtain rfl : i = n.bridges.length := by omega
    simp [t1, t3]
    refine he2 _ _ _ ?_
    have c2 := sb2 s1
    have d2 := blkAt_len c2
    simp [t1, t2, c1, d1, c2, d2]
    refine hQ _ _ _ (by simp) ?_
    obtain ⟨-, hli, hki⟩ := roundU_w hw n.bridges.length (Nat.le_refl _)
    have hd := sdis s1
    rw [hSt] at s1
    obtain ⟨p1, p2, p3, p4⟩ := s1
    have ks := Keep.set (id := H.length + 1) H1 (some ⟨27, .wr, [[.sl a n.bridges.length, .sl a1 n.links.length]]⟩)
    obtain ⟨Hf, hHf⟩ : ∃ Hf : Heap, Hf = H1.set (H.length + 1) (some ⟨27, .wr, [[.sl a n.bridges.length, .sl a1 n.links.length]]⟩) := ⟨_, rfl⟩
    have hfc : ∀ k ∈ fs.flatten, k ∈ fps.flatten ∨ H.length + 2 ≤ k := fun k hk => (p4 k hk).imp id (by omega)
    have o0 : IsBridgeS Hf (.sl a n.bridges.length) (roundN n).bridges (fp0 ++ fs.flatten) := ⟨a, rws, fp0, fs, by rw [roundN, hli], by rw [hHf]; exact p1.keep ks (fun i hi hj => by have := lt0 i hi; simp at hj; omega), by rw [hHf]; exact p2.keep okBridge ks (fun i hi hj => by
      simp at hj
      rcases hfc i hi with h | h
      · have := hlt i (by simp only [List.mem_append]; exact .inl (.inr h)); omega
      · omega), rfl, nodup_app p1.nodup p2.nodup hd⟩
    have q1 : IsLinkS Hf (.sl a1 n.links.length) (roundN n).links f1 := ⟨a1, by rw [roundN, hki], by rw [roundN, hki, hHf]; exact (o13.keep p3 x01).keep ks (fun i hi hj => by have := lt1 i hi; simp at hj; omega)⟩
    have hnd2 : ((fp0 ++ fs.flatten) ++ f1).Nodup := nodup_app (nodup_app p1.nodup p2.nodup hd) o13.nodup (fun i hi hj => by
      rcases List.mem_append.1 hi with hi | hi
      · exact x01 i hj hi
      · rcases hfc i hi with h | h
        · exact x11 i hj h
        · have := lt1 i hj; omega)
    have hKf : Keep fp0 H Hf := by
      have h1 : Keep fp0 H H1 := k03.trans p3 (by simp) (fun _ h _ => h)
      rw [hHf]
      exact h1.trans ks (fun _ h _ => h) (fun k hk hl => by simp at hk; omega)
    have hres : ∀ tm' : Ab.T, tm' 2 = .ptr (H.length + 1) 0 0 → resT env.τ tm' Hf (Try.f72.results.toList) = some [W.agg [.sl a n.bridges.length, .sl a1 n.links.length]] := by intro tm' t2; rw [hHf]; simp [Try.f72, t2, blkAt_set d2]
    have hI : IsNet Hf [.sl a n.bridges.length, .sl a1 n.links.length] (roundN n) ((fp0 ++ fs.flatten) ++ f1) := ⟨_, _, _, f1, rfl, o0, q1, rfl, hnd2⟩
    rw [← hHf, hres _ (by simp [t2]), optK_some]
    refine ⟨rfl, ?_⟩
    rcases leave_both H Hf [W.agg [.sl a n.bridges.length, .sl a1 n.links.length]] with e | ⟨e, hfr, -⟩ <;> rw [e]
    · refine ⟨_, hI, hKf.more (fun i hi _ => by simp only [List.mem_append]; exact .inl (.inl hi)), fun i hi => ?_⟩
      simp only [List.mem_append] at hi ⊢
      rcases hi with (h | h) | h
      · exact .inl (.inl (.inl h))
      · rcases hfc i h with h | h
        · exact .inl (.inl (.inr h))
        · exact .inr (by omega)
      · exact .inl (.inr h)
    · simp at hfr
      exact ⟨[], hI.free (by simp [hfr]) H, Keep.refl _ _, by simp⟩

noncomputable def settle (n : Net) (k : Int) : Net := if n.ok = true then Nat.repeat roundN (min k 100).toNat n else n
theorem roundN_w {n : Net} (hw : NetW n) : NetW (roundN n) ∧ (roundN n).bridges.length = n.bridges.length ∧ (roundN n).links = n.links := roundU_w hw _ (Nat.le_refl _)
theorem settleR_w {n : Net} (hw : NetW n) : ∀ k, NetW (Nat.repeat roundN k n) ∧ (Nat.repeat roundN k n).bridges.length = n.bridges.length ∧ (Nat.repeat roundN k n).links = n.links
  | 0 => ⟨hw, rfl, rfl⟩
  | k + 1 => by
    obtain ⟨h1, h2, h3⟩ := settleR_w hw k
    obtain ⟨h4, h5, h6⟩ := roundN_w h1
    exact ⟨h4, by rw [Nat.repeat, h5, h2], by rw [Nat.repeat, h6, h3]⟩
theorem NetW.ofOk {n : Net} (h : n.ok = true) : NetW n := NetW.of (by simpa [Net.ok] using h)
theorem NetW.sz {n : Net} (hw : NetW n) : n.sz ≤ 1048576 := by
  have key : ∀ bs : List Bridge, (∀ b ∈ bs, b.ok = true) → (bs.map Bridge.sz).sum ≤ 4 * bs.length := by
    intro bs
    induction bs with
    | nil => simp
    | cons b bs ih =>
      intro h
      have h1 := (Bridge.ok_all (h b (by simp))).2.2.2.2
      have h2 := ih (fun c hc => h c (by simp [hc]))
      simp only [List.map_cons, List.sum_cons, List.length_cons]
      unfold Bridge.sz at h2 ⊢
      omega
  have h1 := key _ hw.ok
  have h2 := hw.len
  unfold Net.sz BridgeS.sz
  omega
theorem settle_sz0 {n : Net} (hn : n.sz ≤ 1048576) {k : Int} : (settle n k).sz ≤ 1048576 := by
  unfold settle
  split
  · rename_i h; exact (settleR_w (NetW.ofOk h) _).1.sz
  · exact hn
theorem round_sz0 {n : Net} (hn : n.sz ≤ 1048576) : (settle n 1).sz ≤ 1048576 := settle_sz0 hn

theorem implSettle_is {H : Heap} {l : List Lf} {n : Net} (h : RdNet H l n) (hn : n.sz ≤ 1048576) (r : Int) (_ : I64 r) : Runs env 13 [.agg l, .int r] H fun v H' => ∃ l' fp, v = .agg l' ∧ IsNet H' l' (settle n r) fp ∧ Fresh H H' fp := by
  have hR := h
  have hL := h.len
  have hT : l.take l.length = l := List.take_length
  rw [hL] at hT
  have e1 := fun G => implNetOk_is (hR.app G) hn
  refine Runs.walk ok13 Try.func13 rfl (by simp [Try.f13]) fun Q hQ => ?_
  simp only [Try.f13, strip, stripL, stripI, stripG, chkT, tagsB, tagsL, tagD, addT, tagA, lookN, tagOp, elmT, ty22, ty24, ty25, ty33, ty54, ty58, ty95, ty122, Nat.reduceEqDiff, if_false, reduceIte, Option.getD_some, Option.getD_none, dstAt, dstOk, Nat.reduceLT, decide_true, if_true]
  simp [hL, hT]
  refine stpL_runs (copyNet (hR.app _) hn) ?_
  rintro _ _ ⟨l1, f1, rfl, o1, ⟨⟨G1, rfl⟩, hf1⟩⟩
  have hL1 := o1.len
  have hT1 : l1.take l1.length = l1 := List.take_length
  rw [hL1] at hT1
  simp [hL1, hT1]
  obtain ⟨H3, hH3⟩ : ∃ H3 : Heap, H3 = H ++ some ⟨27, .wr, [l]⟩ :: some ⟨27, .wr, [[.sl none 0, .sl none 0]]⟩ :: (G1 ++ [some ⟨27, .wr, [l1]⟩]) := ⟨_, rfl⟩
  obtain ⟨K5, hK5⟩ : ∃ K5, K5 = H.length + (G1.length + 2) := ⟨_, rfl⟩
  have b1 : blkAt H3 H.length = some ⟨27, .wr, [l]⟩ := by rw [hH3]; simp
  have b2 : blkAt H3 (H.length + 1) = some ⟨27, .wr, [[.sl none 0, .sl none 0]]⟩ := by rw [hH3]; simp
  have b5 : blkAt H3 K5 = some ⟨27, .wr, [l1]⟩ := by rw [hH3, hK5]; simp
  have lt1 := o1.lt
  have n5 : ∀ i ∈ f1, H.length + 2 ≤ i ∧ i < K5 := fun i hi => by have h1 := hf1 _ hi; have h2 := lt1 _ hi; simp only [List.length_append, List.length_cons, List.length_nil] at h1 h2; omega
  have o3 : IsNet H3 l1 n f1 := by
    have h1 := o1.app [some ⟨27, .wr, [l1]⟩]
    simp only [List.append_assoc, List.cons_append, List.nil_append] at h1
    rw [hH3]; exact h1
  have k03 : Keep [] H H3 := by rw [hH3]; exact Keep.app _ _ _
  have e2 : run env 23 [.agg l] H3 = some (.bool n.ok, H3) := by rw [hH3]; exact e1 _
  have d1 := blkAt_len b1
  have d2 := blkAt_len b2
  have d5 := blkAt_len b5
  have hd5 : H.length + 2 ≤ K5 := by omega
  have fin : ∀ (Hf : Heap) (tm : Ab.T) (l2 : List Lf) (m : Net) (f2 : List Nat), tm 4 = .ptr (H.length + 1) 0 0 → blkAt Hf (H.length + 1) = some ⟨27, .wr, [l2]⟩ → IsNet Hf l2 m f2 → (∀ i ∈ f2, H.length ≤ i) → m = settle n r → Keep [] H Hf → Q .ret tm Hf := by
    intro Hf tm l2 m f2 t4 hb hI hge hm hK
    refine hQ _ _ _ (by simp) ?_
    have hL2 := hI.len
    have hT2 : l2.take l2.length = l2 := List.take_length
    rw [hL2] at hT2
    have hres : resT env.τ tm Hf (Try.f13.results.toList) = some [W.agg l2] := by simp [Try.f13, t4, hb, hL2, hT2]
    rw [hres, optK_some, ← hm]
    rcases leave_both H Hf [W.agg l2] with e | ⟨e, hfr, G, rfl⟩ <;> rw [e]
    · exact ⟨l2, f2, rfl, hI, ⟨hK.ext, hge⟩⟩
    · simp at hfr
      exact ⟨l2, [], rfl, hI.free (by simpa using hfr) H, Fresh.refl H⟩
  rw [← hH3, ← hK5]
  clear hH3 o1 lt1 hf1 e1
  have h3l : K5 < H3.length := d5
  cases hno : n.ok
  · rw [hno] at e2
    simp [b1, d1, hL, hT, e2, b5, d5, hL1, hT1, b2, d2]
    have ks := Keep.set (id := H.length + 1) H3 (some ⟨27, .wr, [l1]⟩)
    exact fin _ _ l1 n f1 (by simp) (blkAt_set d2) (o3.keep ks (fun i hi hj => by have := n5 i hi; simp at hj; omega)) (fun i hi => by have := n5 i hi; omega) (by simp [settle, hno]) (k03.next ks (by simp))
  · rw [hno] at e2
    have hw := NetW.ofOk hno
    have hs : settle n r = Nat.repeat roundN (min r 100).toNat n := by rw [settle, if_pos hno]
    simp [b1, d1, hL, hT, e2, builtinV, pureB, foldI]
    obtain ⟨c, hc⟩ : ∃ c, c = (min r 100).toNat := ⟨_, rfl⟩
    have hX : (if 0 < if 100 < r then 100 else r then if 100 < r then 100 else r else 0) = (c : Int) := by rw [hc]; split <;> split <;> omega
    have hc1 : c ≤ 100 := by omega
    rw [← hc] at hs
    rw [hX]
    refine wpS_loop (fun j tm H' => ∃ i, i + j = c ∧ tm 4 = .ptr (H.length + 1) 0 0 ∧ tm 5 = .ptr K5 0 0 ∧ tm 14 = .int c ∧ tm 15 = .int i ∧ blkAt H' K5 = some ⟨27, .wr, [l1]⟩ ∧ IsNet H' l1 (Nat.repeat roundN i n) f1 ∧ Keep f1 H3 H') c (by rw [env_K]; omega) ⟨0, by simp, by simp, by simp, by simp, by simp, b5, o3, Keep.refl _ _⟩ ?_
    rintro j tm H1 hj ⟨i, hij, t4, t5, t14, t15, c5, o5, hK⟩ Q2 hn2 he2 hr2
    have dc5 := blkAt_len c5
    have hn5 : K5 ∉ f1 := fun h => by have := n5 _ h; omega
    have hwi := (settleR_w hw i).1
    have g4 : IntKind.i64.wrap ((i : Int) + 1) = (i : Int) + 1 := wrap64 (by omega) (by omega)
    simp [t14, t15]
    refine selS_intro (fun hcc => ?_) (fun hcc => ?_)
    · simp at hcc
      simp [t5]
      refine stpL_runs (roundM c5 o5 hn5 hwi) ?_
      rintro _ H2 ⟨rfl, o6, k6⟩
      simp [t15, g4]
      exact hn2 (j - 1) _ _ (by omega) ⟨i + 1, by omega, by simp [t4], by simp [t5], by simp [t14], by simp, k6.blk c5 hn5, o6, hK.trans k6 (fun _ h _ => h) (fun _ h _ => h)⟩
    · simp at hcc
      obtain rfl : i = c := by omega
      have c2 := hK.blk b2 (fun h => by have := n5 _ h; omega)
      have dc2 := blkAt_len c2
      simp [t14, t15]
      refine he2 _ _ _ ?_
      simp [t4, t5, c5, dc5, c2, dc2, hL1, hT1]
      have ks := Keep.set (id := H.length + 1) H1 (some ⟨27, .wr, [l1]⟩)
      exact fin _ _ l1 (Nat.repeat roundN i n) f1 (by simp [t4]) (blkAt_set dc2) (o5.keep ks (fun i hi hj => by have := n5 i hi; simp at hj; omega)) (fun i hi => by have := n5 i hi; omega) hs.symm ((k03.next hK (fun i hi => by have := n5 i hi; omega)).next ks (by simp))

theorem implRound_is {H : Heap} {l : List Lf} {n : Net} (h : RdNet H l n) (hn : n.sz ≤ 1048576) : Runs env 11 [.agg l] H fun v H' => ∃ l' fp, v = .agg l' ∧ IsNet H' l' (settle n 1) fp ∧ Fresh H H' fp := by
  have hR := h
  have hL := h.len
  have hT : l.take l.length = l := List.take_length
  rw [hL] at hT
  refine Runs.walk ok11 Try.func11 rfl (by simp [Try.f11]) fun Q hQ => ?_
  simp only [Try.f11, strip, stripL, stripI, stripG, chkT, tagsB, tagsL, tagD, addT, tagA, lookN, tagOp, elmT, ty22, ty24, ty25, ty33, ty54, ty58, ty95, ty122, Nat.reduceEqDiff, if_false, reduceIte, Option.getD_some, Option.getD_none, dstAt, dstOk, Nat.reduceLT, decide_true, if_true]
  simp [hL, hT]
  refine stpL_runs (implSettle_is (hR.app _) hn 1 (by unfold I64; omega)) ?_
  rintro _ _ ⟨l1, f1, rfl, o1, ⟨⟨G1, rfl⟩, hf1⟩⟩
  have hL1 := o1.len
  have hT1 : l1.take l1.length = l1 := List.take_length
  rw [hL1] at hT1
  simp [hL1, hT1]
  refine hQ _ _ _ (by simp) ?_
  have hge : ∀ i ∈ f1, H.length + 2 ≤ i := fun i hi => by have := hf1 i hi; simpa using this
  have o2 := o1.keep (Keep.set (id := H.length + 1) _ (some ⟨27, .wr, [l1]⟩)) (fun i hi hj => by have := hge i hi; simp at hj; omega)
  simp at o2
  simp [Try.f11, hL1, hT1]
  rcases leave_both H (H ++ some ⟨27, .wr, [l]⟩ :: some ⟨27, .wr, [l1]⟩ :: G1) [W.agg l1] with e | ⟨e, hfr, -⟩ <;> rw [e]
  · exact ⟨f1, o2, Fresh.app _ _ (fun i hi => by have := hge i hi; omega)⟩
  · simp at hfr
    exact ⟨[], o2.free (by simpa using hfr) H, Fresh.refl H⟩

theorem specSettle_is {H : Heap} {l : List Lf} {n : Net} (h : RdNet H l n) (hn : n.sz ≤ 1048576) (r : Int) (_ : I64 r) : Runs env 21 [.agg l, .int r] H fun v H' => ∃ l' fp, v = .agg l' ∧ IsNet H' l' (settle n r) fp ∧ Fresh H H' fp := by
  have hR := h
  have hL := h.len
  have hT : l.take l.length = l := List.take_length
  rw [hL] at hT
  have e1 := fun G => specNetOk_is (hR.app G) hn
  refine Runs.walk ok21 Try.func21 rfl (by simp [Try.f21]) fun Q hQ => ?_
  simp only [Try.f21, strip, stripL, stripI, stripG, chkT, tagsB, tagsL, tagD, addT, tagA, lookN, tagOp, elmT, ty22, ty24, ty25, ty33, ty54, ty58, ty95, ty122, Nat.reduceEqDiff, if_false, reduceIte, Option.getD_some, Option.getD_none, dstAt, dstOk, Nat.reduceLT, decide_true, if_true]
  simp [hL, hT]
  refine stpL_runs (specCopyNet (hR.app _) hn) ?_
  rintro _ _ ⟨l1, f1, rfl, o1, ⟨⟨G1, rfl⟩, hf1⟩⟩
  have hL1 := o1.len
  have hT1 : l1.take l1.length = l1 := List.take_length
  rw [hL1] at hT1
  simp [hL1, hT1]
  obtain ⟨H3, hH3⟩ : ∃ H3 : Heap, H3 = H ++ some ⟨27, .wr, [l]⟩ :: some ⟨27, .wr, [[.sl none 0, .sl none 0]]⟩ :: (G1 ++ [some ⟨27, .wr, [l1]⟩]) := ⟨_, rfl⟩
  obtain ⟨K5, hK5⟩ : ∃ K5, K5 = H.length + (G1.length + 2) := ⟨_, rfl⟩
  have b1 : blkAt H3 H.length = some ⟨27, .wr, [l]⟩ := by rw [hH3]; simp
  have b2 : blkAt H3 (H.length + 1) = some ⟨27, .wr, [[.sl none 0, .sl none 0]]⟩ := by rw [hH3]; simp
  have b5 : blkAt H3 K5 = some ⟨27, .wr, [l1]⟩ := by rw [hH3, hK5]; simp
  have lt1 := o1.lt
  have n5 : ∀ i ∈ f1, H.length + 2 ≤ i ∧ i < K5 := fun i hi => by have h1 := hf1 _ hi; have h2 := lt1 _ hi; simp only [List.length_append, List.length_cons, List.length_nil] at h1 h2; omega
  have o3 : IsNet H3 l1 n f1 := by
    have h1 := o1.app [some ⟨27, .wr, [l1]⟩]
    simp only [List.append_assoc, List.cons_append, List.nil_append] at h1
    rw [hH3]; exact h1
  have k03 : Keep [] H H3 := by rw [hH3]; exact Keep.app _ _ _
  have e2 : run env 24 [.agg l] H3 = some (.bool n.ok, H3) := by rw [hH3]; exact e1 _
  have d1 := blkAt_len b1
  have d2 := blkAt_len b2
  have d5 := blkAt_len b5
  have hd5 : H.length + 2 ≤ K5 := by omega
  have fin : ∀ (Hf : Heap) (tm : Ab.T) (l2 : List Lf) (m : Net) (f2 : List Nat), tm 4 = .ptr (H.length + 1) 0 0 → blkAt Hf (H.length + 1) = some ⟨27, .wr, [l2]⟩ → IsNet Hf l2 m f2 → (∀ i ∈ f2, H.length ≤ i) → m = settle n r → Keep [] H Hf → Q .ret tm Hf := by
    intro Hf tm l2 m f2 t4 hb hI hge hm hK
    refine hQ _ _ _ (by simp) ?_
    have hL2 := hI.len
    have hT2 : l2.take l2.length = l2 := List.take_length
    rw [hL2] at hT2
    have hres : resT env.τ tm Hf (Try.f21.results.toList) = some [W.agg l2] := by simp [Try.f21, t4, hb, hL2, hT2]
    rw [hres, optK_some, ← hm]
    rcases leave_both H Hf [W.agg l2] with e | ⟨e, hfr, G, rfl⟩ <;> rw [e]
    · exact ⟨l2, f2, rfl, hI, ⟨hK.ext, hge⟩⟩
    · simp at hfr
      exact ⟨l2, [], rfl, hI.free (by simpa using hfr) H, Fresh.refl H⟩
  rw [← hH3, ← hK5]
  clear hH3 o1 lt1 hf1 e1
  have h3l : K5 < H3.length := d5
  cases hno : n.ok
  · rw [hno] at e2
    simp [b1, d1, hL, hT, e2, b5, d5, hL1, hT1, b2, d2]
    have ks := Keep.set (id := H.length + 1) H3 (some ⟨27, .wr, [l1]⟩)
    exact fin _ _ l1 n f1 (by simp) (blkAt_set d2) (o3.keep ks (fun i hi hj => by have := n5 i hi; simp at hj; omega)) (fun i hi => by have := n5 i hi; omega) (by simp [settle, hno]) (k03.next ks (by simp))
  · rw [hno] at e2
    have hw := NetW.ofOk hno
    have hs : settle n r = Nat.repeat roundN (min r 100).toNat n := by rw [settle, if_pos hno]
    simp [b1, d1, hL, hT, e2, builtinV, pureB, foldI]
    obtain ⟨c, hc⟩ : ∃ c, c = (min r 100).toNat := ⟨_, rfl⟩
    have hc1 : c ≤ 100 := by omega
    rw [← hc] at hs
    refine wpS_loop (fun j tm H' => ∃ i fp, i + j = c ∧ tm 1 = .int r ∧ tm 4 = .ptr (H.length + 1) 0 0 ∧ tm 5 = .ptr K5 0 0 ∧ tm 6 = .int i ∧ blkAt H' K5 = some ⟨27, .wr, [l1]⟩ ∧ blkAt H' (H.length + 1) = some ⟨27, .wr, [[.sl none 0, .sl none 0]]⟩ ∧ IsNet H' l1 (Nat.repeat roundN i n) fp ∧ Keep [] H H' ∧ H3.length ≤ H'.length ∧ (∀ i ∈ fp, H.length + 2 ≤ i ∧ i ≠ K5)) c (by rw [env_K]; omega) ⟨0, f1, by simp, by simp, by simp, by simp, by simp, b5, b2, o3, k03, Nat.le_refl _, fun i hi => by have := n5 i hi; omega⟩ ?_
    rintro j tm H1 hj ⟨i, fp, hij, t1, t4, t5, t6, c5, c2, o5, hK, h31, nf⟩ Q2 hn2 he2 hr2
    have dc5 := blkAt_len c5
    have dc2 := blkAt_len c2
    have hwi := (settleR_w hw i).1
    have g4 : IntKind.i64.wrap ((i : Int) + 1) = (i : Int) + 1 := wrap64 (by omega) (by omega)
    have e3 := fun H => l1Min H r 100
    simp [t1, t6, e3]
    refine selS_intro (fun hcc => ?_) (fun hcc => ?_)
    · simp at hcc
      have hcc' : i < c := by split at hcc <;> omega
      simp [t5, c5, dc5, hL1, hT1]
      refine stpL_runs (l10RoundM o5 hwi) ?_
      rintro _ H2 ⟨rfl, f2, o6, k6, hf2⟩
      have c56 := k6.blk c5 (fun h => (nf _ h).2 rfl)
      have c26 := k6.blk c2 (fun h => by have := (nf _ h).1; omega)
      have dc56 := blkAt_len c56
      have nf2 : ∀ i ∈ f2, H.length + 2 ≤ i ∧ i ≠ K5 := fun i hi => by
        rcases hf2 i hi with h | h
        · exact nf i h
        · exact ⟨by omega, by omega⟩
      have ks := Keep.set (id := K5) H2 (some ⟨27, .wr, [l1]⟩)
      have hk12 := k6.1
      have hD1 : l1.drop 2 = [] := by rw [← hL1]; exact List.drop_length
      simp [t5, t6, g4, c56, dc56, hL1, hT1, hD1]
      refine hn2 (j - 1) _ _ (by omega) ⟨i + 1, f2, by omega, by simp [t1], by simp [t4], by simp [t5], by simp, blkAt_set dc56, ks.blk c26 (by simp; omega), o6.keep ks (fun i hi hj => by have := nf2 i hi; simp at hj; omega), (hK.next k6 (fun i hi => by have := nf i hi; omega)).next ks (by simp; omega), by simp; omega, nf2⟩
    · simp at hcc
      have hcc' : c ≤ i := by split at hcc <;> omega
      obtain rfl : i = c := by omega
      simp [t1, t6]
      refine he2 _ _ _ ?_
      simp [t4, t5, c5, dc5, c2, dc2, hL1, hT1]
      have ks := Keep.set (id := H.length + 1) H1 (some ⟨27, .wr, [l1]⟩)
      exact fin _ _ l1 (Nat.repeat roundN i n) fp (by simp [t4]) (blkAt_set dc2) (o5.keep ks (fun i hi hj => by have := nf i hi; simp at hj; omega)) (fun i hi => by have := nf i hi; omega) hs.symm (hK.next ks (by simp))

theorem specRound_is {H : Heap} {l : List Lf} {n : Net} (h : RdNet H l n) (hn : n.sz ≤ 1048576) : Runs env 20 [.agg l] H fun v H' => ∃ l' fp, v = .agg l' ∧ IsNet H' l' (settle n 1) fp ∧ Fresh H H' fp := by
  have hR := h
  have hL := h.len
  have hT : l.take l.length = l := List.take_length
  rw [hL] at hT
  have e1 := fun G => specNetOk_is (hR.app G) hn
  refine Runs.walk ok20 Try.func20 rfl (by simp [Try.f20]) fun Q hQ => ?_
  simp only [Try.f20, strip, stripL, stripI, stripG, chkT, tagsB, tagsL, tagD, addT, tagA, lookN, tagOp, elmT, ty22, ty24, ty25, ty33, ty54, ty58, ty95, ty122, Nat.reduceEqDiff, if_false, reduceIte, Option.getD_some, Option.getD_none, dstAt, dstOk, Nat.reduceLT, decide_true, if_true]
  have fin : ∀ (Hf : Heap) (tm : Ab.T) (l2 : List Lf) (m : Net) (f2 : List Nat), tm 2 = .ptr (H.length + 1) 0 0 → blkAt Hf (H.length + 1) = some ⟨27, .wr, [l2]⟩ → IsNet Hf l2 m f2 → (∀ i ∈ f2, H.length ≤ i) → m = settle n 1 → Keep [] H Hf → Q .ret tm Hf := by
    intro Hf tm l2 m f2 t4 hb hI hge hm hK
    refine hQ _ _ _ (by simp) ?_
    have hL2 := hI.len
    have hT2 : l2.take l2.length = l2 := List.take_length
    rw [hL2] at hT2
    have hres : resT env.τ tm Hf (Try.f20.results.toList) = some [W.agg l2] := by simp [Try.f20, t4, hb, hL2, hT2]
    rw [hres, optK_some, ← hm]
    rcases leave_both H Hf [W.agg l2] with e | ⟨e, hfr, G, rfl⟩ <;> rw [e]
    · exact ⟨l2, f2, rfl, hI, ⟨hK.ext, hge⟩⟩
    · simp at hfr
      exact ⟨l2, [], rfl, hI.free (by simpa using hfr) H, Fresh.refl H⟩
  simp [hL, hT, e1]
  cases hno : n.ok
  · simp [hL, hT]
    refine stpL_runs (specCopyNet (hR.app _) hn) ?_
    rintro _ H1 ⟨l1, f1, rfl, o1, fr⟩
    have hL1 := o1.len
    have hT1 : l1.take l1.length = l1 := List.take_length
    rw [hL1] at hT1
    have c2 := fr.kp.blk (show blkAt _ (H.length + 1) = some ⟨27, .wr, [[.sl none 0, .sl none 0]]⟩ by simp) (by simp)
    have d2 := blkAt_len c2
    have hge : ∀ i ∈ f1, H.length + 2 ≤ i := fun i hi => by have := fr.2 i hi; simpa using this
    simp [hL1, hT1, c2, d2]
    have ks := Keep.set (id := H.length + 1) H1 (some ⟨27, .wr, [l1]⟩)
    exact fin _ _ l1 n f1 (by simp) (blkAt_set d2) (o1.keep ks (fun i hi hj => by have := hge i hi; simp at hj; omega)) (fun i hi => by have := hge i hi; omega) (by simp [settle, hno]) (fr.base.kp.next ks (by simp))
  · have hw := NetW.ofOk hno
    have hs : roundN n = settle n 1 := by rw [settle, if_pos hno]; rfl
    simp [hL, hT]
    refine stpL_runs (specCopyNet (hR.app _) hn) ?_
    rintro _ H1 ⟨l1, f1, rfl, o1, fr⟩
    have hL1 := o1.len
    have hT1 : l1.take l1.length = l1 := List.take_length
    rw [hL1] at hT1
    have c2 := fr.kp.blk (show blkAt _ (H.length + 1) = some ⟨27, .wr, [[.sl none 0, .sl none 0]]⟩ by simp) (by simp)
    have hge : ∀ i ∈ f1, H.length + 2 ≤ i := fun i hi => by have := fr.2 i hi; simpa using this
    have hl1 := fr.kp.1
    simp at hl1
    simp [hL1, hT1]
    refine stpL_runs (l10RoundM o1 hw) ?_
    rintro _ H2 ⟨rfl, f2, o6, k6, hf2⟩
    have c26 := k6.blk c2 (fun h => by have := hge _ h; omega)
    have d26 := blkAt_len c26
    have nf2 : ∀ i ∈ f2, H.length + 2 ≤ i := fun i hi => by
      rcases hf2 i hi with h | h
      · exact hge i h
      · omega
    simp [hL1, hT1, c26, d26]
    have ks := Keep.set (id := H.length + 1) H2 (some ⟨27, .wr, [l1]⟩)
    exact fin _ _ l1 (roundN n) f2 (by simp) (blkAt_set d26) (o6.keep ks (fun i hi hj => by have := nf2 i hi; simp at hj; omega)) (fun i hi => by have := nf2 i hi; omega) hs ((fr.base.kp.next k6 (fun i hi => by have := hge i hi; omega)).next ks (by simp))

def desP : Port := ⟨true, false, ⟨0, 0, 0, 0⟩, 0, 0, 2, 4, false⟩
def pq (b : Bool) : Port := if b = true then desP else Port.zv
def upB (id : Int) (S : Nat → Bool) : Bridge := ⟨id, [pq (S 0), pq (S 1), pq (S 2), pq (S 3)]⟩
def upIn (k : Int) : In := ⟨3, k, ⟨0, 0, 0, 0⟩, 0, true⟩
theorem pq_ok (b : Bool) : (pq b).ok = true := by cases b <;> decide
theorem pq_up (b : Bool) : (pq b).up = b := by cases b <;> rfl
theorem upB_ok {id : Int} (h : 1 ≤ id ∧ id ≤ 9) (S : Nat → Bool) : (upB id S).ok = true := by
  simp [upB, Bridge.ok, pq_ok, h]
theorem upIn_ok {k : Nat} (h : k < 4) : (upIn k).ok = true := by
  match k, h with
  | 0, _ => rfl
  | 1, _ => rfl
  | 2, _ => rfl
  | 3, _ => rfl
theorem rootNone {b : Bridge} (h : ∀ p ∈ b.ports, p.has = false) : rootAt b = -1 := by
  have key : ∀ i, rootUpto b i = -1 := by
    intro i
    induction i with
    | zero => rfl
    | succ i ih =>
      rw [rootUpto]
      cases hp : b.ports[i]? with
      | none => exact ih
      | some p =>
        have hm := h p (List.mem_of_getElem? hp)
        simp only [ih, rootStep, rootSkip, hm]
        simp
  exact key _
theorem decP_pq {b : Bridge} (hr : rootAt b = -1) (i : Nat) (c : Bool) : decP b i (pq c) = pq c := by
  have hi : ¬ (i : Int) = -1 := by omega
  cases c <;> simp [pq, decP, Port.zv, Vec.zv, desP, roleB, hr, hi, turnP, turnW, openBy] <;> simp [Port.ok, openBy]
theorem decP_up {b : Bridge} (hr : rootAt b = -1) (i : Nat) : decP b i upPort = pq true := by
  have hi : ¬ (i : Int) = -1 := by omega
  simp [pq, decP, desP, upPort, roleB, hr, hi, turnP, turnW, openBy, Port.ok]
theorem upStep {id : Int} (h : 1 ≤ id ∧ id ≤ 9) (S : Nat → Bool) {k : Nat} (hk : k < 4) : (reactB (upB id S) (upIn k)).1 = upB id (fun p => S p || decide (p = k)) := by
  have hok := upB_ok h S
  rw [reactB_yes hok (upIn_ok hk) (by simp [upIn, upB]; omega)]
  have hh : ∀ c : Bool, (pq c).has = false := by intro c; cases c <;> rfl
  have hu : upPort.has = false := rfl
  have hq : (upB id S).ports.getD k default = pq (S k) := by
    match k, hk with
    | 0, _ => rfl
    | 1, _ => rfl
    | 2, _ => rfl
    | 3, _ => rfl
  simp only [nextB]
  split
  · rename_i hqt
    have hs : S k = true := by
      have := hqt.2
      simp only [upIn, Int.toNat_natCast] at this
      rw [hq, pq_up] at this
      exact this
    have e : ∀ p, (S p || decide (p = k)) = S p := by
      intro p
      by_cases hp : p = k
      · rw [hp, hs]; simp
      · simp [hp]
    simp only [upB, e]
  · rename_i hqt
    have hr : rootAt (inB (upB id S) (upIn k)) = -1 := by
      refine rootNone fun p hp => ?_
      simp [inB, upIn] at hp
      rcases List.mem_or_eq_of_mem_set hp with hp | rfl
      · simp [upB] at hp
        rcases hp with rfl | rfl | rfl | rfl <;> exact hh _
      · rfl
    have d1 := fun i c => decP_pq hr i c
    have d2 := fun i => decP_up hr i
    unfold decideB
    obtain ⟨f, hf⟩ : ∃ f, f = decP (inB (upB id S) (upIn k)) := ⟨_, rfl⟩
    rw [← hf] at d1 d2 ⊢
    match k, hk with
    | 0, _ => simp [inB, upIn, upB, d1, d2]
    | 1, _ => simp [inB, upIn, upB, d1, d2]
    | 2, _ => simp [inB, upIn, upB, d1, d2]
    | 3, _ => simp [inB, upIn, upB, d1, d2]
def upAt (es : List (Int × Int)) (i : Nat) (p : Nat) : Bool := decide (((i : Int), (p : Int)) ∈ es)
def newB (es : List (Int × Int)) (i : Nat) (id : Int) : Bridge := if 1 ≤ id ∧ id ≤ 9 then upB id (upAt es i) else ⟨0, []⟩
def newBs (es : List (Int × Int)) (ids : List Int) : List Bridge := (ids.take 6).mapIdx fun i id => newB es i id
noncomputable def netNew (ids : List Int) (links : List Link) : Net × Bool := if (⟨newBs (endsOf links) ids, links⟩ : Net).ok = true then (⟨newBs (endsOf links) ids, links⟩, true) else (⟨[], []⟩, false)
theorem bridgeNew4 (id : Int) : (bridgeNew id 4).1 = newB [] 0 id ∧ ((bridgeNew id 4).2 = true ↔ 1 ≤ id ∧ id ≤ 9) := by
  unfold bridgeNew newB
  by_cases h : 1 ≤ id ∧ id ≤ 9
  · simp [h, upB, pq, upAt, List.replicate]
  · have h' : (decide (1 ≤ id) && decide (id ≤ 9)) = false := andD h
    simp [h, h']
theorem upStepAt {id : Int} (h : 1 ≤ id ∧ id ≤ 9) (es : List (Int × Int)) (i : Nat) {k : Nat} (hk : k < 4) : (reactB (upB id (upAt es i)) (upIn k)).1 = upB id (upAt (es ++ [((i : Int), (k : Int))]) i) := by
  rw [upStep h _ hk]
  have : (fun p => upAt es i p || decide (p = k)) = upAt (es ++ [((i : Int), (k : Int))]) i := by
    funext p
    simp [upAt, Int.natCast_inj]
  rw [this]
def bsOf (es : List (Int × Int)) (ids : List Int) : List Bridge := ids.mapIdx fun i id => newB es i id
theorem bsOf_len (es : List (Int × Int)) (ids : List Int) : (bsOf es ids).length = ids.length := by simp [bsOf]
theorem bsOf_at (es : List (Int × Int)) (ids : List Int) (i : Nat) : (bsOf es ids)[i]? = (ids[i]?).map (newB es i) := by simp [bsOf, List.getElem?_mapIdx]
theorem bsOf_take (es : List (Int × Int)) (ids : List Int) {i : Nat} (h : i < ids.length) : bsOf es (ids.take (i + 1)) = bsOf es (ids.take i) ++ [newB es i ids[i]] := by
  have hm : (ids.take i).length = i := by simp; omega
  unfold bsOf
  rw [List.take_add_one, List.getElem?_eq_getElem h, Option.toList_some, List.mapIdx_append]
  simp only [List.mapIdx_cons, List.mapIdx_nil, hm, Nat.zero_add]
theorem newBs_eq (es : List (Int × Int)) (ids : List Int) : newBs es ids = bsOf es (ids.take 6) := rfl
theorem newB_nil (i : Nat) (id : Int) : newB [] i id = (bridgeNew id 4).1 := (bridgeNew4 id).1.symm
theorem newB_yes {es : List (Int × Int)} {i : Nat} {id : Int} (h : 1 ≤ id ∧ id ≤ 9) : newB es i id = upB id (upAt es i) := by rw [newB, if_pos h]
theorem newB_bad {es : List (Int × Int)} {i : Nat} {id : Int} (h : ¬ (1 ≤ id ∧ id ≤ 9)) : (newB es i id).ok = false := by rw [newB, if_neg h]; rfl
theorem newB_len (es : List (Int × Int)) (i : Nat) (id : Int) : (newB es i id).ports.length ≤ 4 := by unfold newB; split <;> simp [upB]
theorem isEnd_of {es : List (Int × Int)} {ids : List Int} (hall : ∀ id ∈ ids, 1 ≤ id ∧ id ≤ 9) (L : List Link) (a p : Int) : isEndP ⟨bsOf es ids, L⟩ a p ↔ (0 ≤ a ∧ a < ids.length) ∧ (0 ≤ p ∧ p < 4) := by
  constructor
  · rintro ⟨i, k, b, rfl, rfl, h1, h2⟩
    rw [bsOf_at] at h1
    cases hi : ids[i]? with
    | none => simp [hi] at h1
    | some id =>
      rw [hi] at h1
      injection h1 with h1
      subst h1
      have h3 := newB_len es i id
      have h4 := (List.getElem?_eq_some_iff.1 hi).1
      omega
  · rintro ⟨⟨h1, h2⟩, h3, h4⟩
    have hi : a.toNat < ids.length := by omega
    refine ⟨a.toNat, p.toNat, newB es a.toNat ids[a.toNat], by omega, by omega, by simp [bsOf_at, hi], ?_⟩
    rw [newB_yes (hall _ (List.getElem_mem hi))]
    simp [upB]; omega
theorem newW {es : List (Int × Int)} {ids : List Int} (hall : ∀ id ∈ ids, 1 ≤ id ∧ id ≤ 9) (hl : ids.length ≤ 5) : NetW ⟨bsOf es ids, []⟩ := by
  refine ⟨fun b hb => ?_, by simp, by simp [bsOf_len]; omega⟩
  obtain ⟨i, hi⟩ := List.mem_iff_getElem?.1 hb
  simp only [bsOf_at] at hi
  cases h : ids[i]? with
  | none => simp [h] at hi
  | some id =>
    rw [h] at hi
    injection hi with hi
    subst hi
    have := hall id (List.mem_of_getElem? h)
    rw [newB_yes this]
    exact upB_ok this _
theorem newStep {es : List (Int × Int)} {ids : List Int} (hall : ∀ id ∈ ids, 1 ≤ id ∧ id ≤ 9) {t k : Nat} (ht : t < ids.length) (hk : k < 4) : setBr ⟨bsOf es ids, []⟩ t (reactB (bAt ⟨bsOf es ids, []⟩ t) (upIn k)).1 = ⟨bsOf (es ++ [((t : Int), (k : Int))]) ids, []⟩ := by
  have hb : bAt ⟨bsOf es ids, []⟩ t = upB ids[t] (upAt es t) := by
    simp only [bAt, List.getD, bsOf_at, List.getElem?_eq_getElem ht, Option.map_some, Option.getD_some]
    exact newB_yes (hall _ (List.getElem_mem ht))
  rw [hb, upStepAt (hall _ (List.getElem_mem ht)) es t hk]
  simp only [setBr, Net.mk.injEq, and_true]
  refine List.ext_getElem? fun j => ?_
  by_cases hj : t = j
  · subst hj
    rw [List.getElem?_set_self (by rw [bsOf_len]; exact ht), bsOf_at, List.getElem?_eq_getElem ht, Option.map_some, newB_yes (hall _ (List.getElem_mem ht))]
  · rw [List.getElem?_set_ne hj, bsOf_at, bsOf_at]
    have : newB es j = newB (es ++ [((t : Int), (k : Int))]) j := by
      funext id
      unfold newB
      have : upAt es j = upAt (es ++ [((t : Int), (k : Int))]) j := by
        funext p
        simp [upAt]
        omega
      rw [this]
    rw [this]
theorem netNew_no {ids : List Int} {links : List Link} (h : (⟨newBs (endsOf links) ids, links⟩ : Net).ok = false) : netNew ids links = (⟨[], []⟩, false) := by rw [netNew, if_neg (by simp [h])]
theorem net_no {n : Net} (h : ¬ n.P) : n.ok = false := by simp [Net.ok, h]
theorem endsOf_tk (links : List Link) {k : Nat} (h : k < links.length) : endsOf (links.take (k + 1)) = (endsOf (links.take k) ++ [(links[k].a, links[k].p)]) ++ [(links[k].b, links[k].q)] := by
  unfold endsOf
  rw [List.take_add_one, List.getElem?_eq_getElem h, Option.toList_some, List.flatMap_append]
  simp only [List.flatMap_cons, List.flatMap_nil, List.append_nil, List.append_assoc]
  rfl
theorem bs_sz (es : List (Int × Int)) (ids : List Int) (links : List Link) (h : ids.length ≤ 6) (hl : links.length ≤ 1048546) : (⟨bsOf es ids, links⟩ : Net).sz ≤ 1048576 := by
  have key : ∀ bs : List Bridge, (∀ b ∈ bs, b.ports.length ≤ 4) → (bs.map Bridge.sz).sum ≤ 4 * bs.length := by
    intro bs
    induction bs with
    | nil => simp
    | cons b bs ih =>
      intro h
      have h1 := h b (by simp)
      have h2 := ih (fun c hc => h c (by simp [hc]))
      simp only [List.map_cons, List.sum_cons, List.length_cons]
      unfold Bridge.sz at h2 ⊢
      omega
  have h1 := key (bsOf es ids) (fun b hb => by
    obtain ⟨i, hi⟩ := List.mem_iff_getElem?.1 hb
    rw [bsOf_at] at hi
    cases h : ids[i]? with
    | none => simp [h] at hi
    | some id => rw [h] at hi; injection hi with hi; subst hi; exact newB_len _ _ _)
  have h2 := bsOf_len es ids
  unfold Net.sz BridgeS.sz
  simp only [h2] at h1 ⊢
  omega
theorem netNew_sz0 {ids : List Int} {links : List Link} (_ : ids.length ≤ 1048576) (_ : links.length ≤ 1048576) : (netNew ids links).1.sz ≤ 1048576 := by
  unfold netNew
  split
  · rename_i h; exact (NetW.ofOk h).sz
  · simp [Net.sz, BridgeS.sz]

theorem implNetNew_is {H : Heap} {q : Lf} {ids : List Int} (h : RdIntS H q ids) (hn : ids.length ≤ 1048576) {q2 : Lf} {links : List Link} (h2 : RdLinkS H q2 links) (hn2 : links.length ≤ 1048576) :
    Runs env 15 [.w (.lf q), .w (.lf q2)] H fun v H' => ∃ l fp, v = .tup [.agg l, .lf (.b (netNew ids links).2)] ∧ IsNet H' l (netNew ids links).1 fp ∧ Fresh H H' fp := by
  have hR2 := h2
  obtain ⟨ai, rfl, r1⟩ := h
  obtain ⟨al, rfl, r2⟩ := h2
  refine Runs.walk ok15 Try.func15 rfl (by simp [Try.f15]) fun Q hQ => ?_
  simp only [Try.f15, strip, stripL, stripI, stripG, chkT, tagsB, tagsL, tagD, addT, tagA, lookN, tagOp, elmT, ty22, ty24, ty25, ty33, ty54, ty58, ty95, ty122, Nat.reduceEqDiff, if_false, reduceIte, Option.getD_some, Option.getD_none, dstAt, dstOk, Nat.reduceLT, decide_true, if_true]
  -- the ways out
  have no : (⟨newBs (endsOf links) ids, links⟩ : Net).ok = false → ∀ (tm : Ab.T) (G : Heap) (b : Bool), tm 4 = .ptr H.length 0 0 → tm 5 = .bool false → Q .ret tm (H ++ some ⟨27, .wr, [[.sl none 0, .sl none 0]]⟩ :: G) := by
    intro hno tm G b t4 t5
    refine hQ _ _ _ (by simp) ?_
    simp [Try.f15, t4, t5, netNew_no hno]
    exact ⟨[], ⟨.sl none 0, .sl none 0, [], [], rfl, IsL.emp _ _ _, ⟨none, rfl, Own.nil _ _⟩, rfl, by simp⟩, Fresh.refl _⟩
  have e0 := fun H => inRange H (ids.length : Int) 1 5
  have len0 := fun es => bsOf_len es (ids.take 6)
  have lmin : (ids.take 6).length = min 6 ids.length := List.length_take
  by_cases c1 : 1 ≤ (ids.length : Int)
  case neg =>
    simp [builtinV, pureB, lenV, e0, c1]
    exact no (net_no (fun h => by have := h.1.1; simp only [newBs_eq, len0] at this; omega)) _ _ true (by simp) (by simp)
  by_cases c2 : (ids.length : Int) ≤ 5
  case neg =>
    simp [builtinV, pureB, lenV, e0, c1, c2]
    exact no (net_no (fun h => by have := h.1.2; simp only [newBs_eq, len0] at this; omega)) _ _ true (by simp) (by simp)
  by_cases c3 : 6 < (links.length : Int)
  case pos =>
    simp [builtinV, pureB, lenV, e0, c1, c2, c3]
    exact no (net_no (fun h => by have := h.2.1; simp only at this; omega)) _ _ true (by simp) (by simp)
  simp [builtinV, pureB, lenV, e0, c1, c2, c3]
  have htk : ids.take 6 = ids := List.take_of_length_le (by omega)
  obtain ⟨HX0, hH0⟩ : ∃ H3 : Heap, H3 = H ++ [some ⟨27, .wr, [[.sl none 0, .sl none 0]]⟩] := ⟨_, rfl⟩
  have c2_0 : blkAt HX0 H.length = some ⟨27, .wr, [[.sl none 0, .sl none 0]]⟩ := by rw [hH0]; simp
  have k0_0 : Keep [] H HX0 := by rw [hH0]; exact Keep.app _ _ _
  have lx0 : HX0.length = H.length + 1 := by rw [hH0]; simp
  have no : (⟨newBs (endsOf links) ids, links⟩ : Net).ok = false → ∀ (tm : Ab.T) (Hf : Heap), Keep [H.length] HX0 Hf → tm 4 = .ptr H.length 0 0 → tm 5 = .bool false → Q .ret tm (Hf.set H.length (some ⟨27, .wr, [[.sl none 0, .sl none 0]]⟩)) := by
    intro hno tm Hf hk t4 t5
    have h1 : Keep [] H Hf := k0_0.next hk (by simp)
    obtain ⟨G, rfl⟩ := h1.ext
    have hl := hk.1
    rw [lx0, List.length_append] at hl
    cases G with
    | nil => simp only [List.length_nil] at hl; omega
    | cons g G =>
      simp
      exact no hno tm G true t4 t5
  rw [← hH0]
  clear hH0
  refine stpL_runs (cloneLinkS (q := .sl al links.length) ⟨al, rfl, r2.keep k0_0 (by simp)⟩ hn2) ?_
  rintro _ HX4 ⟨_, f1, rfl, ⟨q1, rfl, o1⟩, hf1⟩
  have kx1 : Keep [] HX0 HX4 := hf1.keep
  have lx1' := kx1.1
  have lt1 := o1.lt
  have ge1 := hf1.2
  have c2_4 := kx1.blk c2_0 (by simp)
  simp [builtinV, pureB, lenV]
  obtain ⟨H3, hH3⟩ : ∃ H3 : Heap, H3 = HX4 ++ [some ⟨27, .wr, [[.sl none 0, .sl q1 links.length]]⟩] := ⟨_, rfl⟩
  have b3 : blkAt H3 HX4.length = some ⟨27, .wr, [[.sl none 0, .sl q1 links.length]]⟩ := by rw [hH3]; simp
  have k43 : Keep [] HX4 H3 := by rw [hH3]; exact Keep.app _ _ _
  have hl3 : H3.length = HX4.length + 1 := by rw [hH3]; simp
  rw [← hH3]
  clear hH3
  have b2 := k43.blk c2_4 (by simp)
  have o1 := o1.keep k43 (by simp)
  have kx3 : Keep [] HX0 H3 := kx1.trans k43 (by simp) (by simp)
  have k03 : Keep [] H H3 := k0_0.trans kx3 (by simp) (by simp)
  have one : ids.length ≤ 5 := by omega
  refine wpS_loop (fun j tm H' => ∃ i a' rows fp0 fps, i + j = ids.length ∧ tm 1 = .w (.lf (.sl al links.length)) ∧ tm 4 = .ptr H.length 0 0 ∧ tm 5 = .bool false ∧ tm 6 = .ptr HX4.length 0 0 ∧ tm 30 = .w (.lf (.sl ai ids.length)) ∧ tm 31 = .int ids.length ∧ tm 32 = .int i ∧ blkAt H' HX4.length = some ⟨27, .wr, [[.sl a' i, .sl q1 links.length]]⟩ ∧ Own H' 56 a' rows fp0 ∧ Part IsBridge H' rows (bsOf [] (ids.take i)) fps ∧ (fp0 ++ fps.flatten).Nodup ∧ (∀ k ∈ fp0 ++ fps.flatten, H3.length ≤ k) ∧ Keep [HX4.length] H3 H' ∧ (∀ id ∈ ids.take i, 1 ≤ id ∧ id ≤ 9)) ids.length (by rw [env_K]; omega)
    ⟨0, none, [], [], [], by simp, by simp, by simp, by simp, by simp, by simp, by simp, by simp, b3, Own.nil _ _, by simpa [bsOf] using Part.nil _ _, by simp, by simp, Keep.refl _ _, by simp⟩ ?_
  rintro j tm H1 hj ⟨i, a', rows, fp0, fps, hij, t1, t4, t5, t6, t30, t31, t32, c3', ho, hp, hnd, hge, hK3, hall⟩ Q2 hn2' he2 hr2
  have c2' := hK3.blk b2 (by simp; omega)
  have d2 := blkAt_len c2'
  have d3 := blkAt_len c3'
  have hK : Keep [] H H1 := k03.next hK3 (by simp; omega)
  have h31 := hK3.1
  simp [t30, t31, t32]
  refine selS_intro (fun hc => ?_) (fun hc => ?_)
  · simp at hc
    obtain ⟨id2, r, bl, rfl, hbl, hbe, hrow⟩ := (r1.keep hK (by simp)) i _ (by simp [hc]; rfl)
    have hid := blkAt_len hbl
    have g4 : IntKind.i64.wrap ((i : Int) + 1) = (i : Int) + 1 := wrap64 (by omega) (by omega)
    have hrl : rows.length = i := by rw [hp.len, bsOf_len]; simp; omega
    simp [t30, t32, indexAddrV, elemIs, hid, hbl, hbe, hc, hrow, encI]
    refine stpL_runs (implBridgeNew _ ids[i] 4) ?_
    rintro _ _ ⟨l2, f2, rfl, o2', ⟨⟨G2, rfl⟩, hf2⟩⟩
    have hl2 := o2'.len
    have hT2 : l2.take l2.length = l2 := List.take_length
    rw [hl2] at hT2
    cases hbk : (bridgeNew ids[i] 4).2
    · -- no such bridge
      have hbad : ¬ (1 ≤ ids[i] ∧ ids[i] ≤ 9) := fun h => by rw [(bridgeNew4 ids[i]).2.2 h] at hbk; cases hbk
      have c2'' := fun G => blkAt_app c2' G
      simp [hl2, hT2, t4, c2'']
      refine hr2 _ _ ?_
      simp
      refine no (net_no fun hP => ?_) _ _ ?_ (by simp [t4]) (by simp)
      · have := hP.2.2.1 (newB (endsOf links) i ids[i]) (List.mem_iff_getElem?.2 ⟨i, by simp [newBs_eq, htk, bsOf_at, hc]⟩)
        rw [newB_bad hbad] at this
        cases this
      · exact Keep.trans (h := [H.length]) kx3 ((Keep.trans (h := [HX4.length]) hK3 (Keep.app [] _ _) (by simp) (by simp))) (by simp) (fun k hk hl => by simp at hk; omega)
    · have hok : 1 ≤ ids[i] ∧ ids[i] ≤ 9 := (bridgeNew4 ids[i]).2.1 hbk
      rw [← newB_nil i] at o2'
      simp [hl2, hT2, t6]
      have c3'' := fun G => blkAt_app c3' G
      have hlt0 := ho.lt
      simp [hl2, hT2, t6, c3'']
      refine stpL_append (e := 56) (rows := rows) (ys := [l2]) (ho.app _) (Sl.of (by simp)) rfl rfl rfl (by simp) (by simp; omega) (by omega) rfl fun a'' H'' fp'' ho'' hk'' hf'' => ?_
      have k12 : Keep [] H1 (H1 ++ (G2 ++ [some ⟨56, .wr, [l2]⟩, some ⟨56, .wr, [l2]⟩])) := Keep.app _ _ _
      have o2'' := o2'.app [some ⟨56, .wr, [l2]⟩, some ⟨56, .wr, [l2]⟩]
      simp only [List.append_assoc] at o2''
      have hf2' : ∀ k ∈ f2, H1.length ≤ k := fun k hk => by have := hf2 k hk; omega
      obtain ⟨hp2, hnd2⟩ := isL_snoc okBridge hp hnd hlt0 k12 o2'' hf2' hk'' ho'' hf''
      have c3b := (hk''.blk (k12.blk c3' (by simp)) (fun h => by have := hge _ (List.mem_append.2 (.inl h)); omega))
      have d3b := blkAt_len c3b
      have hk1 : Keep [HX4.length] H3 H'' := Keep.trans (h := [HX4.length]) (Keep.trans (h := [HX4.length]) hK3 k12 (by simp) (by simp)) hk'' (by simp) (fun k hk hl => by have := hge k (List.mem_append.2 (.inl hk)); omega)
      have hge2 : ∀ k ∈ fp'' ++ (fps ++ [f2]).flatten, H3.length ≤ k := fun k hk => by
        rcases List.mem_append.1 hk with hk | hk
        · rcases hf'' k hk with h | h
          · exact hge k (List.mem_append.2 (.inl h))
          · rw [List.length_append] at h; omega
        · rw [List.flatten_append] at hk
          rcases List.mem_append.1 hk with hk | hk
          · exact hge k (List.mem_append.2 (.inr hk))
          · simp at hk
            have := hf2' k hk; omega
      have ks := fun y => Keep.set (id := HX4.length) H'' y
      have hno : ∀ k ∈ fp'' ++ (fps ++ [f2]).flatten, k ∉ [HX4.length] := fun k hk => by have := hge2 k hk; simp; omega
      simp [t1, t4, t5, t6, t30, t31, t32, c3b, d3b, g4]
      refine hn2' (j - 1) _ _ (by omega) ⟨i + 1, a'', rows ++ [l2], fp'', fps ++ [f2], by omega, by simp [t1], by simp [t4], by simp [t5], by simp [t6], by simp [t30], by simp [t31], by simp, by rw [blkAt_set d3b], ho''.keep (ks _) (fun k hk => hno k (List.mem_append.2 (.inl hk))), ?_, hnd2, hge2, hk1.trans (h := [HX4.length]) (ks _) (by simp) (by simp), ?_⟩
      · rw [bsOf_take _ _ hc]
        exact hp2.keep okBridge (ks _) (fun k hk => hno k (List.mem_append.2 (.inr hk)))
      · rw [List.take_add_one, List.getElem?_eq_getElem hc]
        intro id hi
        simp only [Option.toList_some, List.mem_append, List.mem_singleton] at hi
        rcases hi with hi | rfl
        · exact hall id hi
        · exact hok
  · simp at hc
    obtain rfl : i = ids.length := by omega
    rw [List.take_length] at hp hall
    simp [t30, t31, t32]
    refine he2 _ _ _ ?_
    obtain ⟨n0, hn0⟩ : ∃ n0, n0 = ids.length := ⟨_, rfl⟩
    have hdis : ∀ i ∈ fp0, i ∉ fps.flatten := fun i hi hj => (List.nodup_append.1 hnd).2.2 i hi i hj rfl
    have hxf : HX4.length ∉ fps.flatten := fun h => by have := hge _ (List.mem_append.2 (.inr h)); omega
    have hHf : H.length ∉ fps.flatten := fun h => by have := hge _ (List.mem_append.2 (.inr h)); omega
    have hK13 : Keep [HX4.length] HX0 H1 := Keep.trans (h := [HX4.length]) kx3 hK3 (by simp) (fun _ h _ => h)
    have hx1 : Keep [] HX0 H1 := kx3.next hK3 (by simp; omega)
    have hfl : ∀ k ∈ fps.flatten, HX0.length ≤ k := fun k hk => by have := hge k (List.mem_append.2 (.inr hk)); omega
    have noE : ∀ {es : List (Int × Int)} {a p : Int}, (∃ L ∈ links, (L.a = a ∧ L.p = p) ∨ (L.b = a ∧ L.q = p)) → isEndB ⟨bsOf es ids, links⟩ a p = false → (⟨newBs (endsOf links) ids, links⟩ : Net).ok = false := by
      rintro es a p ⟨L, hL, hcase⟩ hf
      refine net_no fun hP => ?_
      have h1 := (hP.2.2.2.2.1 L hL).2
      rw [newBs_eq, htk] at h1
      have h2 : ¬ isEndP ⟨bsOf es ids, links⟩ a p := fun h => by rw [(isEndB_iff _ _ _).2 h] at hf; cases hf
      rw [isEnd_of hall] at h2
      rw [isEnd_of hall, isEnd_of hall] at h1
      rcases hcase with ⟨rfl, rfl⟩ | ⟨rfl, rfl⟩
      · exact h2 h1.1
      · exact h2 h1.2
    have srd : ∀ {H' : Heap} {es : List (Int × Int)}, Part IsBridge H' rows (bsOf es ids) fps → Keep fps.flatten H1 H' → RdNet H' [.sl a' ids.length, .sl q1 links.length] ⟨bsOf es ids, links⟩ := by
      intro H' es hp hk
      refine ⟨.sl a' ids.length, .sl q1 links.length, rfl, ⟨a', rows, by rw [bsOf_len], (ho.keep hk hdis).sl, hp.len, fun i row x h1 h2 => ?_⟩, ⟨q1, rfl, ?_⟩⟩
      · have hi := (List.getElem?_eq_some_iff.1 h2).1
        have h3 : i < fps.length := by rw [hp.len2]; exact hi
        exact (hp.at_ i row x _ h1 h2 (List.getElem?_eq_getElem h3)).rd
      · exact ((o1.keep hK3 (fun i hi hj => by have := lt1 i hi; simp at hj; omega)).keep hk (fun i hi hj => by have := lt1 i hi; have := hge i (List.mem_append.2 (.inr hj)); omega)).sl
    have hsz := fun es => bs_sz es ids links (by omega) (by omega)
    simp [builtinV, pureB, lenV, t1]
    refine wpS_loop (fun j tm H' => ∃ k, k + j = links.length ∧ tm 4 = .ptr H.length 0 0 ∧ tm 5 = .bool false ∧ tm 6 = .ptr HX4.length 0 0 ∧ tm 51 = .w (.lf (.sl al links.length)) ∧ tm 52 = .int links.length ∧ tm 53 = .int k ∧ Part IsBridge H' rows (bsOf (endsOf (links.take k)) ids) fps ∧ Keep fps.flatten H1 H') links.length (by rw [env_K]; omega)
      ⟨0, by simp, by simp [t4], by simp [t5], by simp [t6], by simp [t1], by simp, by simp, by simpa [endsOf] using hp, Keep.refl _ _⟩ ?_
    rintro j2 tm H4 hj2 ⟨k, hkj, t4, t5, t6, t51, t52, t53, hp4, hK4⟩ Q3 hn3 he3 hr3
    have hK04 : Keep [] H H4 := hK.next hK4 (fun i hi => by have := hge i (List.mem_append.2 (.inr hi)); omega)
    simp [t51, t52, t53]
    refine selS_intro (fun hc2 => ?_) (fun hc2 => ?_)
    · simp at hc2
      obtain ⟨id2, r, bl, rfl, hbl, hbe, hrow⟩ := (r2.keep hK04 (by simp)) k _ (by simp [hc2]; rfl)
      have hid := blkAt_len hbl
      have g4 : IntKind.i64.wrap ((k : Int) + 1) = (k : Int) + 1 := wrap64 (by omega) (by omega)
      obtain ⟨L, hL⟩ : ∃ L, L = links[k] := ⟨_, rfl⟩
      have hLm : L ∈ links := by rw [hL]; exact List.getElem_mem hc2
      have het := endsOf_tk links hc2
      rw [← hL] at het hrow
      have e5 := fun H => linkEnds H L
      simp only [Link.enc, encE] at e5
      simp [t51, t53, indexAddrV, elemIs, hid, hbl, hbe, hc2, hrow, Link.enc, e5]
      obtain ⟨es0, hes0⟩ : ∃ es0, es0 = endsOf (links.take k) := ⟨_, rfl⟩
      rw [← hes0] at het hp4
      obtain ⟨H5, hH5⟩ : ∃ H5 : Heap, H5 = H4 ++ [some ⟨50, .wr, [[.i .i64 L.a, .i .i64 L.p, .i .i64 L.b, .i .i64 L.q]]⟩, some ⟨75, .wr, [[.i .i64 L.a, .i .i64 L.p]]⟩, some ⟨75, .wr, [[.i .i64 L.b, .i .i64 L.q]]⟩] := ⟨_, rfl⟩
      have k45 : Keep [] H4 H5 := by rw [hH5]; exact Keep.app _ _ _
      rw [← hH5]
      clear hH5
      have hK5 : Keep fps.flatten H1 H5 := hK4.trans k45 (fun _ h _ => h) (by simp)
      have hp5 := hp4.keep okBridge k45 (by simp)
      refine wpS_loop (fun j tm H' => ∃ i2, i2 + j = 2 ∧ tm 4 = .ptr H.length 0 0 ∧ tm 5 = .bool false ∧ tm 6 = .ptr HX4.length 0 0 ∧ tm 51 = .w (.lf (.sl (some (id2, r)) links.length)) ∧ tm 52 = .int links.length ∧ tm 53 = .int k ∧ tm 64 = .agg [.i .i64 L.a, .i .i64 L.p, .i .i64 L.b, .i .i64 L.q] ∧ tm 65 = .int i2 ∧ Part IsBridge H' rows (bsOf (es0 ++ [(L.a, L.p), (L.b, L.q)].take i2) ids) fps ∧ Keep fps.flatten H1 H') 2 (by rw [env_K]; omega)
        ⟨0, by simp, by simp [t4], by simp [t5], by simp [t6], by simp [t51], by simp [t52], by simp [t53], by simp, by simp, by simpa using hp5, hK5⟩ ?_
      rintro j3 tm H6 hj3 ⟨i2, hij2, t4, t5, t6, t51, t52, t53, t64, t65, hp6, hK6⟩ Q4 hn4 he4 hr4
      simp [t65]
      refine selS_intro (fun hc3 => ?_) (fun hc3 => ?_)
      · simp at hc3
        have g5 : IntKind.i64.wrap ((i2 : Int) + 1) = (i2 : Int) + 1 := wrap64 (by omega) (by omega)
        obtain ⟨e, hx, hmem, hst⟩ : ∃ e : Int × Int, indexV env.τ 78 (.agg [.i .i64 L.a, .i .i64 L.p, .i .i64 L.b, .i .i64 L.q]) (.int i2) = some (.agg [.i .i64 e.1, .i .i64 e.2]) ∧ ((L.a = e.1 ∧ L.p = e.2) ∨ (L.b = e.1 ∧ L.q = e.2)) ∧ [(L.a, L.p), (L.b, L.q)].take (i2 + 1) = [(L.a, L.p), (L.b, L.q)].take i2 ++ [e] := by
          rcases (show i2 = 0 ∨ i2 = 1 by omega) with rfl | rfl
          · exact ⟨(L.a, L.p), by simp [indexV, mkV], .inl ⟨rfl, rfl⟩, rfl⟩
          · exact ⟨(L.b, L.q), by simp [indexV, mkV], .inr ⟨rfl, rfl⟩, rfl⟩
        obtain ⟨es, hes⟩ : ∃ es, es = es0 ++ [(L.a, L.p), (L.b, L.q)].take i2 := ⟨_, rfl⟩
        rw [← hes] at hp6
        have hs2 : es0 ++ [(L.a, L.p), (L.b, L.q)].take (i2 + 1) = es ++ [e] := by rw [hst, hes, List.append_assoc]
        simp [t64, t65, hx]
        obtain ⟨H7, hH7⟩ : ∃ H7 : Heap, H7 = H6 ++ [some ⟨75, .wr, [[.i .i64 e.1, .i .i64 e.2]]⟩] := ⟨_, rfl⟩
        have k67 : Keep [] H6 H7 := by rw [hH7]; exact Keep.app _ _ _
        have b7 : blkAt H7 H6.length = some ⟨75, .wr, [[.i .i64 e.1, .i .i64 e.2]]⟩ := by rw [hH7]; simp
        have d7 := blkAt_len b7
        rw [← hH7]
        clear hH7
        have hK7 : Keep fps.flatten H1 H7 := hK6.trans k67 (fun _ h _ => h) (by simp)
        have hp7 := hp6.keep okBridge k67 (by simp)
        have cc7 := hK7.blk c3' hxf
        have dc7 := blkAt_len cc7
        have eE := isEnd cc7 (srd hp7 hK7) (hsz es) e.1 e.2
        simp only [encE] at eE
        simp [t6, eE]
        cases hE : isEndB ⟨bsOf es ids, links⟩ e.1 e.2
        · have c27 := hK7.blk c2' hHf
          have d27 := blkAt_len c27
          simp [t4, c27]
          refine hr4 _ _ ?_
          simp
          refine hr3 _ _ ?_
          simp
          exact no (noE ⟨L, hLm, hmem⟩ hE) _ _ ((hx1.next hK7 hfl).more (by simp)) (by simp [t4]) (by simp)
        · have hE' := (isEnd_of hall links e.1 e.2).1 ((isEndB_iff _ _ _).1 hE)
          obtain ⟨⟨ea0, ea1⟩, ea2, ea3⟩ := hE'
          obtain ⟨t, ht⟩ : ∃ t : Nat, e.1 = (t : Int) := ⟨e.1.toNat, by omega⟩
          obtain ⟨pp, hpp⟩ : ∃ pp : Nat, e.2 = (pp : Int) := ⟨e.2.toNat, by omega⟩
          have htl : t < ids.length := by omega
          have hpl : pp < 4 := by omega
          have hw := newW (es := es) hall one
          have hbl4 : (bAt ⟨bsOf es ids, []⟩ t).ports.length = 4 := by
            simp only [bAt, List.getD, bsOf_at, List.getElem?_eq_getElem htl, Option.map_some, Option.getD_some]
            rw [newB_yes (hall _ (List.getElem_mem htl))]
            rfl
          obtain ⟨bid, blo, ha, hf0, hbl, hbb, hbe2, hrun⟩ := reactAt (m := ⟨bsOf es ids, []⟩) (ho.keep hK7 hdis) hp7 hdis hw (by rw [bsOf_len]; exact htl) (upIn pp) (upIn_ok hpl) (by rw [hbl4]; simp [upIn]; omega)
          subst ha
          rw [newStep hall htl hpl] at hrun
          simp only [In.enc] at hrun
          simp only [show (upIn (pp : Int)).kind = 3 from rfl, show (upIn (pp : Int)).port = pp from rfl, show (upIn (pp : Int)).vec = ⟨0, 0, 0, 0⟩ from rfl, show (upIn (pp : Int)).hops = 0 from rfl, show (upIn (pp : Int)).up = true from rfl] at hrun
          rw [ht, hpp] at b7
          simp [t6, cc7, dc7, b7, d7, indexAddrV, elemIs, hbb, hbe2, hbl, htl]
          refine stpL_runs_w hrun rfl (by rintro _ _ ⟨_, _, _, _, _, hk, _⟩; exact hk.1) ?_
          rintro _ H8 ⟨_, f8, rfl, o8, hp8, hk8, hf8⟩
          simp [t65, g5]
          refine hn4 (j3 - 1) _ _ (by omega) ⟨i2 + 1, by omega, by simp [t4], by simp [t5], by simp [t6], by simp [t51], by simp [t52], by simp [t53], by simp [t64], by simp, ?_, hK7.trans hk8 (fun _ h _ => h) (fun _ h _ => h)⟩
          rw [hs2, show e = ((t : Int), (pp : Int)) from Prod.ext ht hpp]
          exact hp8
      · simp at hc3
        obtain rfl : i2 = 2 := by omega
        simp [t65]
        refine he4 _ _ _ ?_
        simp [t53, g4]
        refine hn3 (j2 - 1) _ _ (by omega) ⟨k + 1, by omega, by simp [t4], by simp [t5], by simp [t6], by simp [t51], by simp [t52], by simp, ?_, hK6⟩
        rw [het]
        simpa using hp6
    · simp at hc2
      obtain rfl : k = links.length := by omega
      rw [List.take_length] at hp4
      simp [t51, t52, t53]
      refine he3 _ _ _ ?_
      have cc4 := hK4.blk c3' hxf
      have dc4 := blkAt_len cc4
      have c24 := hK4.blk c2' hHf
      have d24 := blkAt_len c24
      have hrd := srd hp4 hK4
      have eN := implNetOk_is hrd (hsz _)
      have hNN : (⟨newBs (endsOf links) ids, links⟩ : Net) = ⟨bsOf (endsOf links) ids, links⟩ := by rw [newBs_eq, htk]
      simp [t6, cc4, dc4, eN]
      cases hno : (⟨bsOf (endsOf links) ids, links⟩ : Net).ok
      · simp [t4, c24]
        exact no (by rw [hNN]; exact hno) _ _ ((hx1.next hK4 hfl).more (by simp)) (by simp [t4]) (by simp)
      · simp [t4, t6, cc4, dc4, c24]
        obtain ⟨HF, hHF⟩ : ∃ HF : Heap, HF = H4.set H.length (some ⟨27, .wr, [[.sl a' ids.length, .sl q1 links.length]]⟩) := ⟨_, rfl⟩
        rw [← hHF]
        have kF : Keep [H.length] H4 HF := by rw [hHF]; exact Keep.set _ _
        have cF : blkAt HF H.length = some ⟨27, .wr, [[.sl a' ids.length, .sl q1 links.length]]⟩ := by rw [hHF]; exact blkAt_set d24
        clear hHF
        refine hQ _ _ _ (by simp) ?_
        have hnn : netNew ids links = (⟨bsOf (endsOf links) ids, links⟩, true) := by rw [netNew, hNN, if_pos hno]
        simp [Try.f15, t4, cF, hnn]
        have hnd2 : ((fp0 ++ fps.flatten) ++ f1).Nodup := nodup_app hnd o1.nodup fun i hi hj => by have := hge i hi; have := lt1 i hj; omega
        have o1F := ((o1.keep hK3 (fun i hi hj => by have := lt1 i hi; simp at hj; omega)).keep hK4 (fun i hi hj => by have := lt1 i hi; have := hge i (List.mem_append.2 (.inr hj)); omega)).keep kF (fun i hi hj => by have := ge1 i hi; simp at hj; omega)
        have oF := (ho.keep hK4 hdis).keep kF (fun i hi hj => by have := hge i (List.mem_append.2 (.inl hi)); simp at hj; omega)
        have pF := hp4.keep okBridge kF (fun i hi hj => by have := hge i (List.mem_append.2 (.inr hi)); simp at hj; omega)
        have hI : IsNet HF [.sl a' ids.length, .sl q1 links.length] ⟨bsOf (endsOf links) ids, links⟩ ((fp0 ++ fps.flatten) ++ f1) := ⟨.sl a' ids.length, .sl q1 links.length, _, f1, rfl, ⟨a', rows, fp0, fps, by rw [bsOf_len], oF, pF, rfl, hnd⟩, ⟨q1, rfl, o1F⟩, rfl, hnd2⟩
        have hfr : Fresh H HF ((fp0 ++ fps.flatten) ++ f1) := ⟨((hK.next hK4 (fun i hi => by have := hfl i hi; omega)).next kF (by simp)).ext, fun i hi => by
          rcases List.mem_append.1 hi with hi | hi
          · have := hge i hi; omega
          · have := ge1 i hi; omega⟩
        exact hI.leave hfr (by simp)

theorem specNetBig {H : Heap} {l : List Lf} {n : Net} (h : RdNet H l n) (hn : n.bridges.length ≤ 6) (hl : 6 < n.links.length) (hl2 : n.links.length ≤ 1048576) : run env 24 [.agg l] H = some (.bool false, H) := by
  obtain ⟨_, _, rfl, ⟨a0, rws, rfl, hs, hlen, hat⟩, ⟨c, rfl, hc1⟩⟩ := h
  refine run_walk ok24 Try.func24 rfl (by simp [Try.f24]) fun Q hQ => ?_
  simp only [Try.f24, strip, stripL, stripI, stripG, chkT, tagsB, tagsL, tagD, addT, tagA, lookN, tagOp, elmT, ty22, ty24, ty25, ty33, ty54, ty58, ty95, ty122, Nat.reduceEqDiff, if_false, reduceIte, Option.getD_some, Option.getD_none, dstAt, dstOk, Nat.reduceLT, decide_true, if_true]
  simp [Net.enc, builtinV, pureB, lenV, l1In]
  refine gdL_f (fun hd => ?_) (fun hd => ?_)
  · simp [hd]
    refine hQ _ _ _ (by simp) ?_
    simp [Try.f24]
  have hl' : 6 < (n.links.length : Int) := by omega
  simp [hd, builtinV, pureB, lenV, hl']
  refine hQ _ _ _ (by simp) ?_
  simp [Try.f24]

def newBp (es : List (Int × Int)) (i : Nat) (id : Int) (p : Nat) : Bridge := if 1 ≤ id ∧ id ≤ 9 then upB id (fun q => upAt es i q && decide (q < p)) else ⟨0, []⟩
theorem newBp_zero (es : List (Int × Int)) (i : Nat) (id : Int) : newBp es i id 0 = (bridgeNew id 4).1 := by
  rw [← newB_nil i]
  unfold newBp newB
  simp [upB, upAt]
theorem newBp_len (es : List (Int × Int)) (i : Nat) (id : Int) (p : Nat) : (newBp es i id p).ports.length = (newB es i id).ports.length := by
  unfold newBp newB
  split <;> simp [upB]
theorem newBp_full (es : List (Int × Int)) (i : Nat) (id : Int) : newBp es i id (newB es i id).ports.length = newB es i id := by
  unfold newBp newB
  split
  · simp [upB]
  · rfl
theorem newBp_good {es : List (Int × Int)} {i : Nat} {id : Int} {p : Nat} (h : p < (newB es i id).ports.length) : (1 ≤ id ∧ id ≤ 9) ∧ p < 4 := by
  unfold newB at h
  split at h
  · rename_i h1; exact ⟨h1, by simpa [upB] using h⟩
  · simp at h
theorem newBp_yes {es : List (Int × Int)} {i : Nat} {id : Int} {p : Nat} (h : 1 ≤ id ∧ id ≤ 9) (hp : p < 4) (hu : upAt es i p = true) : (reactB (newBp es i id p) (upIn p)).1 = newBp es i id (p + 1) := by
  unfold newBp
  rw [if_pos h, if_pos h, upStep h _ hp]
  have : (fun q => upAt es i q && decide (q < p) || decide (q = p)) = fun q => upAt es i q && decide (q < p + 1) := by
    funext q
    by_cases hq : q = p
    · subst hq; simp [hu]
    · have : decide (q < p + 1) = decide (q < p) := by rw [decide_eq_decide]; omega
      simp [hq, this]
  rw [this]
theorem newBp_no {es : List (Int × Int)} {i : Nat} {id : Int} {p : Nat} (hu : upAt es i p = false) : newBp es i id p = newBp es i id (p + 1) := by
  unfold newBp
  have : (fun q => upAt es i q && decide (q < p)) = fun q => upAt es i q && decide (q < p + 1) := by
    funext q
    by_cases hq : q = p
    · subst hq; simp [hu]
    · have : decide (q < p + 1) = decide (q < p) := by rw [decide_eq_decide]; omega
      simp [this]
  rw [this]
theorem newBp_ok {es : List (Int × Int)} {i : Nat} {id : Int} {p : Nat} (h : 1 ≤ id ∧ id ≤ 9) : (newBp es i id p).ok = true := by
  unfold newBp
  rw [if_pos h]
  exact upB_ok h _
theorem upAt_count (es : List (Int × Int)) (i p : Nat) : upAt es i p = decide (0 < es.count ((i : Int), (p : Int))) := by
  unfold upAt
  rw [decide_eq_decide, List.count_pos_iff]

theorem specNetNew_is {H : Heap} {q : Lf} {ids : List Int} (h : RdIntS H q ids) (hn : ids.length ≤ 1048576) {q2 : Lf} {links : List Link} (h2 : RdLinkS H q2 links) (hn2 : links.length ≤ 1048576) :
    Runs env 16 [.w (.lf q), .w (.lf q2)] H fun v H' => ∃ l fp, v = .tup [.agg l, .lf (.b (netNew ids links).2)] ∧ IsNet H' l (netNew ids links).1 fp ∧ Fresh H H' fp := by
  obtain ⟨ai, rfl, r1⟩ := h
  obtain ⟨al, rfl, r2⟩ := h2
  refine Runs.walk ok16 Try.func16 rfl (by simp [Try.f16]) fun Q hQ => ?_
  simp only [Try.f16, strip, stripL, stripI, stripG, chkT, tagsB, tagsL, tagD, addT, tagA, lookN, tagOp, elmT, ty22, ty24, ty25, ty33, ty54, ty58, ty95, ty122, Nat.reduceEqDiff, if_false, reduceIte, Option.getD_some, Option.getD_none, dstAt, dstOk, Nat.reduceLT, decide_true, if_true]
  simp
  obtain ⟨HX0, hH0⟩ : ∃ H3 : Heap, H3 = H ++ [some ⟨27, .wr, [[.sl none 0, .sl none 0]]⟩] := ⟨_, rfl⟩
  have c2_0 : blkAt HX0 H.length = some ⟨27, .wr, [[.sl none 0, .sl none 0]]⟩ := by rw [hH0]; simp
  have k0_0 : Keep [] H HX0 := by rw [hH0]; exact Keep.app _ _ _
  have lx0 : HX0.length = H.length + 1 := by rw [hH0]; simp
  have hT : ∀ tmp : Option Blk, H ++ [some ⟨27, .wr, [[.sl none 0, .sl none 0]]⟩, tmp] = HX0 ++ [tmp] := by intro tmp; rw [hH0]; simp
  rw [hT]
  rw [show H.length + 1 = HX0.length from lx0.symm]
  clear hT hH0
  refine stpL_append (rows := []) (ys := links.map Link.enc) (Own.of (by simp)) ((r2.keep k0_0 (by simp)).app _) rfl rfl rfl (by simp) (by simp; omega) rfl (by simp) fun q1 HX4 f1 o1 kt1 ft1 => ?_
  rw [List.nil_append] at o1
  have kx1 : Keep [] HX0 HX4 := (Keep.app [] _ _).next kt1 (by simp)
  have lx1' := kx1.1
  have lt1 := o1.lt
  have ge1 : ∀ i ∈ f1, HX0.length ≤ i := fun i hi => by
    rcases ft1 i hi with h | h
    · simp at h; omega
    · rw [List.length_append] at h; omega
  have c2_4 := kx1.blk c2_0 (by simp)
  simp
  obtain ⟨H3, hH3⟩ : ∃ H3 : Heap, H3 = HX4 ++ [some ⟨27, .wr, [[.sl none 0, .sl q1 links.length]]⟩] := ⟨_, rfl⟩
  have b3 : blkAt H3 HX4.length = some ⟨27, .wr, [[.sl none 0, .sl q1 links.length]]⟩ := by rw [hH3]; simp
  have k43 : Keep [] HX4 H3 := by rw [hH3]; exact Keep.app _ _ _
  have hl3 : H3.length = HX4.length + 1 := by rw [hH3]; simp
  rw [← hH3]
  clear hH3
  have b2 := k43.blk c2_4 (by simp)
  have o1 := o1.keep k43 (by simp)
  have kx3 : Keep [] HX0 H3 := kx1.trans k43 (by simp) (by simp)
  have k03 : Keep [] H H3 := k0_0.trans kx3 (by simp) (by simp)
  obtain ⟨es, hes⟩ : ∃ es, es = endsOf links := ⟨_, rfl⟩
  obtain ⟨N, hN⟩ : ∃ N, N = min 6 ids.length := ⟨_, rfl⟩
  refine wpS_loop (fun j tm H' => ∃ i a' rows fp0 fps, i + j = N ∧ tm 0 = .w (.lf (.sl ai ids.length)) ∧ tm 4 = .ptr H.length 0 0 ∧ tm 5 = .bool false ∧ tm 6 = .ptr HX4.length 0 0 ∧ tm 7 = .int i ∧ blkAt H' HX4.length = some ⟨27, .wr, [[.sl a' i, .sl q1 links.length]]⟩ ∧ Own H' 56 a' rows fp0 ∧ Part IsBridge H' rows (bsOf es (ids.take i)) fps ∧ (fp0 ++ fps.flatten).Nodup ∧ (∀ k ∈ fp0 ++ fps.flatten, H3.length ≤ k) ∧ Keep [HX4.length] H3 H') N (by rw [env_K]; omega)
    ⟨0, none, [], [], [], by simp, by simp, by simp, by simp, by simp, by simp, b3, Own.nil _ _, by simpa [bsOf] using Part.nil _ _, by simp, by simp, Keep.refl _ _⟩ ?_
  rintro j tm H1 hj ⟨i, a', rows, fp0, fps, hij, t0, t4, t5, t6, t7, c3', ho, hp, hnd, hge, hK3⟩ Q2 hn2' he2 hr2
  have c2' := hK3.blk b2 (by simp; omega)
  have d2 := blkAt_len c2'
  have d3 := blkAt_len c3'
  have hK : Keep [] H H1 := k03.next hK3 (by simp; omega)
  have h31 := hK3.1
  have hmin : N = min 6 ids.length := hN
  have hmm : i < N ∨ i = N := by omega
  rcases hmm with hc | hc
  · have hci : i < ids.length := by omega
    have hc5 : (i : Int) ≤ 5 := by omega
    obtain ⟨id2, r, bl, rfl, hbl, hbe, hrow⟩ := (r1.keep hK (by simp)) i _ (by simp [hci]; rfl)
    have hid := blkAt_len hbl
    have g4 : IntKind.i64.wrap ((i : Int) + 1) = (i : Int) + 1 := wrap64 (by omega) (by omega)
    have hrl : rows.length = i := by rw [hp.len, bsOf_len]; simp; omega
    simp [t0, t7, builtinV, pureB, lenV, hci, hc5, indexAddrV, elemIs, hid, hbl, hbe, hrow, encI]
    refine stpL_runs (specBridgeNew _ ids[i] 4) ?_
    rintro _ _ ⟨l2, f2, rfl, o2', ⟨⟨G2, rfl⟩, hf2⟩⟩
    have hl2 := o2'.len
    have hT2 : l2.take l2.length = l2 := List.take_length
    rw [hl2] at hT2
    rw [← newBp_zero es i] at o2'
    simp [hl2, hT2]
    obtain ⟨K8, hK8⟩ : ∃ K8, K8 = H1.length + G2.length := ⟨_, rfl⟩
    obtain ⟨H5, hH5⟩ : ∃ H5 : Heap, H5 = H1 ++ (G2 ++ [some ⟨56, .wr, [l2]⟩]) := ⟨_, rfl⟩
    have b8 : blkAt H5 K8 = some ⟨56, .wr, [l2]⟩ := by rw [hH5, hK8]; simp
    have k15 : Keep [] H1 H5 := by rw [hH5]; exact Keep.app _ _ _
    have o25 : IsBridge H5 l2 (newBp es i ids[i] 0) f2 := by rw [hH5, ← List.append_assoc]; exact o2'.app _
    have hlt2 := o2'.lt
    have n8 : ∀ x ∈ f2, H1.length ≤ x ∧ x ≠ K8 := fun x hx => by have h1 := hf2 x hx; have h2 := hlt2 x hx; rw [List.length_append] at h2; omega
    have hl5 : H5.length = K8 + 1 := by rw [hH5, hK8]; simp [Nat.add_assoc]
    rw [← hK8, ← hH5]
    clear hH5
    obtain ⟨bi, hbi⟩ : ∃ bi, bi = ids[i] := ⟨_, rfl⟩
    rw [← hbi] at o25 ⊢
    obtain ⟨c, hcl⟩ : ∃ c, c = (newB es i bi).ports.length := ⟨_, rfl⟩
    have hc4 : c ≤ 4 := by rw [hcl]; exact newB_len _ _ _
    refine wpS_loop (fun j tm H' => ∃ p l' f, p + j = c ∧ tm 0 = .w (.lf (.sl (some (id2, r)) ids.length)) ∧ tm 4 = .ptr H.length 0 0 ∧ tm 5 = .bool false ∧ tm 6 = .ptr HX4.length 0 0 ∧ tm 7 = .int i ∧ tm 8 = .ptr K8 0 0 ∧ tm 10 = .int p ∧ blkAt H' K8 = some ⟨56, .wr, [l']⟩ ∧ IsBridge H' l' (newBp es i bi p) f ∧ (∀ x ∈ f, H1.length ≤ x ∧ x ≠ K8) ∧ Keep [] H1 H' ∧ K8 < H'.length) c (by rw [env_K]; omega)
      ⟨0, l2, f2, by simp, by simp [t0], by simp [t4], by simp [t5], by simp [t6], by simp [t7], by simp, by simp, b8, o25, n8, k15, by omega⟩ ?_
    rintro j2 tm H6 hj2 ⟨p, l6, f6, hpj, t0, t4, t5, t6, t7, t8, t10, c8, o6, n6, k6, hk8⟩ Q3 hn3 he3 hr3
    have d8 := blkAt_len c8
    have c36 := k6.blk c3' (by simp)
    have d36 := blkAt_len c36
    have hl6 := o6.len
    have hT6 : l6.take l6.length = l6 := List.take_length
    have hD6 : l6.drop l6.length = [] := List.drop_length
    rw [hl6] at hT6 hD6
    obtain ⟨a6, he6, o6'⟩ := id o6
    have hpl : (newBp es i bi p).ports.length = c := by rw [newBp_len, hcl]
    have g5 : IntKind.i64.wrap ((p : Int) + 1) = (p : Int) + 1 := wrap64 (by omega) (by omega)
    have c8e : blkAt H6 K8 = some ⟨56, .wr, [[.i .i64 (newBp es i bi p).id, .sl a6 (newBp es i bi p).ports.length]]⟩ := by rw [c8, he6]; rfl
    simp [t8, t10, c8e, d8, builtinV, pureB, lenV, hpl]
    refine selS_intro (fun hc2 => ?_) (fun hc2 => ?_)
    · simp at hc2
      have ho6 := ho.keep k6 (by simp)
      have hp6 := hp.keep okBridge k6 (by simp)
      have hrd : RdNet H6 [.sl a' i, .sl q1 links.length] ⟨bsOf es (ids.take i), links⟩ := by
        refine ⟨.sl a' i, .sl q1 links.length, rfl, ⟨a', rows, by rw [bsOf_len]; simp; omega, ho6.sl, hp6.len, fun i row x h1 h2 => ?_⟩, ⟨q1, rfl, ?_⟩⟩
        · have hi := (List.getElem?_eq_some_iff.1 h2).1
          have h3 : i < fps.length := by rw [hp6.len2]; exact hi
          exact (hp6.at_ i row x _ h1 h2 (List.getElem?_eq_getElem h3)).rd
        · exact ((o1.keep hK3 (fun i hi hj => by have := lt1 i hi; simp at hj; omega)).keep k6 (by simp)).sl
      have eO := l10Once hrd hn2 (i : Int) (p : Int)
      simp [t6, t7, t10, c36, d36, eO]
      have hgood := newBp_good (es := es) (i := i) (id := bi) (p := p) (by omega)
      refine selS_intro (fun hd => ?_) (fun hd => ?_)
      · have hu : upAt es i p = true := by rw [upAt, hes]; simpa using hd
        have hrun := specReact o6.rd (by unfold Bridge.sz; omega) (upIn p)
        rw [newBp_yes hgood.1 hgood.2 hu] at hrun
        simp only [In.enc] at hrun
        simp only [show (upIn (p : Int)).kind = 3 from rfl, show (upIn (p : Int)).port = p from rfl, show (upIn (p : Int)).vec = ⟨0, 0, 0, 0⟩ from rfl, show (upIn (p : Int)).hops = 0 from rfl, show (upIn (p : Int)).up = true from rfl] at hrun
        simp [t8, t10, c8, d8, hl6, hT6]
        refine stpL_runs hrun ?_
        rintro _ H7 ⟨l7, f7, q7, fq7, rfl, o7, -, fr7, -⟩
        have hl7 := o7.len
        have hT7 : l7.take l7.length = l7 := List.take_length
        rw [hl7] at hT7
        have k67 : Keep [] H6 H7 := fr7.kp
        have c87 := k67.blk c8 (by simp)
        have d87 := blkAt_len c87
        have n7 : ∀ x ∈ f7, H6.length ≤ x := fun x hx => fr7.2 x (List.mem_append.2 (.inl hx))
        have k61 := k6.1
        have k671 := k67.1
        simp [t8, t10, c87, d87, hl7, hT7, g5, hl6, hD6]
        have ks := Keep.set (id := K8) H7 (some ⟨56, .wr, [l7]⟩)
        refine hn3 (j2 - 1) _ _ (by omega) ⟨p + 1, l7, f7, by omega, by simp [t0], by simp [t4], by simp [t5], by simp [t6], by simp [t7], by simp [t8], by simp, blkAt_set d87, o7.keep ks (fun x hx hj => by have := n7 x hx; simp at hj; omega), fun x hx => by have := n7 x hx; omega, (k6.trans k67 (by simp) (by simp)).next ks (by simp; omega), by simp; omega⟩
      · have hu : upAt es i p = false := by rw [upAt, hes]; simpa using hd
        rw [newBp_no hu] at o6
        simp [t10, g5]
        exact hn3 (j2 - 1) _ _ (by omega) ⟨p + 1, l6, f6, by omega, by simp [t0], by simp [t4], by simp [t5], by simp [t6], by simp [t7], by simp [t8], by simp, c8, o6, n6, k6, hk8⟩
    · simp at hc2
      obtain rfl : p = c := by omega
      simp [t8, t10]
      refine he3 _ _ _ ?_
      rw [hcl, newBp_full] at o6
      have hlt0 := ho.lt
      simp [t6, t8, c8, d8, c36, d36, hl6, hT6]
      refine stpL_append (e := 56) (rows := rows) (ys := [l6]) ((ho.keep k6 (by simp)).app _) (Sl.of (by simp)) rfl rfl rfl (by simp) (by simp; omega) (by omega) rfl fun a'' H'' fp'' ho'' hk'' hf'' => ?_
      have k12 : Keep [] H1 (H6 ++ [some ⟨56, .wr, [l6]⟩]) := k6.trans (Keep.app [] _ _) (by simp) (by simp)
      have o2'' := o6.app [some ⟨56, .wr, [l6]⟩]
      have hf2' : ∀ k ∈ f6, H1.length ≤ k := fun k hk => (n6 k hk).1
      obtain ⟨hp2, hnd2⟩ := isL_snoc okBridge hp hnd hlt0 k12 o2'' hf2' hk'' ho'' hf''
      have c3b := (hk''.blk (k12.blk c3' (by simp)) (fun h => by have := hge _ (List.mem_append.2 (.inl h)); omega))
      have d3b := blkAt_len c3b
      have hk1 : Keep [HX4.length] H3 H'' := Keep.trans (h := [HX4.length]) (Keep.trans (h := [HX4.length]) hK3 k12 (by simp) (by simp)) hk'' (by simp) (fun k hk hl => by have := hge k (List.mem_append.2 (.inl hk)); omega)
      have k121 := k12.1
      have hge2 : ∀ k ∈ fp'' ++ (fps ++ [f6]).flatten, H3.length ≤ k := fun k hk => by
        rcases List.mem_append.1 hk with hk | hk
        · rcases hf'' k hk with h | h
          · exact hge k (List.mem_append.2 (.inl h))
          · omega
        · rw [List.flatten_append] at hk
          rcases List.mem_append.1 hk with hk | hk
          · exact hge k (List.mem_append.2 (.inr hk))
          · simp at hk
            have := hf2' k hk; omega
      have ks := fun y => Keep.set (id := HX4.length) H'' y
      have hno : ∀ k ∈ fp'' ++ (fps ++ [f6]).flatten, k ∉ [HX4.length] := fun k hk => by have := hge2 k hk; simp; omega
      simp [t0, t4, t5, t6, t7, c3b, d3b, g4]
      refine hn2' (j - 1) _ _ (by omega) ⟨i + 1, a'', rows ++ [l6], fp'', fps ++ [f6], by omega, by simp [t0], by simp [t4], by simp [t5], by simp [t6], by simp, by rw [blkAt_set d3b], ho''.keep (ks _) (fun k hk => hno k (List.mem_append.2 (.inl hk))), ?_, hnd2, hge2, hk1.trans (h := [HX4.length]) (ks _) (by simp) (by simp)⟩
      rw [bsOf_take _ _ hci, ← hbi]
      exact hp2.keep okBridge (ks _) (fun k hk => hno k (List.mem_append.2 (.inr hk)))
  · subst hc
    have htk : ids.take i = ids.take 6 := by
      by_cases h6 : ids.length ≤ 6
      · rw [List.take_of_length_le (by omega), List.take_of_length_le (by omega)]
      · have : i = 6 := by omega
        rw [this]
    rw [htk] at hp
    have hbl : (bsOf es (ids.take 6)).length = i := by rw [bsOf_len, List.length_take]; omega
    have hrd : RdNet H1 [.sl a' i, .sl q1 links.length] ⟨bsOf es (ids.take 6), links⟩ := by
      refine ⟨.sl a' i, .sl q1 links.length, rfl, ⟨a', rows, by rw [hbl], ho.sl, hp.len, fun i row x h1 h2 => ?_⟩, ⟨q1, rfl, ?_⟩⟩
      · have hi := (List.getElem?_eq_some_iff.1 h2).1
        have h3 : i < fps.length := by rw [hp.len2]; exact hi
        exact (hp.at_ i row x _ h1 h2 (List.getElem?_eq_getElem h3)).rd
      · exact (o1.keep hK3 (fun i hi hj => by have := lt1 i hi; simp at hj; omega)).sl
    have eN : run env 24 [.agg [.sl a' i, .sl q1 links.length]] H1 = some (.bool (⟨bsOf es (ids.take 6), links⟩ : Net).ok, H1) := by
      by_cases hl6 : links.length ≤ 6
      · exact specNetOk_is hrd (bs_sz es _ links (by rw [List.length_take]; omega) (by omega))
      · rw [net_no (fun hP => hl6 hP.2.1)]
        exact specNetBig hrd (by simp only [hbl]; omega) (by simp only; omega) hn2
    have hNN : (⟨newBs (endsOf links) ids, links⟩ : Net) = ⟨bsOf es (ids.take 6), links⟩ := by rw [newBs_eq, hes]
    have key : ∀ tm' : Ab.T, tm' 4 = .ptr H.length 0 0 → tm' 5 = .bool false → tm' 6 = .ptr HX4.length 0 0 → Q2 (.exit 0) tm' H1 := by
      intro tm' t4 t5 t6
      refine he2 _ _ _ ?_
      simp [t6, c3', d3, eN]
      cases hno : (⟨bsOf es (ids.take 6), links⟩ : Net).ok
      · simp [t4, c2']
        obtain ⟨HF, hHF⟩ : ∃ HF : Heap, HF = H1.set H.length (some ⟨27, .wr, [[.sl none 0, .sl none 0]]⟩) := ⟨_, rfl⟩
        rw [← hHF]
        have kF : Keep [H.length] H1 HF := by rw [hHF]; exact Keep.set _ _
        have cF : blkAt HF H.length = some ⟨27, .wr, [[.sl none 0, .sl none 0]]⟩ := by rw [hHF]; exact blkAt_set d2
        clear hHF
        refine hQ _ _ _ (by simp) ?_
        simp [Try.f16, t4, cF, netNew_no (ids := ids) (links := links) (by rw [hNN]; exact hno)]
        have hI : ∀ G, IsNet G [.sl none 0, .sl none 0] ⟨[], []⟩ [] := fun G => ⟨.sl none 0, .sl none 0, [], [], rfl, IsL.emp _ _ _, ⟨none, rfl, Own.nil _ _⟩, rfl, by simp⟩
        exact (hI HF).leave ⟨(hK.next kF (by simp)).ext, by simp⟩ (by simp)
      · simp [t4, t6, c3', d3, c2']
        obtain ⟨HF, hHF⟩ : ∃ HF : Heap, HF = H1.set H.length (some ⟨27, .wr, [[.sl a' i, .sl q1 links.length]]⟩) := ⟨_, rfl⟩
        rw [← hHF]
        have kF : Keep [H.length] H1 HF := by rw [hHF]; exact Keep.set _ _
        have cF : blkAt HF H.length = some ⟨27, .wr, [[.sl a' i, .sl q1 links.length]]⟩ := by rw [hHF]; exact blkAt_set d2
        clear hHF
        refine hQ _ _ _ (by simp) ?_
        have hnn : netNew ids links = (⟨bsOf es (ids.take 6), links⟩, true) := by rw [netNew, hNN, if_pos hno]
        simp [Try.f16, t4, cF, hnn]
        have hnd2 : ((fp0 ++ fps.flatten) ++ f1).Nodup := nodup_app hnd o1.nodup fun i hi hj => by have := hge i hi; have := lt1 i hj; omega
        have o1F := (o1.keep hK3 (fun i hi hj => by have := lt1 i hi; simp at hj; omega)).keep kF (fun i hi hj => by have := ge1 i hi; simp at hj; omega)
        have oF := ho.keep kF (fun i hi hj => by have := hge i (List.mem_append.2 (.inl hi)); simp at hj; omega)
        have pF := hp.keep okBridge kF (fun i hi hj => by have := hge i (List.mem_append.2 (.inr hi)); simp at hj; omega)
        have hI : IsNet HF [.sl a' i, .sl q1 links.length] ⟨bsOf es (ids.take 6), links⟩ ((fp0 ++ fps.flatten) ++ f1) := ⟨.sl a' i, .sl q1 links.length, _, f1, rfl, ⟨a', rows, fp0, fps, by rw [hbl], oF, pF, rfl, hnd⟩, ⟨q1, rfl, o1F⟩, rfl, hnd2⟩
        have hfr : Fresh H HF ((fp0 ++ fps.flatten) ++ f1) := ⟨(hK.next kF (by simp)).ext, fun i hi => by
          rcases List.mem_append.1 hi with hi | hi
          · have := hge i hi; omega
          · have := ge1 i hi; omega⟩
        exact hI.leave hfr (by simp)
    by_cases h6 : i < ids.length
    · have : ¬ (i : Int) ≤ 5 := by omega
      simp [t0, t7, builtinV, pureB, lenV, h6, this]
      exact key _ (by simp [t4]) (by simp [t5]) (by simp [t6])
    · simp [t0, t7, builtinV, pureB, lenV, h6]
      exact key _ (by simp [t4]) (by simp [t5]) (by simp [t6])

theorem bigL {H : Heap} {a : Option (Nat × Nat)} {n : Nat} : run env 9 [.w (.lf (.sl a n))] H = some (.bool (decide ((1048576 : Int) < n)), H) := by
  refine run_walk ok9 Try.func9 rfl (by simp [Try.f9]) fun Q hQ => ?_
  simp only [Try.f9, strip, stripL, stripI, stripG, chkT, tagsB, tagsL, tagD, addT, tagA, lookN, tagOp, elmT, ty22, ty24, ty25, ty33, ty54, ty58, ty95, ty122, Nat.reduceEqDiff, if_false, reduceIte, Option.getD_some, Option.getD_none, dstAt, dstOk, Nat.reduceLT, decide_true, if_true]
  simp [builtinV, pureB, lenV]
  refine hQ _ _ _ (by simp) ?_
  simp [Try.f9]
end W
end Go.Proofs.Ytjgjjaidpceieaa
