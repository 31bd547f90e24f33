/- The functions that this law reaches: what each computes. Conditions: those that each theorem names. -/
import Derived.Test.YtafakoecgaijoaaGreatWalkDoAll
set_option maxRecDepth 100000
set_option maxHeartbeats 4000000
set_option linter.unusedSimpArgs false
set_option linter.unusedVariables false
set_option linter.unnecessarySimpa false
namespace Go.Proofs.YtafakoecgaijoaaGreat
open Go Go.Ab Go.ChangeShapes Go.WideShapes Go.ChangeAt Go.RowKit
namespace W
theorem markMinderS_is {H : Heap} {q : Lf} {xs : List Minder} {fp : List Nat} {k : Int} (h : IsMinderS H q xs fp) (hk : 0 ≤ k) (hk2 : k ≤ 1152921504606846976) (hn : MinderS.sz xs ≤ 1048576) :
    Runs env 47 [.w (.lf q), .int k] H fun v H' => v = .int (MinderS.mkN xs k) ∧ IsMinderS H' q (MinderS.mk' xs k) fp ∧ Keep fp H H' := by
  have hlt0 := h.lt okMinder
  obtain ⟨a, rows0, fp0, fps, rfl, hown, hpart, rfl, hnd⟩ := h
  have hl0 := MinderS.sz_len xs
  have hdis : ∀ i ∈ fp0, i ∉ fps.flatten := fun i hi hj => (List.nodup_append.1 hnd).2.2 i hi i hj rfl
  refine Runs.walk ok47 Tryz.func47 rfl (by simp [Tryz.f47]) fun Q hQ => ?_
  simp only [Tryz.f47, strip, stripL, stripI, stripG, chkT, tagsB, tagsL, tagD, addT, tagA, lookN, tagOp, elmT, ty24, ty25, ty26, ty27, ty28, ty39, ty40, ty41, ty42, ty57, ty59, ty62, ty98, Nat.reduceEqDiff, if_false, reduceIte, Option.getD_some, Option.getD_none, dstAt, dstOk, Nat.reduceLT, decide_true, if_true]
  simp
  refine wpS_loop (fun j tm H' => ∃ i rows, i + j = xs.length ∧ tm 0 = .w (.lf (.sl a xs.length)) ∧ tm 1 = .int (MinderS.mkN (xs.take i) k) ∧ tm 5 = .int i ∧ Own H' 106 a rows fp0 ∧ Part IsMinder H' rows (MinderS.mk' (xs.take i) k ++ xs.drop i) fps ∧ Keep (fp0 ++ fps.flatten) H H') xs.length (by rw [env_K]; omega)
    ⟨0, rows0, by simp, by simp, by simp [MinderS.mkN], by simp, hown, by simpa [MinderS.mk'] using hpart, Keep.refl _ _⟩ ?_
  rintro j tm H' hj ⟨i, rows, hij, t0, t1, t5, ho, hp, hkp⟩ Q' hn' he' hr'
  simp [t0, t1, t5, builtinV, pureB, lenV]
  refine selS_intro (fun hc => ?_) (fun hc => ?_)
  · simp at hc
    have hlenx : (MinderS.mk' (xs.take i) k ++ xs.drop i).length = xs.length := by simp [MinderS.mk_len]; omega
    have hri : i < (MinderS.mk' (xs.take i) k ++ xs.drop i).length := by omega
    obtain ⟨hr1, hf1, hR⟩ := hp.get hri
    have hxi : (MinderS.mk' (xs.take i) k ++ xs.drop i)[i] = xs[i] := by
      rw [List.getElem_append_right (by simp [MinderS.mk_len]; omega)]
      simp [MinderS.mk_len]
      congr 1
      omega
    rw [hxi] at hR
    obtain ⟨a1, hrow, hpo⟩ := hR
    obtain ⟨id, b, rfl, rfl, hb, hbe, hm, t, ht⟩ := ho.blk (by rintro rfl; simp at hr1)
    have hid := blkAt_len hb
    have hbi : i < b.rows.length := by rw [← ht]; simp; omega
    have hbr : b.rows[i] = xs[i].enc a1 := by
      have : b.rows[i]? = some (xs[i].enc a1) := by rw [← ht, List.getElem?_append_left hr1, List.getElem?_eq_getElem hr1, hrow]
      rw [List.getElem?_eq_getElem hbi] at this
      injection this
    have hbd := MinderS.mkN_bd (xs.take i) k
    have hps : MinderS.sz (xs.take i) ≤ MinderS.sz xs := by
      have h1 := MinderS.ps_le xs i
      have h2 : MinderS.sz (xs.take i) = (xs.take i).length + MinderS.ps xs i := rfl
      have h3 : (xs.take i).length ≤ xs.length := by simp; omega
      omega
    have hsz := MinderS.sz_at (List.getElem_mem hc)
    have hsz2 : (xs[i]).log.length ≤ 1048576 := by have : (xs[i]).sz = (xs[i]).log.length := rfl; omega
    obtain ⟨c, hcc⟩ : ∃ c, c = MinderS.mkN (xs.take i) k := ⟨_, rfl⟩
    rw [← hcc] at t1 hbd
    have w : ∀ d : Int, 0 ≤ d → d ≤ 100 → IntKind.i64.wrap (c + d) = c + d := fun d h1 h2 => wrap64 (by omega) (by omega)
    have g4 : IntKind.i64.wrap ((i : Int) + 1) = (i : Int) + 1 := wrap64 (by omega) (by omega)
    have hidf : id ∉ fps[i] := fun hx => hdis id (by simp) (flat_mem (List.getElem?_eq_getElem hf1) hx)
    obtain ⟨m, hmm⟩ : ∃ m, m = xs[i] := ⟨_, rfl⟩
    rw [← hmm] at hbr hsz hsz2 hpo
    simp [t0, t1, t5, indexAddrV, elemIs, hid, hb, hbe, hm, hc, hbi, hbr, blkAt_set, Minder.enc, w, Int.add_assoc]
    obtain ⟨row1, hrow1⟩ : ∃ row1 : List Lf, row1 = [.b (decide (c.tmod 3 = 0)), .i .i64 (c + 1), .i .i64 (c + 2), .sl a1 m.log.length, .i .i64 m.said, .i .i64 m.acked, .i .i64 m.ackLife] := ⟨_, rfl⟩
    rw [← hrow1]
    obtain ⟨H2, hH2⟩ : ∃ H2, H2 = H'.set id (some ⟨106, .wr, b.rows.set i row1⟩) := ⟨_, rfl⟩
    have hkset : Keep [id] H' H2 := by rw [hH2]; exact Keep.set _ _
    have hb2 : blkAt H2 id = some ⟨106, .wr, b.rows.set i row1⟩ := by rw [hH2]; exact blkAt_set hid
    have hp2 := hp.keep okMinder hkset (fun j hj => by simp; rintro rfl; exact hdis j (by simp) hj)
    have ho2 : Own H2 106 (some (id, 0)) (rows.set i row1) [id] := by
      have := ho.set (row := row1) hb hr1
      rw [hm, hbe] at this
      rw [hH2]; exact this
    rw [← hH2]
    refine stpL_runs (markInS_is (q := .sl a1 m.log.length) ⟨a1, rfl, hpo.keep hkset (fun j hj => by simp; rintro rfl; exact hidf hj)⟩ (by omega) (by omega) hsz2) ?_
    rintro _ H3 ⟨rfl, ⟨a2, ha2, oP⟩, hk3⟩
    injection ha2 with ha2
    subst ha2
    obtain ⟨d, hdd⟩ : ∃ d, d = InS.mkN m.log (c + 3) := ⟨_, rfl⟩
    have hdb : c + 3 ≤ d ∧ d ≤ c + 3 + 8 * m.log.length := by rw [hdd]; unfold InS.mkN; omega
    rw [← hdd]
    have w2 : ∀ e : Int, 0 ≤ e → e ≤ 100 → IntKind.i64.wrap (d + e) = d + e := fun e h1 h2 => wrap64 (by omega) (by omega)
    have hb3 := hk3.blk hb2 hidf
    have hid3 := blkAt_len hb3
    rw [hrow1] at hb3
    simp [t0, t5, indexAddrV, elemIs, hid3, hb3, hc, hbi, blkAt_set, w2, Int.add_assoc, g4]
    obtain ⟨row2, hrow2⟩ : ∃ row2 : List Lf, row2 = [.b (decide (c.tmod 3 = 0)), .i .i64 (c + 1), .i .i64 (c + 2), .sl a1 m.log.length, .i .i64 d, .i .i64 (d + 1), .i .i64 (d + 2)] := ⟨_, rfl⟩
    rw [← hrow2]
    have ho3 := ho2.keep hk3 (fun j hj hj2 => by simp at hj; subst hj; exact hidf hj2)
    have hk4 : Keep [id] H3 (H3.set id (some ⟨106, .wr, b.rows.set i row2⟩)) := Keep.set _ _
    refine hn' (j - 1) _ _ (by omega) ⟨i + 1, rows.set i row2, by omega, by simp [t0], ?_, by simp, ?_, ?_, ?_⟩
    · have e0 : MinderS.mkN (xs.take (i + 1)) k = d + 3 := by
        rw [List.take_add_one, List.getElem?_eq_getElem hc]
        simp only [Option.toList_some]
        rw [MinderS.mkN_snoc, ← hcc, ← hmm, hdd]; rfl
      simp [e0]
    · have := ho3.set (row := row2) (hk3.blk hb2 hidf) (i := i) (by simp; omega)
      simpa using this
    · have hget : fps[i]?.getD [] = fps[i] := by rw [List.getElem?_eq_getElem hf1]; rfl
      have h4 := hp2.turn (i := i) (row := row2) (x := m.mkS c) (g := fps[i]) okMinder (by rw [hget]; exact hk3) hri ⟨a1, by rw [hrow2, hdd]; simp [Minder.enc, Minder.mkS, InS.mk_sz], by simpa [Minder.mkS] using oP⟩ (fun j hj => .inl (by rw [hget]; exact hj))
      have e1 : fps.set i fps[i] = fps := by simp
      have e2 : (MinderS.mk' (xs.take i) k ++ xs.drop i).set i (m.mkS c) = MinderS.mk' (xs.take (i + 1)) k ++ xs.drop (i + 1) := by
        rw [List.take_add_one, List.getElem?_eq_getElem hc, List.drop_eq_getElem_cons hc]
        simp only [Option.toList_some]
        rw [MinderS.mk_snoc, ← hcc, ← hmm, List.set_append_right _ _ (by simp [MinderS.mk_len]; omega)]
        have : i - (MinderS.mk' (xs.take i) k).length = 0 := by simp [MinderS.mk_len]; omega
        rw [this]
        simp only [List.set_cons_zero, List.append_assoc, List.cons_append, List.nil_append]
      rw [e1, e2] at h4
      exact h4.keep okMinder hk4 (fun j hj => by simp; rintro rfl; exact hdis j (by simp) hj)
    · have k5 := ((hkp.trans hkset (fun i hi _ => hi) (fun i hi _ => by simp at hi; subst hi; simp)).trans hk3 (fun i hi _ => hi) (fun i hi _ => List.mem_append.2 (.inr (flat_mem (List.getElem?_eq_getElem hf1) hi)))).trans hk4 (fun i hi _ => hi) (fun i hi _ => by simp at hi; subst hi; simp)
      exact k5
  · simp at hc
    obtain rfl : i = xs.length := by omega
    simp [t0, t1, t5]
    refine he' _ _ _ ?_
    simp [t1]
    refine hQ _ _ _ (by simp) ?_
    rw [List.take_length] at hp t1
    rw [List.drop_length, List.append_nil] at hp
    have hI : IsMinderS H' (.sl a xs.length) (MinderS.mk' xs k) (fp0 ++ fps.flatten) := ⟨a, rows, fp0, fps, by rw [MinderS.mk_len], ho, hp, rfl, hnd⟩
    simp [Tryz.f47]
    refine ⟨?_, leave_keep' hkp⟩
    rcases leave_or H H' [W.lf (Lf.i .i64 (MinderS.mkN xs k))] with e | ⟨e, G, rfl⟩ <;> rw [e]
    · exact hI
    · exact hI.unapp okMinder unMinder hlt0

theorem heldMinderS_is {H : Heap} {q : Lf} {xs : List Minder} {k : Int} (h : RdMinderS H q xs) (hk : 0 ≤ k) (hk2 : k ≤ 1152921504606846976) (hn : MinderS.sz xs ≤ 1048576) :
    run env 52 [.w (.lf q), .int k] H = some (.int (MinderS.hd xs k), H) := by
  obtain ⟨a, rws, rfl, hs, hlen, hat⟩ := h
  have hl0 := MinderS.sz_len xs
  refine run_walk ok52 Tryz.func52 rfl (by simp [Tryz.f52]) fun Q hQ => ?_
  simp only [Tryz.f52, strip, stripL, stripI, stripG, chkT, tagsB, tagsL, tagD, addT, tagA, lookN, tagOp, elmT, ty24, ty25, ty26, ty27, ty28, ty39, ty40, ty41, ty42, ty57, ty59, ty62, ty98, Nat.reduceEqDiff, if_false, reduceIte, Option.getD_some, Option.getD_none, dstAt, dstOk, Nat.reduceLT, decide_true, if_true]
  simp
  refine wpS_loop (fun j tm H' => ∃ i c, i + j = xs.length ∧ tm 0 = .w (.lf (.sl a xs.length)) ∧ tm 1 = .int c ∧ tm 5 = .int i ∧ H' = H ∧ 0 ≤ c ∧ c ≤ k + 11 * (i + MinderS.ps xs i : Nat) ∧ MinderS.hd xs k = MinderS.hd (xs.drop i) c) xs.length (by rw [env_K]; omega)
    ⟨0, k, by simp, by simp, by simp, by simp, rfl, hk, by simp [MinderS.ps_zero], by simp⟩ ?_
  rintro j tm H' hj ⟨i, c, hij, t0, t1, t5, rfl, hc0, hc1, heq⟩ Q' hn' he' hr'
  simp [t0, t1, t5, builtinV, pureB, lenV]
  refine selS_intro (fun hc => ?_) (fun hc => ?_)
  · simp at hc
    have hri : i < rws.length := by omega
    obtain ⟨id2, r, bl, rfl, hbl, hbe, hrow⟩ := hs i _ (List.getElem?_eq_getElem hri)
    obtain ⟨a1, hrw, hpo⟩ := hat i _ _ (List.getElem?_eq_getElem hri) (List.getElem?_eq_getElem hc)
    rw [hrw] at hrow
    have hsz := MinderS.sz_at (List.getElem_mem hc)
    have hsz2 : (xs[i]).log.length ≤ 1048576 := by have : (xs[i]).sz = (xs[i]).log.length := rfl; omega
    have hps := MinderS.ps_le xs i
    have hpss := MinderS.ps_succ xs hc
    have hszp : (xs[i]).sz = (xs[i]).log.length := rfl
    have hdrop : xs.drop i = xs[i] :: xs.drop (i + 1) := List.drop_eq_getElem_cons hc
    rw [hdrop, MinderS.hd] at heq
    obtain ⟨m, hmm⟩ : ∃ m, m = xs[i] := ⟨_, rfl⟩
    rw [← hmm] at heq hrow hszp hsz hsz2 hpss hpo
    have w : ∀ d : Int, 0 ≤ d → d ≤ 100 → IntKind.i64.wrap (c + d) = c + d := fun d h1 h2 => wrap64 (by omega) (by omega)
    have g4 : IntKind.i64.wrap ((i : Int) + 1) = (i : Int) + 1 := wrap64 (by omega) (by omega)
    have e1 := heldInS_is (H := H') (q := .sl a1 m.log.length) (k := c + 3) ⟨a1, rfl, hpo⟩ (by omega) (by omega) hsz2
    have fin : MinderS.hd xs k = -1 → ∀ tm'' : T, tm'' 4 = .int (-1) → Q' .ret tm'' H' := by
      intro hx tm'' ht
      refine hr' _ _ ?_
      simp
      refine hQ _ _ _ (by simp) ?_
      simp [Tryz.f52, ht, hx]
    have hval : InS.hd m.log (c + 3) ≤ c + 3 + 8 * m.log.length := by unfold InS.hd heldL; split <;> omega
    obtain ⟨d, hdd⟩ : ∃ d, d = InS.hd m.log (c + 3) := ⟨_, rfl⟩
    rw [← hdd] at e1 heq hval
    simp [t0, t1, t5, indexAddrV, elemIs, hbl, hbe, hc, hrow, Minder.enc]
    refine selS_intro (fun hd => ?_) (fun hd => ?_)
    · simp
      refine fin ?_ _ (by simp)
      rw [heq, if_pos (by simpa using hd)]
    rw [if_neg (by simpa using hd)] at heq
    simp [t0, t1, t5, indexAddrV, elemIs, hbl, hbe, hc, hrow, Minder.enc, w]
    by_cases hl : m.life = c + 1
    case neg =>
      rw [if_pos hl] at heq
      simp [hl]
      exact fin heq _ (by simp)
    rw [if_neg (by simpa using hl)] at heq
    simp [hl, t0, t1, t5, indexAddrV, elemIs, hbl, hbe, hc, hrow, Minder.enc, w, Int.add_assoc]
    by_cases he : m.epoch = c + 2
    case neg =>
      rw [if_pos he] at heq
      simp [he]
      exact fin heq _ (by simp)
    rw [if_neg (by simpa using he)] at heq
    simp [he, t0, t1, t5, indexAddrV, elemIs, hbl, hbe, hc, hrow, Minder.enc, w, Int.add_assoc, e1]
    by_cases hd0 : d < 0
    case pos =>
      rw [if_pos hd0] at heq
      simp [hd0]
      exact fin heq _ (by simp)
    rw [if_neg hd0] at heq
    have w2 : ∀ e : Int, 0 ≤ e → e ≤ 100 → IntKind.i64.wrap (d + e) = d + e := fun e h1 h2 => wrap64 (by omega) (by omega)
    simp [hd0, t0, t1, t5, indexAddrV, elemIs, hbl, hbe, hc, hrow, Minder.enc]
    by_cases hs1 : m.said = d
    case neg =>
      rw [if_pos hs1] at heq
      simp [hs1]
      exact fin heq _ (by simp)
    rw [if_neg (by simpa using hs1)] at heq
    simp [hs1, t0, t1, t5, indexAddrV, elemIs, hbl, hbe, hc, hrow, Minder.enc, w2]
    by_cases hs2 : m.acked = d + 1
    case neg =>
      rw [if_pos hs2] at heq
      simp [hs2]
      exact fin heq _ (by simp)
    rw [if_neg (by simpa using hs2)] at heq
    simp [hs2, t0, t1, t5, indexAddrV, elemIs, hbl, hbe, hc, hrow, Minder.enc, w2, Int.add_assoc]
    by_cases hs3 : m.ackLife = d + 2
    case neg =>
      rw [if_pos hs3] at heq
      simp [hs3]
      exact fin heq _ (by simp)
    rw [if_neg (by simpa using hs3)] at heq
    simp [hs3, t0, t1, t5, w2, Int.add_assoc, g4]
    exact hn' (j - 1) _ _ (by omega) ⟨i + 1, d + 3, by omega, by simp [t0], by simp, by simp, rfl, by omega, by rw [hpss]; omega, heq⟩
  · simp at hc
    obtain rfl : i = xs.length := by omega
    simp [t0, t1, t5]
    refine he' _ _ _ ?_
    simp [t1]
    refine hQ _ _ _ (by simp) ?_
    rw [List.drop_length] at heq
    simp [Tryz.f52, heq, MinderS.hd]

structure Box where
  id : Int
  ports : Int
  reg : Reg
  two : List Minder
  net : List Wire
  gates : List Bool
  line : List In
  said : List Out
  deriving DecidableEq, Inhabited
def Box.enc (x : Box) (q0 q1 q2 q3 q4 : Lf) : List Lf := [.i .i64 x.id, .i .i64 x.ports, .i .i64 x.reg.epoch, .i .i64 x.reg.owner, .i .i64 x.reg.pair, q0, q1, q2, q3, q4]
@[simp] theorem Box.enc_len (x : Box) (q0 q1 q2 q3 q4 : Lf) : (x.enc q0 q1 q2 q3 q4).length = 10 := rfl
@[simp] theorem Box.enc_take (x : Box) (q0 q1 q2 q3 q4 : Lf) : List.take 10 (x.enc q0 q1 q2 q3 q4) = x.enc q0 q1 q2 q3 q4 := rfl

def IsBox (H : Heap) (l : List Lf) (x : Box) (fp : List Nat) : Prop := ∃ q0 q1 q2 q3 q4 f0 f1 f2 f3 f4, l = x.enc q0 q1 q2 q3 q4 ∧ IsMinderS H q0 x.two f0 ∧ IsWireS H q1 x.net f1 ∧ IsBoolS H q2 x.gates f2 ∧ IsInS H q3 x.line f3 ∧ IsOutS H q4 x.said f4 ∧ fp = f0 ++ (f1 ++ (f2 ++ (f3 ++ (f4)))) ∧ fp.Nodup
def RdBox (H : Heap) (l : List Lf) (x : Box) : Prop := ∃ q0 q1 q2 q3 q4, l = x.enc q0 q1 q2 q3 q4 ∧ RdMinderS H q0 x.two ∧ RdWireS H q1 x.net ∧ RdBoolS H q2 x.gates ∧ RdInS H q3 x.line ∧ RdOutS H q4 x.said
def RdLBox (H : Heap) (l : List Lf) (x : Box) : Prop := ∃ q0 q1 q2 q3 q4, l = x.enc q0 q1 q2 q3 q4 ∧ RdLMinderS H q0 x.two ∧ RdLWireS H q1 x.net ∧ RdLBoolS H q2 x.gates ∧ RdLInS H q3 x.line ∧ RdLOutS H q4 x.said
def Box.sz (x : Box) : Nat := MinderS.sz x.two + x.net.length + x.gates.length + x.line.length + x.said.length
def Box.fit (x : Box) : Prop := MinderS.fit x.two ∧ x.net.length ≤ maxLen ∧ x.gates.length ≤ maxLen ∧ x.line.length ≤ maxLen ∧ x.said.length ≤ maxLen
section
variable {H H' : Heap} {l : List Lf} {x : Box} {fp : List Nat}
theorem IsBox.keep {f : List Nat} (h : IsBox H l x fp) (hk : Keep f H H') (hd : ∀ i ∈ fp, i ∉ f) : IsBox H' l x fp := by
  obtain ⟨q0, q1, q2, q3, q4, f0, f1, f2, f3, f4, rfl, h0, h1, h2, h3, h4, rfl, hnd⟩ := h
  exact ⟨q0, q1, q2, q3, q4, f0, f1, f2, f3, f4, rfl, h0.keep okMinder hk (fun i hi => hd i (by simp [hi])), h1.keep hk (fun i hi => hd i (by simp [hi])), h2.keep hk (fun i hi => hd i (by simp [hi])), h3.keep hk (fun i hi => hd i (by simp [hi])), h4.keep hk (fun i hi => hd i (by simp [hi])), rfl, hnd⟩
theorem IsBox.app (h : IsBox H l x fp) (G : Heap) : IsBox (H ++ G) l x fp := h.keep (Keep.app [] H G) (by simp)
theorem IsBox.lt (h : IsBox H l x fp) : ∀ i ∈ fp, i < H.length := by
  obtain ⟨q0, q1, q2, q3, q4, f0, f1, f2, f3, f4, rfl, h0, h1, h2, h3, h4, rfl, hnd⟩ := h
  intro i hi
  simp at hi
  rcases hi with hi | hi | hi | hi | hi
  · exact h0.lt okMinder i hi
  · exact h1.lt i hi
  · exact h2.lt i hi
  · exact h3.lt i hi
  · exact h4.lt i hi
theorem IsBox.nodup (h : IsBox H l x fp) : fp.Nodup := by
  obtain ⟨q0, q1, q2, q3, q4, f0, f1, f2, f3, f4, rfl, h0, h1, h2, h3, h4, rfl, hnd⟩ := h
  exact hnd
theorem IsBox.rd (h : IsBox H l x fp) : RdBox H l x := by
  obtain ⟨q0, q1, q2, q3, q4, f0, f1, f2, f3, f4, rfl, h0, h1, h2, h3, h4, rfl, hnd⟩ := h
  exact ⟨q0, q1, q2, q3, q4, rfl, IsMinderS_rd h0, h1.rd, h2.rd, h3.rd, h4.rd⟩
theorem RdBox.base (h : RdBox H l x) (hk : Keep [] H H') : RdBox H' l x := by
  obtain ⟨q0, q1, q2, q3, q4, rfl, h0, h1, h2, h3, h4⟩ := h
  exact ⟨q0, q1, q2, q3, q4, rfl, RdMinderS_base h0 hk, h1.base hk, h2.base hk, h3.base hk, h4.base hk⟩
theorem RdBox.app (h : RdBox H l x) (G : Heap) : RdBox (H ++ G) l x := h.base (Keep.app _ _ _)
theorem RdBox.len (h : RdBox H l x) : l.length = 10 := by
  obtain ⟨q0, q1, q2, q3, q4, rfl, h0, h1, h2, h3, h4⟩ := h
  rfl
theorem RdLBox.base (h : RdLBox H l x) (hk : Keep [] H H') : RdLBox H' l x := by
  obtain ⟨q0, q1, q2, q3, q4, rfl, h0, h1, h2, h3, h4⟩ := h
  exact ⟨q0, q1, q2, q3, q4, rfl, RdLMinderS_base h0 hk, h1.base hk, h2.base hk, h3.base hk, h4.base hk⟩
theorem RdLBox.app (h : RdLBox H l x) (G : Heap) : RdLBox (H ++ G) l x := h.base (Keep.app _ _ _)
theorem RdLBox.len (h : RdLBox H l x) : l.length = 10 := by
  obtain ⟨q0, q1, q2, q3, q4, rfl, h0, h1, h2, h3, h4⟩ := h
  rfl
theorem IsBox.len (h : IsBox H l x fp) : l.length = 10 := by
  obtain ⟨q0, q1, q2, q3, q4, f0, f1, f2, f3, f4, rfl, h0, h1, h2, h3, h4, rfl, hnd⟩ := h
  rfl
theorem IsBox.free (h : IsBox H' l x fp) (hr : l.all refFree = true) (H2 : Heap) : IsBox H2 l x [] := by
  obtain ⟨q0, q1, q2, q3, q4, f0, f1, f2, f3, f4, rfl, h0, h1, h2, h3, h4, rfl, hnd⟩ := h
  simp [Box.enc] at hr
  have a0 : IsMinderS H2 q0 x.two [] := by
    obtain ⟨e1, e2⟩ := h0.empty hr.1
    rw [e1, e2]
    exact IsL.emp _ _ _
  have a1 : IsWireS H2 q1 x.net [] := h1.free hr.2.1 H2
  have a2 : IsBoolS H2 q2 x.gates [] := h2.free hr.2.2.1 H2
  have a3 : IsInS H2 q3 x.line [] := h3.free hr.2.2.2.1 H2
  have a4 : IsOutS H2 q4 x.said [] := h4.free hr.2.2.2.2 H2
  exact ⟨q0, q1, q2, q3, q4, [], [], [], [], [], rfl, a0, a1, a2, a3, a4, by simp, by simp⟩
theorem IsBox.leave {ws : List W} (h : IsBox H' l x fp) (hf : Fresh H H' fp) (hw : ws.all W.free = true → l.all refFree = true) : ∃ fp', IsBox (leave H H' ws) l x fp' ∧ Fresh H (leave H H' ws) fp' := by
  rcases leave_opt H H' ws with e | ⟨e, hr⟩ <;> rw [e]
  · exact ⟨fp, h, hf⟩
  · exact ⟨[], h.free (hw hr) H, Fresh.refl H⟩
end

theorem szBox_at {H : Heap} {l : List Lf} {x : Box} (h : RdLBox H l x) (hf : x.fit) {left : Int} (h1 : 0 ≤ left) (h2 : left ≤ 1048576) :
    run env 5 [.agg l, .int left] H = some (.int (if left < x.sz then -1 else left - x.sz), H) := by
  obtain ⟨q0, q1, q2, q3, q4, rfl, r0, r1, r2, r3, r4⟩ := h
  obtain ⟨t0, t1, t2, t3, t4⟩ := hf
  refine run_walk ok5 Tryz.func5 rfl (by simp [Tryz.f5]) fun Q hQ => ?_
  simp only [Tryz.f5, strip, stripL, stripI, stripG, chkT, tagsB, tagsL, tagD, addT, tagA, lookN, tagOp, elmT, ty24, ty25, ty26, ty27, ty28, ty39, ty40, ty41, ty42, ty57, ty59, ty62, ty98, Nat.reduceEqDiff, if_false, reduceIte, Option.getD_some, Option.getD_none, dstAt, dstOk, Nat.reduceLT, decide_true, if_true]
  simp [Box.enc]
  have e0 := fun G' => szMinderS_is (RdLMinderS_base r0 (Keep.app [] _ G')) t0 (left := left) (by omega) (by omega)
  simp [e0]
  by_cases b0 : left < ((MinderS.sz x.two : Nat) : Int)
  · simp [b0]
    refine hQ _ _ _ (by simp) ?_
    simp [Tryz.f5, Box.sz]
    omega
  have z0 : ¬ ((left - ((MinderS.sz x.two : Nat) : Int)) < 0) := by omega
  simp [b0, z0, Box.enc]
  obtain ⟨a1, rfl, s1⟩ := r1
  have e1 := fun H => szWireS H a1 x.net.length ((left - ((MinderS.sz x.two : Nat) : Int))) (by omega) (by omega) t1
  simp [e1]
  by_cases b1 : (left - ((MinderS.sz x.two : Nat) : Int)) < ((x.net.length : Nat) : Int)
  · simp [b1]
    refine hQ _ _ _ (by simp) ?_
    simp [Tryz.f5, Box.sz]
    omega
  have z1 : ¬ (((left - ((MinderS.sz x.two : Nat) : Int)) - ((x.net.length : Nat) : Int)) < 0) := by omega
  simp [b1, z1, Box.enc]
  obtain ⟨a2, rfl, s2⟩ := r2
  have e2 := fun H => szBoolS H a2 x.gates.length (((left - ((MinderS.sz x.two : Nat) : Int)) - ((x.net.length : Nat) : Int))) (by omega) (by omega) t2
  simp [e2]
  by_cases b2 : ((left - ((MinderS.sz x.two : Nat) : Int)) - ((x.net.length : Nat) : Int)) < ((x.gates.length : Nat) : Int)
  · simp [b2]
    refine hQ _ _ _ (by simp) ?_
    simp [Tryz.f5, Box.sz]
    omega
  have z2 : ¬ ((((left - ((MinderS.sz x.two : Nat) : Int)) - ((x.net.length : Nat) : Int)) - ((x.gates.length : Nat) : Int)) < 0) := by omega
  simp [b2, z2, Box.enc]
  obtain ⟨a3, rfl, s3⟩ := r3
  have e3 := fun H => szInS H a3 x.line.length ((((left - ((MinderS.sz x.two : Nat) : Int)) - ((x.net.length : Nat) : Int)) - ((x.gates.length : Nat) : Int))) (by omega) (by omega) t3
  simp [e3]
  by_cases b3 : (((left - ((MinderS.sz x.two : Nat) : Int)) - ((x.net.length : Nat) : Int)) - ((x.gates.length : Nat) : Int)) < ((x.line.length : Nat) : Int)
  · simp [b3]
    refine hQ _ _ _ (by simp) ?_
    simp [Tryz.f5, Box.sz]
    omega
  have z3 : ¬ (((((left - ((MinderS.sz x.two : Nat) : Int)) - ((x.net.length : Nat) : Int)) - ((x.gates.length : Nat) : Int)) - ((x.line.length : Nat) : Int)) < 0) := by omega
  simp [b3, z3, Box.enc]
  obtain ⟨a4, rfl, s4⟩ := r4
  have e4 := fun H => szOutS H a4 x.said.length (((((left - ((MinderS.sz x.two : Nat) : Int)) - ((x.net.length : Nat) : Int)) - ((x.gates.length : Nat) : Int)) - ((x.line.length : Nat) : Int))) (by omega) (by omega) t4
  simp [e4]
  by_cases b4 : ((((left - ((MinderS.sz x.two : Nat) : Int)) - ((x.net.length : Nat) : Int)) - ((x.gates.length : Nat) : Int)) - ((x.line.length : Nat) : Int)) < ((x.said.length : Nat) : Int)
  · simp [b4]
    refine hQ _ _ _ (by simp) ?_
    simp [Tryz.f5, Box.sz]
    omega
  have z4 : ¬ ((((((left - ((MinderS.sz x.two : Nat) : Int)) - ((x.net.length : Nat) : Int)) - ((x.gates.length : Nat) : Int)) - ((x.line.length : Nat) : Int)) - ((x.said.length : Nat) : Int)) < 0) := by omega
  simp [b4, z4, Box.enc]
  have hfin : ¬ (left < (x.sz : Int)) := by unfold Box.sz; omega
  refine hQ _ _ _ (by simp) ?_
  simp [Tryz.f5, hfin]
  unfold Box.sz
  omega
theorem szBox_is {H : Heap} {l : List Lf} {x : Box} (h : RdLBox H l x) (hf : x.fit) {left : Int} (h1 : 0 ≤ left) (h2 : left ≤ 1048576) (G : Heap) :
    run env 5 [.agg l, .int left] (H ++ G) = some (.int (if left < x.sz then -1 else left - x.sz), H ++ G) := szBox_at (h.app G) hf h1 h2

theorem toBox_is {H : Heap} {l : List Lf} {x : Box} (h : RdLBox H l x) (hn : x.sz ≤ 1048576) : Runs env 7 [.agg l] H fun v H' => ∃ l' fp, v = .agg l' ∧ IsBox H' l' x fp ∧ Fresh H H' fp := by
  obtain ⟨q0, q1, q2, q3, q4, rfl, r0, r1, r2, r3, r4⟩ := h
  unfold Box.sz at hn
  refine Runs.walk ok7 Tryz.func7 rfl (by simp [Tryz.f7]) fun Q hQ => ?_
  simp only [Tryz.f7, strip, stripL, stripI, stripG, chkT, tagsB, tagsL, tagD, addT, tagA, lookN, tagOp, elmT, ty24, ty25, ty26, ty27, ty28, ty39, ty40, ty41, ty42, ty57, ty59, ty62, ty98, Nat.reduceEqDiff, if_false, reduceIte, Option.getD_some, Option.getD_none, dstAt, dstOk, Nat.reduceLT, decide_true, if_true]
  have er := fun H => toReg H x.reg
  simp only [Reg.enc] at er
  simp [Box.enc, er]
  refine stpL_runs (toMinderS_is (RdLMinderS_base r0 (Keep.app [] H _)) (by omega)) ?_
  rintro _ _ ⟨p0, g0, rfl, o0, ⟨⟨G0, rfl⟩, hf0⟩⟩
  simp only [List.append_assoc, List.cons_append, List.nil_append] at o0
  have b0 : ∀ i ∈ g0, H.length + (3) ≤ i := fun i hi => by have := hf0 i hi; simp at this; omega
  have c0 : ∀ i ∈ g0, i < H.length + (3 + G0.length) := fun i hi => by have := o0.lt okMinder i hi; simp at this; omega
  try simp
  refine stpL_runs (toWireS_is (r1.base (Keep.app [] H _)) (by omega)) ?_
  rintro _ _ ⟨p1, g1, rfl, o1, ⟨⟨G1, rfl⟩, hf1⟩⟩
  simp only [List.append_assoc, List.cons_append, List.nil_append] at o1
  have b1 : ∀ i ∈ g1, H.length + (3 + G0.length) ≤ i := fun i hi => by have := hf1 i hi; simp at this; omega
  have c1 : ∀ i ∈ g1, i < H.length + (3 + G0.length + G1.length) := fun i hi => by have := o1.lt i hi; simp at this; omega
  try simp
  refine stpL_runs (toBoolS_is (r2.base (Keep.app [] H _)) (by omega)) ?_
  rintro _ _ ⟨p2, g2, rfl, o2, ⟨⟨G2, rfl⟩, hf2⟩⟩
  simp only [List.append_assoc, List.cons_append, List.nil_append] at o2
  have b2 : ∀ i ∈ g2, H.length + (3 + G0.length + G1.length) ≤ i := fun i hi => by have := hf2 i hi; simp at this; omega
  have c2 : ∀ i ∈ g2, i < H.length + (3 + G0.length + G1.length + G2.length) := fun i hi => by have := o2.lt i hi; simp at this; omega
  try simp
  refine stpL_runs (toInS_is (r3.base (Keep.app [] H _)) (by omega)) ?_
  rintro _ _ ⟨p3, g3, rfl, o3, ⟨⟨G3, rfl⟩, hf3⟩⟩
  simp only [List.append_assoc, List.cons_append, List.nil_append] at o3
  have b3 : ∀ i ∈ g3, H.length + (3 + G0.length + G1.length + G2.length) ≤ i := fun i hi => by have := hf3 i hi; simp at this; omega
  have c3 : ∀ i ∈ g3, i < H.length + (3 + G0.length + G1.length + G2.length + G3.length) := fun i hi => by have := o3.lt i hi; simp at this; omega
  try simp
  refine stpL_runs (toOutS_is (r4.base (Keep.app [] H _)) (by omega)) ?_
  rintro _ _ ⟨p4, g4, rfl, o4, ⟨⟨G4, rfl⟩, hf4⟩⟩
  simp only [List.append_assoc, List.cons_append, List.nil_append] at o4
  have b4 : ∀ i ∈ g4, H.length + (3 + G0.length + G1.length + G2.length + G3.length) ≤ i := fun i hi => by have := hf4 i hi; simp at this; omega
  have c4 : ∀ i ∈ g4, i < H.length + (3 + G0.length + G1.length + G2.length + G3.length + G4.length) := fun i hi => by have := o4.lt i hi; simp at this; omega
  try simp
  refine hQ _ _ _ (by simp) ?_
  simp [Tryz.f7]
  have u0 := fun B1 B2 B3 G' (hp : G0 <+: G') => o0.keep okMinder (Keep.cutP (H := H) (L := [_, _, _]) (L' := [B1, B2, B3]) (G' := G') rfl hp) (fun i hi => by have := b0 i hi; simp; omega)
  have u1 := fun B1 B2 B3 G' (hp : G0 ++ (G1) <+: G') => o1.keep (Keep.cutP (H := H) (L := [_, _, _]) (L' := [B1, B2, B3]) (G' := G') rfl hp) (fun i hi => by have := b1 i hi; simp; omega)
  have u2 := fun B1 B2 B3 G' (hp : G0 ++ (G1 ++ (G2)) <+: G') => o2.keep (Keep.cutP (H := H) (L := [_, _, _]) (L' := [B1, B2, B3]) (G' := G') rfl hp) (fun i hi => by have := b2 i hi; simp; omega)
  have u3 := fun B1 B2 B3 G' (hp : G0 ++ (G1 ++ (G2 ++ (G3))) <+: G') => o3.keep (Keep.cutP (H := H) (L := [_, _, _]) (L' := [B1, B2, B3]) (G' := G') rfl hp) (fun i hi => by have := b3 i hi; simp; omega)
  have u4 := fun B1 B2 B3 G' (hp : G0 ++ (G1 ++ (G2 ++ (G3 ++ (G4)))) <+: G') => o4.keep (Keep.cutP (H := H) (L := [_, _, _]) (L' := [B1, B2, B3]) (G' := G') rfl hp) (fun i hi => by have := b4 i hi; simp; omega)
  have hnd : (g0 ++ (g1 ++ (g2 ++ (g3 ++ (g4)))) : List Nat).Nodup := by
    have n0 : g4.Nodup := o4.nodup
    have m3 : (g3 ++ g4).Nodup := nodup_app o3.nodup n0 (fun i hi hj => by
      have := c3 i hi
      try simp at hj
      rcases hj with hj
      · have := b4 i hj; omega)
    have m2 : (g2 ++ (g3 ++ g4)).Nodup := nodup_app o2.nodup m3 (fun i hi hj => by
      have := c2 i hi
      try simp at hj
      rcases hj with hj | hj
      · have := b3 i hj; omega
      · have := b4 i hj; omega)
    have m1 : (g1 ++ (g2 ++ (g3 ++ g4))).Nodup := nodup_app o1.nodup m2 (fun i hi hj => by
      have := c1 i hi
      try simp at hj
      rcases hj with hj | hj | hj
      · have := b2 i hj; omega
      · have := b3 i hj; omega
      · have := b4 i hj; omega)
    have m0 : (g0 ++ (g1 ++ (g2 ++ (g3 ++ g4)))).Nodup := nodup_app o0.nodup m1 (fun i hi hj => by
      have := c0 i hi
      try simp at hj
      rcases hj with hj | hj | hj | hj
      · have := b1 i hj; omega
      · have := b2 i hj; omega
      · have := b3 i hj; omega
      · have := b4 i hj; omega)
    exact m0
  refine IsBox.leave (fp := g0 ++ (g1 ++ (g2 ++ (g3 ++ g4)))) ⟨p0, p1, p2, p3, p4, g0, g1, g2, g3, g4, by simp [Box.enc], u0 _ _ _ _ (by simp), u1 _ _ _ _ (by simp), u2 _ _ _ _ (by simp), u3 _ _ _ _ (by simp), u4 _ _ _ _ (by simp), rfl, hnd⟩ (Fresh.app H _ fun i hi => ?_) (by simp [Box.enc])
  simp at hi
  rcases hi with hi | hi | hi | hi | hi
  · have := b0 i hi; omega
  · have := b1 i hi; omega
  · have := b2 i hi; omega
  · have := b3 i hi; omega
  · have := b4 i hi; omega

theorem eqBox_is {H : Heap} {l r : List Lf} {x y : Box} (h : RdBox H l x) (h2 : RdBox H r y) (hn : x.sz ≤ 1048576) : run env 10 [.agg l, .agg r] H = some (.bool (decide (x = y)), H) := by
  obtain ⟨q0, q1, q2, q3, q4, rfl, r0, r1, r2, r3, r4⟩ := h
  obtain ⟨p0, p1, p2, p3, p4, rfl, s0, s1, s2, s3, s4⟩ := h2
  unfold Box.sz at hn
  have e0 := fun G => eqMinderS_is (RdMinderS_base r0 (Keep.app [] _ G)) (RdMinderS_base s0 (Keep.app [] _ G)) (by omega)
  have e1 := fun G => eqWireS_is (r1.app G) (s1.app G) (by omega)
  have e2 := fun G => eqBoolS_is (r2.app G) (s2.app G) (by omega)
  have e3 := fun G => eqInS_is (r3.app G) (s3.app G) (by omega)
  have e4 := fun G => eqOutS_is (r4.app G) (s4.app G) (by omega)
  have er := fun H => eqReg H x.reg y.reg
  obtain ⟨x0, x1, x2, x3, x4, x5, x6, x7⟩ := x
  obtain ⟨y0, y1, y2, y3, y4, y5, y6, y7⟩ := y
  simp only at e0 e1 e2 e3 e4 er
  simp only [Reg.enc] at er
  refine run_walk ok10 Tryz.func10 rfl (by simp [Tryz.f10]) fun Q hQ => ?_
  simp only [Tryz.f10, strip, stripL, stripI, stripG, chkT, tagsB, tagsL, tagD, addT, tagA, lookN, tagOp, elmT, ty24, ty25, ty26, ty27, ty28, ty39, ty40, ty41, ty42, ty57, ty59, ty62, ty98, Nat.reduceEqDiff, if_false, reduceIte, Option.getD_some, Option.getD_none, dstAt, dstOk, Nat.reduceLT, decide_true, if_true]
  simp [Box.enc, e0, e1, e2, e3, e4, er]
  repeat' (first | (refine gdL_t (fun h => ?_) (fun h => ?_) <;> simp [h, e0, e1, e2, e3, e4, er]) | (refine gdL_f (fun h => ?_) (fun h => ?_) <;> simp [h, e0, e1, e2, e3, e4, er]) | (refine selS_intro (fun h => ?_) (fun h => ?_) <;> simp [h, e0, e1, e2, e3, e4, er]))
  all_goals (refine hQ _ _ _ (by simp) ?_)
  all_goals (clear hQ; simp_all [Tryz.f10])

theorem shpBox_is {H : Heap} {l : List Lf} (h : Shp Tryz.prog H 8 30 l) : ∃ x : Box, RdLBox H l x ∧ x.fit := by
  obtain ⟨_, _, rfl, h0, _, _, rfl, h1, _, _, rfl, h2, _, _, rfl, h3, _, _, rfl, h4, _, _, rfl, h5, _, _, rfl, h6, _, _, rfl, h7, rfl⟩ := h.struct Tryz.underlying30
  obtain ⟨x0, rfl, -⟩ := h0.i64 Tryz.underlying3
  obtain ⟨x1, rfl, -⟩ := h1.i64 Tryz.underlying3
  obtain ⟨x2, rfl⟩ := shpReg h2
  obtain ⟨q0, x3, rfl, r0, t0⟩ := shpMinderS_is h3
  obtain ⟨q1, x4, rfl, r1, t1⟩ := shpWireS_is h4
  obtain ⟨q2, x5, rfl, r2, t2⟩ := shpBoolS_is h5
  obtain ⟨q3, x6, rfl, r3, t3⟩ := shpInS_is h6
  obtain ⟨q4, x7, rfl, r4, t4⟩ := shpOutS_is h7
  exact ⟨⟨x0, x1, x2, x3, x4, x5, x6, x7⟩, ⟨q0, q1, q2, q3, q4, rfl, r0, r1, r2, r3, r4⟩, t0, t1, t2, t3, t4⟩

def Box.mk1 (x : Box) (k : Int) : Int := MinderS.mkN x.two k
def Box.mk2 (x : Box) (k : Int) : Int := WireS.mkN x.net (x.mk1 k)
def Box.mk3 (x : Box) (k : Int) : Int := BoolS.mkN x.gates (x.mk2 k)
def Box.mk4 (x : Box) (k : Int) : Int := InS.mkN x.line (x.mk3 k)
def Box.mkN (x : Box) (k : Int) : Int := OutS.mkN x.said (x.mk4 k)
def Box.mk' (x : Box) (k : Int) : Box := ⟨x.id, x.ports, x.reg, MinderS.mk' x.two k, WireS.mk' x.net (x.mk1 k), BoolS.mk' x.gates (x.mk2 k), InS.mk' x.line (x.mk3 k), OutS.mk' x.said (x.mk4 k)⟩
def Box.hd (x : Box) (k : Int) : Int := if MinderS.hd x.two k < 0 then -1 else if WireS.hd x.net (MinderS.hd x.two k) < 0 then -1 else if BoolS.hd x.gates (WireS.hd x.net (MinderS.hd x.two k)) < 0 then -1 else
  if InS.hd x.line (BoolS.hd x.gates (WireS.hd x.net (MinderS.hd x.two k))) < 0 then -1 else if OutS.hd x.said (InS.hd x.line (BoolS.hd x.gates (WireS.hd x.net (MinderS.hd x.two k)))) < 0 then -1 else OutS.hd x.said (InS.hd x.line (BoolS.hd x.gates (WireS.hd x.net (MinderS.hd x.two k))))
theorem Box.mk_bd (x : Box) (k : Int) : k ≤ x.mk1 k ∧ x.mk1 k ≤ k + 11 * MinderS.sz x.two ∧ x.mk1 k ≤ x.mk2 k ∧ x.mk2 k ≤ x.mk1 k + 12 * x.net.length ∧ x.mk2 k ≤ x.mk3 k ∧ x.mk3 k ≤ x.mk2 k + x.gates.length ∧ x.mk3 k ≤ x.mk4 k ∧ x.mk4 k ≤ x.mk3 k + 8 * x.line.length ∧ x.mk4 k ≤ x.mkN k ∧ x.mkN k ≤ x.mk4 k + 8 * x.said.length := by
  have h1 := MinderS.mkN_bd x.two k
  unfold Box.mkN Box.mk4 Box.mk3 Box.mk2 Box.mk1 OutS.mkN InS.mkN BoolS.mkN WireS.mkN
  omega
theorem Box.hd_mk (x : Box) (k : Int) (h : 0 ≤ k) : (x.mk' k).hd k = x.mkN k := by
  have h1 := x.mk_bd k
  have e1 : MinderS.hd (x.mk' k).two k = x.mk1 k := MinderS.hd_mk _ _ h
  have e2 : WireS.hd (x.mk' k).net (x.mk1 k) = x.mk2 k := WireS.hd_mk _ _
  have e3 : BoolS.hd (x.mk' k).gates (x.mk2 k) = x.mk3 k := BoolS.hd_mk _ _
  have e4 : InS.hd (x.mk' k).line (x.mk3 k) = x.mk4 k := InS.hd_mk _ _
  have e5 : OutS.hd (x.mk' k).said (x.mk4 k) = x.mkN k := OutS.hd_mk _ _
  unfold Box.hd
  rw [e1, e2, e3, e4, e5, if_neg (by omega), if_neg (by omega), if_neg (by omega), if_neg (by omega), if_neg (by omega)]
theorem Box.mk_sz (x : Box) (k : Int) : (x.mk' k).sz = x.sz := by
  unfold Box.sz Box.mk'
  simp only
  rw [MinderS.mk_sz, WireS.mk_sz, BoolS.mk_sz, InS.mk_sz, OutS.mk_sz]
theorem Box.mkN_le {x : Box} {k : Int} (h : x.sz ≤ 1048576) : k ≤ x.mkN k ∧ x.mkN k ≤ k + 1000000000 := by
  have h1 := x.mk_bd k
  unfold Box.sz at h
  omega

theorem unapp_is {α : Type} {e : Nat} {enc : α → List Lf} {H G : Heap} {q : Lf} {xs : List α} {fp : List Nat} (h : IsSl e enc (H ++ G) q xs fp) (hf : ∀ i ∈ fp, i < H.length) : IsSl e enc H q xs fp := by
  obtain ⟨a, rfl, ho⟩ := h
  exact ⟨a, rfl, ho.unapp hf⟩
theorem markBox_is {H : Heap} {l : List Lf} {x : Box} {fp : List Nat} {k : Int} (h : IsBox H l x fp) (hk : 0 ≤ k) (hk2 : k ≤ 1152921504606846976) (hn : x.sz ≤ 1048576) :
    Runs env 11 [.agg l, .int k] H fun v H' => v = .int (x.mkN k) ∧ IsBox H' l (x.mk' k) fp ∧ Keep fp H H' := by
  obtain ⟨q0, q1, q2, q3, q4, f0, f1, f2, f3, f4, rfl, h0, h1, h2, h3, h4, rfl, hnd⟩ := h
  have hlt0 := h0.lt okMinder
  have hlt1 := h1.lt
  have hlt2 := h2.lt
  have hlt3 := h3.lt
  have hlt4 := h4.lt
  have n0 := List.nodup_append.1 hnd
  have n1 := List.nodup_append.1 n0.2.1
  have n2 := List.nodup_append.1 n1.2.1
  have n3 := List.nodup_append.1 n2.2.1
  have x01 : ∀ i ∈ f0, i ∉ f1 := fun i hi hj => n0.2.2 i hi i (by simp [hj]) rfl
  have x02 : ∀ i ∈ f0, i ∉ f2 := fun i hi hj => n0.2.2 i hi i (by simp [hj]) rfl
  have x03 : ∀ i ∈ f0, i ∉ f3 := fun i hi hj => n0.2.2 i hi i (by simp [hj]) rfl
  have x04 : ∀ i ∈ f0, i ∉ f4 := fun i hi hj => n0.2.2 i hi i (by simp [hj]) rfl
  have x12 : ∀ i ∈ f1, i ∉ f2 := fun i hi hj => n1.2.2 i hi i (by simp [hj]) rfl
  have x13 : ∀ i ∈ f1, i ∉ f3 := fun i hi hj => n1.2.2 i hi i (by simp [hj]) rfl
  have x14 : ∀ i ∈ f1, i ∉ f4 := fun i hi hj => n1.2.2 i hi i (by simp [hj]) rfl
  have x23 : ∀ i ∈ f2, i ∉ f3 := fun i hi hj => n2.2.2 i hi i (by simp [hj]) rfl
  have x24 : ∀ i ∈ f2, i ∉ f4 := fun i hi hj => n2.2.2 i hi i (by simp [hj]) rfl
  have x34 : ∀ i ∈ f3, i ∉ f4 := fun i hi hj => n3.2.2 i hi i hj rfl
  have hbd := x.mk_bd k
  unfold Box.sz at hn
  refine Runs.walk ok11 Tryz.func11 rfl (by simp [Tryz.f11]) fun Q hQ => ?_
  simp only [Tryz.f11, strip, stripL, stripI, stripG, chkT, tagsB, tagsL, tagD, addT, tagA, lookN, tagOp, elmT, ty24, ty25, ty26, ty27, ty28, ty39, ty40, ty41, ty42, ty57, ty59, ty62, ty98, Nat.reduceEqDiff, if_false, reduceIte, Option.getD_some, Option.getD_none, dstAt, dstOk, Nat.reduceLT, decide_true, if_true]
  simp [Box.enc]
  obtain ⟨B, hB⟩ : ∃ B : Option Blk, B = some ⟨44, .wr, [[.i .i64 x.id, .i .i64 x.ports, .i .i64 x.reg.epoch, .i .i64 x.reg.owner, .i .i64 x.reg.pair, q0, q1, q2, q3, q4]]⟩ := ⟨_, rfl⟩
  obtain ⟨H0, hH0⟩ : ∃ H0 : Heap, H0 = H ++ [B] := ⟨_, rfl⟩
  have b0 : blkAt H0 H.length = B := by rw [hH0, hB]; simp
  have k0 : Keep [] H H0 := by rw [hH0]; exact Keep.app _ _ _
  have g0 := h0.keep okMinder k0 (by simp)
  have g1 := h1.keep k0 (by simp)
  have g2 := h2.keep k0 (by simp)
  have g3 := h3.keep k0 (by simp)
  have g4 := h4.keep k0 (by simp)
  rw [← hB, ← hH0]
  rw [hB] at b0
  clear hH0 hB
  refine stpL_runs (markMinderS_is g0 hk hk2 (by omega)) ?_
  rintro _ H1 ⟨rfl, o0, k1⟩
  have b1 := k1.blk b0 (fun hi => by have := hlt0 _ hi; omega)
  have d1 := blkAt_len b1
  simp [b1, d1]
  refine stpL_runs (markWireS_is (g1.keep k1 (fun i hi hj => x01 i hj hi)) (by unfold Box.mk1 at hbd; omega) (by unfold Box.mk1 at hbd; omega) (by omega)) ?_
  rintro _ H2 ⟨rfl, o1, k2⟩
  have b2 := k2.blk b1 (fun hi => by have := hlt1 _ hi; omega)
  have d2 := blkAt_len b2
  simp [b2, d2]
  refine stpL_runs (markBoolS_is ((g2.keep k1 (fun i hi hj => x02 i hj hi)).keep k2 (fun i hi hj => x12 i hj hi)) (by unfold Box.mk2 Box.mk1 at hbd; omega) (by unfold Box.mk2 Box.mk1 at hbd; omega) (by omega)) ?_
  rintro _ H3 ⟨rfl, o2, k3⟩
  have b3 := k3.blk b2 (fun hi => by have := hlt2 _ hi; omega)
  have d3 := blkAt_len b3
  simp [b3, d3]
  refine stpL_runs (markInS_is (((g3.keep k1 (fun i hi hj => x03 i hj hi)).keep k2 (fun i hi hj => x13 i hj hi)).keep k3 (fun i hi hj => x23 i hj hi)) (by unfold Box.mk3 Box.mk2 Box.mk1 at hbd; omega) (by unfold Box.mk3 Box.mk2 Box.mk1 at hbd; omega) (by omega)) ?_
  rintro _ H4 ⟨rfl, o3, k4⟩
  have b4 := k4.blk b3 (fun hi => by have := hlt3 _ hi; omega)
  have d4 := blkAt_len b4
  simp [b4, d4]
  refine stpL_runs (markOutS_is ((((g4.keep k1 (fun i hi hj => x04 i hj hi)).keep k2 (fun i hi hj => x14 i hj hi)).keep k3 (fun i hi hj => x24 i hj hi)).keep k4 (fun i hi hj => x34 i hj hi)) (by unfold Box.mk4 Box.mk3 Box.mk2 Box.mk1 at hbd; omega) (by unfold Box.mk4 Box.mk3 Box.mk2 Box.mk1 at hbd; omega) (by omega)) ?_
  rintro _ H5 ⟨rfl, o4, k5⟩
  simp
  refine hQ _ _ _ (by simp) ?_
  have p0 := (((o0.keep okMinder k2 x01).keep okMinder k3 x02).keep okMinder k4 x03).keep okMinder k5 x04
  have p1 := ((o1.keep k3 x12).keep k4 x13).keep k5 x14
  have p2 := (o2.keep k4 x23).keep k5 x24
  have p3 := o3.keep k5 x34
  have hI : IsBox H5 [.i .i64 x.id, .i .i64 x.ports, .i .i64 x.reg.epoch, .i .i64 x.reg.owner, .i .i64 x.reg.pair, q0, q1, q2, q3, q4] (x.mk' k) (f0 ++ (f1 ++ (f2 ++ (f3 ++ f4)))) := ⟨q0, q1, q2, q3, q4, f0, f1, f2, f3, f4, rfl, p0, p1, p2, p3, o4, rfl, hnd⟩
  have hK : Keep (f0 ++ (f1 ++ (f2 ++ (f3 ++ f4)))) H H5 := by
    have a1 : Keep (f0 ++ (f1 ++ (f2 ++ (f3 ++ f4)))) H H1 := k0.trans k1 (by simp) (fun i hi _ => by simp [hi])
    have a2 := a1.trans (h := f0 ++ (f1 ++ (f2 ++ (f3 ++ f4)))) k2 (fun i hi _ => hi) (fun i hi _ => by simp [hi])
    have a3 := a2.trans (h := f0 ++ (f1 ++ (f2 ++ (f3 ++ f4)))) k3 (fun i hi _ => hi) (fun i hi _ => by simp [hi])
    have a4 := a3.trans (h := f0 ++ (f1 ++ (f2 ++ (f3 ++ f4)))) k4 (fun i hi _ => hi) (fun i hi _ => by simp [hi])
    exact a4.trans k5 (fun i hi _ => hi) (fun i hi _ => by simp [hi])
  simp [Tryz.f11]
  refine ⟨rfl, ?_, leave_keep' hK⟩
  rcases leave_or H H5 [W.lf (Lf.i .i64 (OutS.mkN x.said (InS.mkN x.line (BoolS.mkN x.gates (WireS.mkN x.net (MinderS.mkN x.two k))))))] with e | ⟨e, G, rfl⟩ <;> rw [e]
  · exact hI
  · exact ⟨q0, q1, q2, q3, q4, f0, f1, f2, f3, f4, rfl, p0.unapp okMinder unMinder hlt0, unapp_is p1 hlt1, unapp_is p2 hlt2, unapp_is p3 hlt3, unapp_is o4 hlt4, rfl, hnd⟩

theorem heldBox_is {H : Heap} {l : List Lf} {x : Box} {k : Int} (h : RdBox H l x) (hk : 0 ≤ k) (hk2 : k ≤ 1152921504606846976) (hn : x.sz ≤ 1048576) :
    run env 12 [.agg l, .int k] H = some (.int (x.hd k), H) := by
  obtain ⟨q0, q1, q2, q3, q4, rfl, h0, h1, h2, h3, h4⟩ := h
  unfold Box.sz at hn
  have e0 := fun G => heldMinderS_is (RdMinderS_base h0 (Keep.app [] _ G)) hk hk2 (by omega)
  have hb0 := MinderS.hd_bd x.two k hk
  refine run_walk ok12 Tryz.func12 rfl (by simp [Tryz.f12]) fun Q hQ => ?_
  simp only [Tryz.f12, strip, stripL, stripI, stripG, chkT, tagsB, tagsL, tagD, addT, tagA, lookN, tagOp, elmT, ty24, ty25, ty26, ty27, ty28, ty39, ty40, ty41, ty42, ty57, ty59, ty62, ty98, Nat.reduceEqDiff, if_false, reduceIte, Option.getD_some, Option.getD_none, dstAt, dstOk, Nat.reduceLT, decide_true, if_true]
  have fin : ∀ tm G n, tm 4 = .int n → x.hd k = n → Q .ret tm (H ++ G) := by
    intro tm G n t4 hx
    refine hQ _ _ _ (by simp) ?_
    simp [Tryz.f12, t4, hx]
  simp [Box.enc, e0]
  by_cases c0 : MinderS.hd x.two k < 0
  · simp [c0]
    exact fin _ _ (-1) (by simp) (by simp [Box.hd, c0])
  have e1 := fun G => heldWireS_is (h1.app G) (k := MinderS.hd x.two k) (by omega) (by omega) (by omega)
  have v1 : WireS.hd x.net (MinderS.hd x.two k) ≤ MinderS.hd x.two k + 12 * x.net.length := by unfold WireS.hd heldL; split <;> omega
  simp [c0, e1]
  by_cases c1 : WireS.hd x.net (MinderS.hd x.two k) < 0
  · simp [c1]
    exact fin _ _ (-1) (by simp) (by simp [Box.hd, c0, c1])
  have e2 := fun G => heldBoolS_is (h2.app G) (k := WireS.hd x.net (MinderS.hd x.two k)) (by omega) (by omega) (by omega)
  have v2 : BoolS.hd x.gates (WireS.hd x.net (MinderS.hd x.two k)) ≤ WireS.hd x.net (MinderS.hd x.two k) + x.gates.length := by unfold BoolS.hd heldL; split <;> omega
  simp [c1, e2]
  by_cases c2 : BoolS.hd x.gates (WireS.hd x.net (MinderS.hd x.two k)) < 0
  · simp [c2]
    exact fin _ _ (-1) (by simp) (by simp [Box.hd, c0, c1, c2])
  have e3 := fun G => heldInS_is (h3.app G) (k := BoolS.hd x.gates (WireS.hd x.net (MinderS.hd x.two k))) (by omega) (by omega) (by omega)
  have v3 : InS.hd x.line (BoolS.hd x.gates (WireS.hd x.net (MinderS.hd x.two k))) ≤ BoolS.hd x.gates (WireS.hd x.net (MinderS.hd x.two k)) + 8 * x.line.length := by unfold InS.hd heldL; split <;> omega
  simp [c2, e3]
  by_cases c3 : InS.hd x.line (BoolS.hd x.gates (WireS.hd x.net (MinderS.hd x.two k))) < 0
  · simp [c3]
    exact fin _ _ (-1) (by simp) (by simp [Box.hd, c0, c1, c2, c3])
  have e4 := fun G => heldOutS_is (h4.app G) (k := InS.hd x.line (BoolS.hd x.gates (WireS.hd x.net (MinderS.hd x.two k)))) (by omega) (by omega) (by omega)
  simp [c3, e4]
  by_cases c4 : OutS.hd x.said (InS.hd x.line (BoolS.hd x.gates (WireS.hd x.net (MinderS.hd x.two k)))) < 0
  · simp [c4]
    exact fin _ _ (-1) (by simp) (by simp [Box.hd, c0, c1, c2, c3, c4])
  · simp [c4]
    exact fin _ _ _ (by simp; rfl) (by simp [Box.hd, c0, c1, c2, c3, c4])

def openBy (role wait : Int) : Bool := (decide (role = 1) || decide (role = 2)) && decide (wait = 0)
def Port.ok (p : Port) : Bool :=
  (if p.has then p.up && p.vec.ok && (decide (0 ≤ p.hops) && decide (p.hops ≤ 8)) && (decide (1 ≤ p.left) && decide (p.left ≤ 3)) else decide (p.vec = ⟨0, 0, 0, 0⟩) && decide (p.hops = 0) && decide (p.left = 0)) &&
  (decide (0 ≤ p.role) && decide (p.role ≤ 3)) && decide (decide (p.role = 0) = !p.up) && (decide (0 ≤ p.wait) && decide (p.wait ≤ 4)) && decide (p.opn = openBy p.role p.wait)

theorem isOpenBy (H : Heap) (p : Port) : run env 162 [.agg p.enc] H = some (.bool (openBy p.role p.wait), H) := by
  obtain ⟨a1, a2, ⟨b1, b2, b3, b4⟩, a4, a5, a6, a7, a8⟩ := p
  refine run_walk ok162 Tryz.func162 rfl (by simp [Tryz.f162]) fun Q hQ => ?_
  simp only [Tryz.f162, strip, stripL, stripI, stripG, chkT, tagsB, tagsL, tagD, addT, tagA, lookN, tagOp, elmT, ty24, ty25, ty26, ty27, ty28, ty39, ty40, ty41, ty42, ty57, ty59, ty62, ty98, Nat.reduceEqDiff, if_false, reduceIte, Option.getD_some, Option.getD_none, dstAt, dstOk, Nat.reduceLT, decide_true, if_true]
  simp [Port.enc]
  repeat' (first | (refine gdL_t (fun h => ?_) (fun h => ?_) <;> simp [h]) | (refine gdL_f (fun h => ?_) (fun h => ?_) <;> simp [h]) | (refine selS_intro (fun h => ?_) (fun h => ?_) <;> simp [h]))
  all_goals (refine hQ _ _ _ (by simp) ?_)
  all_goals (clear hQ; simp_all [Tryz.f162, openBy])

theorem implPortOk (H : Heap) (p : Port) : run env 156 [.agg p.enc] H = some (.bool p.ok, H) := by
  obtain ⟨a1, a2, ⟨b1, b2, b3, b4⟩, a4, a5, a6, a7, a8⟩ := p
  have e := fun H => implVecOk H ⟨b1, b2, b3, b4⟩
  have e2 := fun H a1 a2 b1 b2 b3 b4 a4 a5 a6 a7 a8 => isOpenBy H ⟨a1, a2, ⟨b1, b2, b3, b4⟩, a4, a5, a6, a7, a8⟩
  simp only [Vec.enc, Port.enc] at e e2
  refine run_walk ok156 Tryz.func156 rfl (by simp [Tryz.f156]) fun Q hQ => ?_
  simp only [Tryz.f156, strip, stripL, stripI, stripG, chkT, tagsB, tagsL, tagD, addT, tagA, lookN, tagOp, elmT, ty24, ty25, ty26, ty27, ty28, ty39, ty40, ty41, ty42, ty57, ty59, ty62, ty98, Nat.reduceEqDiff, if_false, reduceIte, Option.getD_some, Option.getD_none, dstAt, dstOk, Nat.reduceLT, decide_true, if_true]
  simp [Port.enc, e, e2, inRange, isHops]
  repeat' (first | (refine gdL_t (fun h => ?_) (fun h => ?_) <;> simp [h, e, e2, inRange, isHops]) | (refine gdL_f (fun h => ?_) (fun h => ?_) <;> simp [h, e, e2, inRange, isHops]) | (refine selS_intro (fun h => ?_) (fun h => ?_) <;> simp [h, e, e2, inRange, isHops]))
  all_goals (refine hQ _ _ _ (by simp) ?_)
  all_goals (clear hQ e e2; simp_all [Tryz.f156, Port.ok])
  all_goals (try (cases a1 <;> simp_all))
  all_goals (try (intros; exfalso; omega))

theorem specPortOk (H : Heap) (p : Port) : run env 112 [.agg p.enc] H = some (.bool p.ok, H) := by
  obtain ⟨a1, a2, ⟨b1, b2, b3, b4⟩, a4, a5, a6, a7, a8⟩ := p
  have e := fun H => specVecOk H ⟨b1, b2, b3, b4⟩
  simp only [Vec.enc, Port.enc] at e
  refine run_walk ok112 Tryz.func112 rfl (by simp [Tryz.f112]) fun Q hQ => ?_
  simp only [Tryz.f112, strip, stripL, stripI, stripG, chkT, tagsB, tagsL, tagD, addT, tagA, lookN, tagOp, elmT, ty24, ty25, ty26, ty27, ty28, ty39, ty40, ty41, ty42, ty57, ty59, ty62, ty98, Nat.reduceEqDiff, if_false, reduceIte, Option.getD_some, Option.getD_none, dstAt, dstOk, Nat.reduceLT, decide_true, if_true]
  simp [Port.enc, e, l1In]
  repeat' (first | (refine gdL_t (fun h => ?_) (fun h => ?_) <;> simp [h, e, l1In]) | (refine gdL_f (fun h => ?_) (fun h => ?_) <;> simp [h, e, l1In]) | (refine selS_intro (fun h => ?_) (fun h => ?_) <;> simp [h, e, l1In]))
  all_goals (refine hQ _ _ _ (by simp) ?_)
  all_goals (clear hQ e; simp_all [Tryz.f112, Port.ok, openBy])
  all_goals (try (intros; exfalso; omega))

def Bridge.ok (b : Bridge) : Bool := b.ports.all Port.ok && (decide (1 ≤ b.id) && decide (b.id ≤ 9)) && (decide (1 ≤ (b.ports.length : Int)) && decide ((b.ports.length : Int) ≤ 4))

theorem implBridgeOk_is {H : Heap} {l : List Lf} {b : Bridge} (h : RdBridge H l b) (hn : b.sz ≤ 1048576) : run env 149 [.agg l] H = some (.bool b.ok, H) := by
  obtain ⟨a, rfl, h⟩ := h
  have hn : b.ports.length ≤ 1048576 := hn
  refine run_walk ok149 Tryz.func149 rfl (by simp [Tryz.f149]) fun Q hQ => ?_
  simp only [Tryz.f149, strip, stripL, stripI, stripG, chkT, tagsB, tagsL, tagD, addT, tagA, lookN, tagOp, elmT, ty24, ty25, ty26, ty27, ty28, ty39, ty40, ty41, ty42, ty57, ty59, ty62, ty98, Nat.reduceEqDiff, if_false, reduceIte, Option.getD_some, Option.getD_none, dstAt, dstOk, Nat.reduceLT, decide_true, if_true]
  simp [Bridge.enc, builtinV, pureB, lenV]
  refine wpS_loop (fun j tm H' => ∃ i G, i + j = b.ports.length ∧ tm 1 = .ptr H.length 0 0 ∧ tm 6 = .w (.lf (.sl a b.ports.length)) ∧ tm 7 = .int b.ports.length ∧ tm 8 = .int i ∧ H' = H ++ some ⟨100, .wr, [b.enc a]⟩ :: G ∧ (b.ports.take i).all Port.ok = true) b.ports.length (by rw [env_K]; omega) ⟨0, [], by simp, by simp, by simp, by simp, by simp, by simp [Bridge.enc], by simp⟩ ?_
  rintro j tm H' hj ⟨i, G, hij, t1, t6, t7, t8, rfl, hall⟩ Q' hn' he' hr'
  simp [t1, t6, t7, t8]
  refine selS_intro (fun hc => ?_) (fun hc => ?_)
  · simp at hc
    obtain ⟨id, r, bl, rfl, hbl, hbe, hrow⟩ := h i _ (by simp [hc]; rfl)
    have hid := blkAt_len hbl
    have g4 : IntKind.i64.wrap ((i : Int) + 1) = (i : Int) + 1 := wrap64 (by omega) (by omega)
    simp [t1, t6, t7, t8, indexAddrV, elemIs, hid, hbl, hbe, hc, hrow, implPortOk]
    refine selS_intro (fun hd => ?_) (fun hd => ?_)
    · simp
      refine hr' _ _ ?_
      simp
      refine hQ _ _ _ (by simp) ?_
      have : b.ports.all Port.ok = false := List.all_eq_false.2 ⟨b.ports[i], by simp, by simpa using hd⟩
      simp [Tryz.f149, this, Bridge.ok]
    · simp at hd
      simp [t1, t6, t7, t8, g4]
      refine hn' (j - 1) _ _ (by omega) ⟨i + 1, _, by omega, by simp [t1], by simp [t6], by simp [t7], by simp, rfl, ?_⟩
      rw [List.take_add_one, List.all_append, hall]
      simp [hc, hd]
  · simp at hc
    simp [t1, t6, t7, t8]
    refine he' _ _ _ ?_
    simp [t1, builtinV, pureB, lenV, Bridge.enc, inRange]
    rw [List.take_of_length_le (by omega)] at hall
    repeat' (first | (refine gdL_t (fun h => ?_) (fun h => ?_) <;> simp [h, t1, inRange, builtinV, pureB, lenV]) | (refine gdL_f (fun h => ?_) (fun h => ?_) <;> simp [h, t1, inRange, builtinV, pureB, lenV]) | (refine selS_intro (fun h => ?_) (fun h => ?_) <;> simp [h, t1, inRange, builtinV, pureB, lenV]))
    all_goals (refine hQ _ _ _ (by simp) ?_)
    all_goals (simp [Tryz.f149, Bridge.ok, hall])
    all_goals (simp_all)
    all_goals (try (intros; omega))

theorem specBridgeOk_is {H : Heap} {l : List Lf} {b : Bridge} (h : RdBridge H l b) (hn : b.sz ≤ 1048576) : run env 92 [.agg l] H = some (.bool b.ok, H) := by
  obtain ⟨a, rfl, h⟩ := h
  have hn : b.ports.length ≤ 1048576 := hn
  refine run_walk ok92 Tryz.func92 rfl (by simp [Tryz.f92]) fun Q hQ => ?_
  simp only [Tryz.f92, strip, stripL, stripI, stripG, chkT, tagsB, tagsL, tagD, addT, tagA, lookN, tagOp, elmT, ty24, ty25, ty26, ty27, ty28, ty39, ty40, ty41, ty42, ty57, ty59, ty62, ty98, Nat.reduceEqDiff, if_false, reduceIte, Option.getD_some, Option.getD_none, dstAt, dstOk, Nat.reduceLT, decide_true, if_true]
  simp [Bridge.enc, builtinV, pureB, lenV]
  refine wpS_loop (fun j tm H' => ∃ i, i + j = b.ports.length ∧ tm 1 = .ptr H.length 0 0 ∧ tm 3 = .int i ∧ H' = H ++ [some ⟨100, .wr, [b.enc a]⟩] ∧ (b.ports.take i).all Port.ok = true) b.ports.length (by rw [env_K]; omega) ⟨0, by simp, by simp, by simp, by simp [Bridge.enc], by simp⟩ ?_
  rintro j tm H' hj ⟨i, hij, t1, t3, rfl, hall⟩ Q' hn' he' hr'
  simp [t1, t3, Bridge.enc, builtinV, pureB, lenV]
  refine selS_intro (fun hc => ?_) (fun hc => ?_)
  · simp at hc
    obtain ⟨id, r, bl, rfl, hbl, hbe, hrow⟩ := h i _ (by simp [hc]; rfl)
    have hid := blkAt_len hbl
    have g4 : IntKind.i64.wrap ((i : Int) + 1) = (i : Int) + 1 := wrap64 (by omega) (by omega)
    simp [t1, t3, indexAddrV, elemIs, hid, hbl, hbe, hc, hrow, specPortOk]
    refine selS_intro (fun hd => ?_) (fun hd => ?_)
    · simp
      refine hr' _ _ ?_
      simp
      refine hQ _ _ _ (by simp) ?_
      have : b.ports.all Port.ok = false := List.all_eq_false.2 ⟨b.ports[i], by simp, by simpa using hd⟩
      simp [Tryz.f92, this, Bridge.ok]
    · simp at hd
      simp [t1, t3, g4]
      refine hn' (j - 1) _ _ (by omega) ⟨i + 1, by omega, by simp [t1], by simp, by simp [Bridge.enc], ?_⟩
      rw [List.take_add_one, List.all_append, hall]
      simp [hc, hd]
  · simp at hc
    simp [t1, t3]
    refine he' _ _ _ ?_
    simp [t1, builtinV, pureB, lenV, Bridge.enc, l1In]
    rw [List.take_of_length_le (by omega)] at hall
    repeat' (first | (refine gdL_t (fun h => ?_) (fun h => ?_) <;> simp [h, t1, l1In, builtinV, pureB, lenV]) | (refine gdL_f (fun h => ?_) (fun h => ?_) <;> simp [h, t1, l1In, builtinV, pureB, lenV]) | (refine selS_intro (fun h => ?_) (fun h => ?_) <;> simp [h, t1, l1In, builtinV, pureB, lenV]))
    all_goals (refine hQ _ _ _ (by simp) ?_)
    all_goals (simp [Tryz.f92, Bridge.ok, hall])
    all_goals (simp_all)
    all_goals (try (intros; omega))

theorem implReleased_is {H : Heap} {l : List Lf} {x : Box} (h : RdBox H l x) (hn : x.sz ≤ 1048576) : run env 142 [.agg l] H = some (.int (x.line.length : Int), H) := by
  obtain ⟨q0, q1, q2, q3, q4, rfl, _, _, _, ⟨a, rfl, h⟩, _⟩ := h
  refine run_walk ok142 Tryz.func142 rfl (by simp [Tryz.f142]) fun Q hQ => ?_
  simp only [Tryz.f142, strip, stripL, stripI, stripG, chkT, tagsB, tagsL, tagD, addT, tagA, lookN, tagOp, elmT, ty24, ty25, ty26, ty27, ty28, ty39, ty40, ty41, ty42, ty57, ty59, ty62, ty98, Nat.reduceEqDiff, if_false, reduceIte, Option.getD_some, Option.getD_none, dstAt, dstOk, Nat.reduceLT, decide_true, if_true]
  simp [Box.enc, builtinV, pureB, lenV]
  all_goals (refine hQ _ _ _ (by simp) ?_)
  all_goals (clear hQ; simp [Tryz.f142])

def better (a b : Vec) : Bool := if a.root ≠ b.root then decide (a.root < b.root) else if a.cost ≠ b.cost then decide (a.cost < b.cost) else if a.bridge ≠ b.bridge then decide (a.bridge < b.bridge) else decide (a.port < b.port)
def cmpI' (a b : Int) : Int := if a < b then -1 else if b < a then 1 else 0
def orL (xs : List Int) : Int := (xs.find? fun x => !decide (x = 0)).getD 0

theorem cmpNaN (H : Heap) (a : Int) : run env 169 [.int a] H = some (.bool false, H) := by
  refine run_walk ok169 Tryz.func169 rfl (by simp [Tryz.f169]) fun Q hQ => ?_
  simp only [Tryz.f169, strip, stripL, stripI, stripG, chkT, tagsB, tagsL, tagD, addT, tagA, lookN, tagOp, elmT, ty24, ty25, ty26, ty27, ty28, ty39, ty40, ty41, ty42, ty57, ty59, ty62, ty98, Nat.reduceEqDiff, if_false, reduceIte, Option.getD_some, Option.getD_none, dstAt, dstOk, Nat.reduceLT, decide_true, if_true]
  simp
  all_goals (refine hQ _ _ _ (by simp) ?_)
  all_goals (clear hQ; simp [Tryz.f169])

theorem cmpCompare (H : Heap) (a b : Int) : run env 168 [.int a, .int b] H = some (.int (cmpI' a b), H) := by
  refine run_walk ok168 Tryz.func168 rfl (by simp [Tryz.f168]) fun Q hQ => ?_
  simp only [Tryz.f168, strip, stripL, stripI, stripG, chkT, tagsB, tagsL, tagD, addT, tagA, lookN, tagOp, elmT, ty24, ty25, ty26, ty27, ty28, ty39, ty40, ty41, ty42, ty57, ty59, ty62, ty98, Nat.reduceEqDiff, if_false, reduceIte, Option.getD_some, Option.getD_none, dstAt, dstOk, Nat.reduceLT, decide_true, if_true]
  simp [cmpNaN]
  refine selS_intro (fun h => ?_) (fun h => ?_)
  · simp
    refine hQ _ _ _ (by simp) ?_
    simp at h
    simp [Tryz.f168, cmpI', h]
  simp
  refine selS_intro (fun h2 => ?_) (fun h2 => ?_)
  all_goals (simp; refine hQ _ _ _ (by simp) ?_; simp at h h2; simp [Tryz.f168, cmpI']; omega)

theorem cmpOr {H : Heap} {a : Option (Nat × Nat)} {xs : List Int} (h : Sl H 3 a (xs.map encI)) (hn : xs.length ≤ 1048576) :
    run env 167 [.w (.lf (.sl a xs.length))] H = some (.int (orL xs), H) := by
  refine run_walk ok167 Tryz.func167 rfl (by simp [Tryz.f167]) fun Q hQ => ?_
  simp only [Tryz.f167, strip, stripL, stripI, stripG, chkT, tagsB, tagsL, tagD, addT, tagA, lookN, tagOp, elmT, ty24, ty25, ty26, ty27, ty28, ty39, ty40, ty41, ty42, ty57, ty59, ty62, ty98, Nat.reduceEqDiff, if_false, reduceIte, Option.getD_some, Option.getD_none, dstAt, dstOk, Nat.reduceLT, decide_true, if_true]
  simp [builtinV, pureB, lenV]
  refine wpS_loop (fun j tm H' => ∃ i, i + j = xs.length ∧ tm 3 = .int 0 ∧ tm 6 = .w (.lf (.sl a xs.length)) ∧ tm 7 = .int xs.length ∧ tm 8 = .int i ∧ H' = H ∧ ∀ x ∈ xs.take i, x = 0) xs.length (by rw [env_K]; omega) ⟨0, by simp, by simp, by simp, by simp, by simp, rfl, by simp⟩ ?_
  rintro j tm H' hj ⟨i, hij, t3, t6, t7, t8, rfl, hz⟩ Q2 hn2 he2 hr2
  simp [t3, t6, t7, t8]
  refine selS_intro (fun hc => ?_) (fun hc => ?_)
  · simp at hc
    obtain ⟨id, r, bl, rfl, hbl, hbe, hrow⟩ := h i _ (by simp [hc]; rfl)
    have g4 : IntKind.i64.wrap ((i : Int) + 1) = (i : Int) + 1 := wrap64 (by omega) (by omega)
    simp [t3, t6, t7, t8, indexAddrV, elemIs, hbl, hbe, hc, hrow, encI]
    refine selS_intro (fun hd => ?_) (fun hd => ?_)
    · simp
      refine hr2 _ _ ?_
      simp
      refine hQ _ _ _ (by simp) ?_
      have hf : xs.find? (fun x => !decide (x = 0)) = some xs[i] := by
        rw [List.find?_eq_some_iff_getElem]
        refine ⟨by simpa using hd, i, hc, rfl, fun j hj => ?_⟩
        have := hz xs[j] (List.mem_take_iff_getElem.2 ⟨j, by omega, rfl⟩)
        simp [this]
      simp [Tryz.f167, orL, hf]
    · simp at hd
      simp [t3, t6, t7, t8, g4]
      refine hn2 (j - 1) _ _ (by omega) ⟨i + 1, by omega, by simp [t3], by simp [t6], by simp [t7], by simp, rfl, ?_⟩
      intro x hx
      rw [List.take_add_one, List.getElem?_eq_getElem hc, List.mem_append] at hx
      rcases hx with hx | hx
      · exact hz x hx
      · simp at hx
        rw [hx]; exact hd
  · simp at hc
    rw [List.take_of_length_le (by omega)] at hz
    simp [t3, t6, t7, t8]
    refine he2 _ _ _ ?_
    simp [t3]
    refine hQ _ _ _ (by simp) ?_
    have hf : xs.find? (fun x => !decide (x = 0)) = none := by
      rw [List.find?_eq_none]
      intro x hx
      simp [hz x hx]
    simp [Tryz.f167, orL, hf]

theorem implBetter (H : Heap) (x y : Vec) : run env 163 [.agg x.enc, .agg y.enc] H = some (.bool (better x y), H) := by
  have e1 := fun H a b => cmpCompare H a b
  have e3 := fun p q u v B1 B2 => cmpOr (H := H ++ [B1, B2, some ⟨3, .wr, [[.i .i64 p], [.i .i64 q], [.i .i64 u], [.i .i64 v]]⟩]) (a := some (H.length + 2, 0)) (xs := [p, q, u, v]) (Sl.of (by simp [encI])) (by simp)
  simp at e3
  refine run_walk ok163 Tryz.func163 rfl (by simp [Tryz.f163]) fun Q hQ => ?_
  simp only [Tryz.f163, strip, stripL, stripI, stripG, chkT, tagsB, tagsL, tagD, addT, tagA, lookN, tagOp, elmT, ty24, ty25, ty26, ty27, ty28, ty39, ty40, ty41, ty42, ty57, ty59, ty62, ty98, Nat.reduceEqDiff, if_false, reduceIte, Option.getD_some, Option.getD_none, dstAt, dstOk, Nat.reduceLT, decide_true, if_true]
  simp [Vec.enc, e1, e3]
  refine hQ _ _ _ (by simp) ?_
  simp [Tryz.f163]
  unfold orL better cmpI'
  by_cases h1 : x.root < y.root <;> by_cases h2 : y.root < x.root <;> by_cases h3 : x.cost < y.cost <;> by_cases h4 : y.cost < x.cost <;> by_cases h5 : x.bridge < y.bridge <;> by_cases h6 : y.bridge < x.bridge <;> by_cases h7 : x.port < y.port <;> by_cases h8 : y.port < x.port <;> simp [h1, h2, h3, h4, h5, h6, h7, h8, List.find?] <;> omega

theorem specBetter (H : Heap) (x y : Vec) : run env 151 [.agg x.enc, .agg y.enc] H = some (.bool (better x y), H) := by
  obtain ⟨a1, a2, a3, a4⟩ := x
  obtain ⟨b1, b2, b3, b4⟩ := y
  refine run_walk ok151 Tryz.func151 rfl (by simp [Tryz.f151]) fun Q hQ => ?_
  simp only [Tryz.f151, strip, stripL, stripI, stripG, chkT, tagsB, tagsL, tagD, addT, tagA, lookN, tagOp, elmT, ty24, ty25, ty26, ty27, ty28, ty39, ty40, ty41, ty42, ty57, ty59, ty62, ty98, Nat.reduceEqDiff, if_false, reduceIte, Option.getD_some, Option.getD_none, dstAt, dstOk, Nat.reduceLT, decide_true, if_true]
  simp [Vec.enc]
  repeat' (first | (refine gdL_t (fun h => ?_) (fun h => ?_) <;> simp [h]) | (refine gdL_f (fun h => ?_) (fun h => ?_) <;> simp [h]) | (refine selS_intro (fun h => ?_) (fun h => ?_) <;> simp [h]))
  all_goals (refine hQ _ _ _ (by simp) ?_)
  all_goals (clear hQ; simp_all [Tryz.f151, better])

def rootSkip (b : Bridge) (p : Port) : Bool := !p.has || decide (p.vec.bridge = b.id) || decide (b.id ≤ p.vec.root) || decide (20 ≤ p.vec.cost) || decide (8 ≤ p.hops)
def rootStep (b : Bridge) (best : Int) (i : Nat) (p : Port) : Int := if rootSkip b p then best else if decide (best < 0) || better p.vec (b.ports.getD best.toNat default).vec then i else best
def rootUpto (b : Bridge) : Nat → Int
  | 0 => -1
  | i + 1 => match b.ports[i]? with
    | some p => rootStep b (rootUpto b i) i p
    | none => rootUpto b i
def rootAt (b : Bridge) : Int := rootUpto b b.ports.length
theorem rootUpto_lt (b : Bridge) : ∀ i, -1 ≤ rootUpto b i ∧ rootUpto b i < i
  | 0 => by simp [rootUpto]
  | i + 1 => by
    have ih := rootUpto_lt b i
    unfold rootUpto
    split
    · unfold rootStep
      split
      · omega
      · split <;> omega
    · omega
def rootPort (b : Bridge) : Int × Bool := if b.ok then (rootAt b, decide (0 ≤ rootAt b)) else (-1, false)

theorem specRootPort {H : Heap} {l : List Lf} {b : Bridge} (h : RdBridge H l b) (hn : b.sz ≤ 1048576) : run env 147 [.agg l] H = some (.tup [.lf (.i .i64 (rootPort b).1), .lf (.b (rootPort b).2)], H) := by
  have hR := h
  have eo := fun G => specBridgeOk_is (hR.app G) (by omega)
  have e1 := fun H (c1 c2 c3 c4 d1 d2 d3 d4 : Int) => specBetter H ⟨c1, c2, c3, c4⟩ ⟨d1, d2, d3, d4⟩
  simp only [Vec.enc] at e1
  obtain ⟨a, rfl, h_⟩ := h
  have hn : b.ports.length ≤ 1048576 := hn
  simp only [Bridge.enc] at eo
  refine run_walk ok147 Tryz.func147 rfl (by simp [Tryz.f147]) fun Q hQ => ?_
  simp only [Tryz.f147, strip, stripL, stripI, stripG, chkT, tagsB, tagsL, tagD, addT, tagA, lookN, tagOp, elmT, ty24, ty25, ty26, ty27, ty28, ty39, ty40, ty41, ty42, ty57, ty59, ty62, ty98, Nat.reduceEqDiff, if_false, reduceIte, Option.getD_some, Option.getD_none, dstAt, dstOk, Nat.reduceLT, decide_true, if_true]
  simp
  obtain ⟨B, hB⟩ : ∃ B : Option Blk, B = some ⟨100, .wr, [[.i .i64 b.id, .sl a b.ports.length]]⟩ := ⟨_, rfl⟩
  cases hok : b.ok
  · refine wpS_loop (fun j tm H' => tm 1 = .ptr H.length 0 0 ∧ tm 4 = .int (-1) ∧ tm 5 = .int 0 ∧ H' = H ++ [B]) 0 (by rw [env_K]; omega) ⟨by simp, by simp, by simp, by simp [hB, Bridge.enc]⟩ ?_
    rintro j tm H' hj ⟨t1, t4, t5, rfl⟩ Q2 hn2 he2 hr2
    simp [t1, t4, t5, hB, builtinV, pureB, lenV]
    rw [hok] at eo
    repeat' (first | (refine gdL_t (fun h => ?_) (fun h => ?_) <;> simp [h, t1, eo]) | (refine gdL_f (fun h => ?_) (fun h => ?_) <;> simp [h, t1, eo]) | (refine selS_intro (fun h => ?_) (fun h => ?_) <;> simp [h, t1, eo]))
    all_goals (refine he2 _ _ _ ?_)
    all_goals (simp [t4]; refine hQ _ _ _ (by simp) ?_; simp [Tryz.f147, rootPort, hok])
  · rw [hok] at eo
    refine wpS_loop (fun j tm H' => ∃ i T, i + j = b.ports.length ∧ tm 1 = .ptr H.length 0 0 ∧ tm 4 = .int (rootUpto b i) ∧ tm 5 = .int i ∧ H' = H ++ B :: T) b.ports.length (by rw [env_K]; omega) ⟨0, [], by simp, by simp, by simp [rootUpto], by simp, by simp [hB, Bridge.enc]⟩ ?_
    rintro j tm H' hj ⟨i, T, hij, t1, t4, t5, rfl⟩ Q2 hn2 he2 hr2
    simp [t1, t4, t5, hB, builtinV, pureB, lenV]
    refine gdL_t (fun hc => ?_) (fun hc => ?_)
    · simp [hc, eo, t1]
      simp at hc
      obtain ⟨id2, r, bl, rfl, hbl, hbe, hrow⟩ := h_ i _ (by simp [hc]; rfl)
      have hid := blkAt_len hbl
      have g4 : IntKind.i64.wrap ((i : Int) + 1) = (i : Int) + 1 := wrap64 (by omega) (by omega)
      have hlt := rootUpto_lt b i
      have hstep : rootUpto b (i + 1) = rootStep b (rootUpto b i) i b.ports[i] := by rw [rootUpto, List.getElem?_eq_getElem hc]
      have hskip : ∀ tm', tm' 1 = .ptr H.length 0 0 → tm' 4 = .int (rootUpto b (i + 1)) → tm' 5 = .int ((i : Int) + 1) → ∀ T', Q2 .normal tm' (H ++ some ⟨100, .wr, [[.i .i64 b.id, .sl (some (id2, r)) b.ports.length]]⟩ :: T') := fun tm' a1 a4 a5 T' =>
        hn2 (j - 1) _ _ (by omega) ⟨i + 1, T', by omega, a1, a4, by simpa using a5, by rw [hB]⟩
      obtain ⟨p, hp⟩ : ∃ p, p = b.ports[i] := ⟨_, rfl⟩
      rw [← hp] at hstep
      have skipped : rootSkip b p = true → rootUpto b (i + 1) = rootUpto b i := fun hs => by rw [hstep, rootStep, if_pos hs]
      simp [t1, t4, t5, indexAddrV, elemIs, hid, hbl, hbe, hc, hrow, ← hp, Port.enc]
      repeat' (first | (refine gdL_t (fun h => ?_) (fun h => ?_) <;> simp [h, t1, t4, t5, g4]) | (refine gdL_f (fun h => ?_) (fun h => ?_) <;> simp [h, t1, t4, t5, g4]) | (refine selS_intro (fun h => ?_) (fun h => ?_) <;> simp [h, t1, t4, t5, g4]))
      iterate 5 (refine hskip _ (by simp [t1]) ?_ (by simp) _; rw [skipped (by clear hQ hn2 he2 hr2 hskip; simp_all [rootSkip])]; simp [t4])
      · have hns : rootSkip b p = false := by clear hQ hn2 he2 hr2 hskip skipped; simp_all [rootSkip]
        refine hskip _ (by simp [t1]) ?_ (by simp) _
        rw [hstep, rootStep, hns]
        have h0 : rootUpto b i < 0 := by simpa using h
        simp [h0]
      · have hns : rootSkip b p = false := by clear hQ hn2 he2 hr2 hskip skipped; simp_all [rootSkip]
        have h0 : 0 ≤ rootUpto b i := by simpa using h
        have hki : (rootUpto b i).toNat < b.ports.length := by omega
        have hkl : rootUpto b i < (b.ports.length : Int) := by omega
        obtain ⟨id3, r3, bl3, hx3, hbl3, hbe3, hrow3⟩ := h_ (rootUpto b i).toNat _ (by simp [hki]; rfl)
        cases hx3
        rw [hbl] at hbl3
        injection hbl3 with hbl3
        subst hbl3
        have hgd : (b.ports.getD (rootUpto b i).toNat default) = b.ports[(rootUpto b i).toNat] := by simp [List.getD, List.getElem?_eq_getElem hki]
        have hnl : ¬ rootUpto b i < 0 := by omega
        rw [rootStep, hns, hgd] at hstep
        simp only [Bool.false_eq_true, if_false, hnl, decide_false, Bool.false_or] at hstep
        simp [t1, t4, t5, indexAddrV, elemIs, hid, hbl, hbe, h0, hkl, hrow3, Port.enc, e1]
        refine selS_intro (fun hd => ?_) (fun hd => ?_)
        · simp [t1, t4, t5, g4]
          refine hskip _ (by simp [t1]) ?_ (by simp) _
          rw [hstep, if_pos (by simpa using hd)]
          simp
        · simp [t1, t4, t5, g4]
          refine hskip _ (by simp [t1]) ?_ (by simp) _
          rw [hstep, if_neg (by simpa using hd)]
          simp [t4]
    · simp [hc]
      simp at hc
      obtain rfl : i = b.ports.length := by omega
      refine he2 _ _ _ ?_
      simp [t4]
      refine hQ _ _ _ (by simp) ?_
      simp [Tryz.f147, rootPort, rootAt, hok]
      exact decide_eq_decide.2 Iff.rfl

def bridgeNew (id ports : Int) : Bridge × Bool := if (decide (1 ≤ id) && decide (id ≤ 9)) && (decide (1 ≤ ports) && decide (ports ≤ 4)) then (⟨id, List.replicate ports.toNat Port.zv⟩, true) else (⟨0, []⟩, false)
theorem Port.zv_ok : Port.zv.ok = true := by decide
theorem bridgeNew_ok {id ports : Int} (h : (bridgeNew id ports).2 = true) : (bridgeNew id ports).1.ok = true := by
  unfold bridgeNew at h ⊢
  split at h
  · rename_i h1
    rw [if_pos h1]
    simp at h1
    have hl : (List.replicate ports.toNat Port.zv).all Port.ok = true := by
      rw [List.all_eq_true]; intro p hp; rw [(List.mem_replicate.1 hp).2]; exact Port.zv_ok
    simp only [Bridge.ok, hl, Bool.true_and, List.length_replicate, Bool.and_eq_true, decide_eq_true_eq]
    omega
  · simp at h

theorem implBridgeNew (H : Heap) (id ports : Int) : Runs env 76 [.int id, .int ports] H fun v H' => ∃ l fp, v = .tup [.agg l, .lf (.b (bridgeNew id ports).2)] ∧ IsBridge H' l (bridgeNew id ports).1 fp ∧ Fresh H H' fp := by
  refine Runs.walk ok76 Tryz.func76 rfl (by simp [Tryz.f76]) fun Q hQ => ?_
  simp only [Tryz.f76, strip, stripL, stripI, stripG, chkT, tagsB, tagsL, tagD, addT, tagA, lookN, tagOp, elmT, ty24, ty25, ty26, ty27, ty28, ty39, ty40, ty41, ty42, ty57, ty59, ty62, ty98, Nat.reduceEqDiff, if_false, reduceIte, Option.getD_some, Option.getD_none, dstAt, dstOk, Nat.reduceLT, decide_true, if_true]
  simp [inRange]
  by_cases h1 : 1 ≤ id ∧ id ≤ 9
  · by_cases h2 : 1 ≤ ports ∧ ports ≤ 4
    · have hb : bridgeNew id ports = (⟨id, List.replicate ports.toNat Port.zv⟩, true) := by simp [bridgeNew, h1, h2]
      have k1 : ports * 80 ≤ 281474976710656 := by omega
      have k2 : ports ≤ 9223372036854775807 := by omega
      have k3 : 0 ≤ ports := by omega
      simp [h1, h2, makeSliceV, makeSliceR, newBlk, k1, k2, k3, inRange]
      refine hQ _ _ _ (by simp) ?_
      simp [Tryz.f76, hb]
      have ho : ∀ B : Option Blk, IsBridge (H ++ [B, some ⟨134, .wr, List.replicate ports.toNat Port.z⟩]) [.i .i64 id, .sl (some (H.length + 1, 0)) ports.toNat] ⟨id, List.replicate ports.toNat Port.zv⟩ [H.length + 1] := fun B =>
        ⟨some (H.length + 1, 0), by simp [Bridge.enc], Own.of (by simp [Port.enc])⟩
      exact (ho _).leave (Fresh.app H _ (by simp)) (by simp)
    · have hb : bridgeNew id ports = (⟨0, []⟩, false) := by
        unfold bridgeNew; rw [if_neg]; simp; intros; omega
      have h2' : (decide (1 ≤ ports) && decide (ports ≤ 4)) = false := by rw [Bool.and_eq_false_iff]; simp; omega
      simp [h1, h2', inRange]
      refine hQ _ _ _ (by simp) ?_
      simp [Tryz.f76, hb]
      exact ⟨[], ⟨none, rfl, Own.nil _ _⟩, Fresh.refl _⟩
  · have hb : bridgeNew id ports = (⟨0, []⟩, false) := by
      unfold bridgeNew; rw [if_neg]; simp; intros; omega
    rcases (show ¬ 1 ≤ id ∨ ¬ id ≤ 9 by omega) with h | h
    all_goals (simp [h]; refine hQ _ _ _ (by simp) ?_; simp [Tryz.f76, hb]; exact ⟨[], ⟨none, rfl, Own.nil _ _⟩, Fresh.refl _⟩)

theorem l1Min (H : Heap) (a b : Int) : run env 91 [.int a, .int b] H = some (.int (if a < b then a else b), H) := by
  refine run_walk ok91 Tryz.func91 rfl (by simp [Tryz.f91]) fun Q hQ => ?_
  simp only [Tryz.f91, strip, stripL, stripI, stripG, chkT, tagsB, tagsL, tagD, addT, tagA, lookN, tagOp, elmT, ty24, ty25, ty26, ty27, ty28, ty39, ty40, ty41, ty42, ty57, ty59, ty62, ty98, Nat.reduceEqDiff, if_false, reduceIte, Option.getD_some, Option.getD_none, dstAt, dstOk, Nat.reduceLT, decide_true, if_true]
  simp
  refine selS_intro (fun h => ?_) (fun h => ?_)
  all_goals (simp; refine hQ _ _ _ (by simp) ?_; simp at h; simp [Tryz.f91]; omega)

def Wire.ok (w : Wire) : Bool := (decide (0 ≤ w.frm) && decide (w.frm ≤ 1)) && (decide (0 ≤ w.life) && decide (w.life ≤ 100000)) && (decide (0 ≤ w.n) && decide (w.n ≤ 100000)) && (if w.ack then decide (w.inn = ⟨0, 0, ⟨0, 0, 0, 0⟩, 0, false⟩) else w.inn.ok)

theorem wireOk (H : Heap) (w : Wire) : run env 79 [.agg w.enc] H = some (.bool w.ok, H) := by
  obtain ⟨a1, a2, a3, a4, ⟨b1, b2, ⟨c1, c2, c3, c4⟩, b4, b5⟩⟩ := w
  have e := fun H => implInOk H ⟨b1, b2, ⟨c1, c2, c3, c4⟩, b4, b5⟩
  simp only [In.enc] at e
  refine run_walk ok79 Tryz.func79 rfl (by simp [Tryz.f79]) fun Q hQ => ?_
  simp only [Tryz.f79, strip, stripL, stripI, stripG, chkT, tagsB, tagsL, tagD, addT, tagA, lookN, tagOp, elmT, ty24, ty25, ty26, ty27, ty28, ty39, ty40, ty41, ty42, ty57, ty59, ty62, ty98, Nat.reduceEqDiff, if_false, reduceIte, Option.getD_some, Option.getD_none, dstAt, dstOk, Nat.reduceLT, decide_true, if_true]
  simp [Wire.enc, isSide]
  repeat' (first | (refine gdL_t (fun h => ?_) (fun h => ?_) <;> simp [h, isSide, isNum, e]) | (refine gdL_f (fun h => ?_) (fun h => ?_) <;> simp [h, isSide, isNum, e]) | (refine selS_intro (fun h => ?_) (fun h => ?_) <;> simp [h, isSide, isNum, e]))
  all_goals (refine hQ _ _ _ (by simp) ?_)
  all_goals (clear hQ e; simp_all [Tryz.f79, Wire.ok])
  all_goals (try (intros; exfalso; omega))
  all_goals (try omega)
  all_goals (by_cases z0 : a1 = 0 <;> by_cases z1 : a1 = 1 <;> simp_all [Bool.and_assoc])

def Box.ok (x : Box) : Bool := (bridgeNew x.id x.ports).2 && x.reg.ok && decide (x.two.length = 2) && decide (x.net.length ≤ 20) && x.two.all Minder.ok && x.net.all Wire.ok && decide ((x.gates.length : Int) = x.ports) && logOk x.line && decide (x.said.length ≤ 40)

theorem implBoxOk_is {H : Heap} {l : List Lf} {x : Box} (h : RdBox H l x) (hn : x.sz ≤ 2000000) : run env 39 [.agg l] H = some (.bool x.ok, H) := by
  have hR := h
  obtain ⟨_, _, _, _, _, rfl, ⟨a0, rws, rfl, hs, hlen, hat⟩, ⟨a1, rfl, r1⟩, ⟨a2, rfl, r2⟩, ⟨a3, rfl, r3⟩, ⟨a4, rfl, r4⟩⟩ := h
  unfold Box.sz at hn
  have hl0 := MinderS.sz_len x.two
  have er := fun H => implRegOk H x.reg
  have el := fun G => implLogOk (H ++ G) a3 x.line (r3.app G) (by omega)
  simp only [Reg.enc] at er
  refine run_walk ok39 Tryz.func39 rfl (by simp [Tryz.f39]) fun Q hQ => ?_
  simp only [Tryz.f39, strip, stripL, stripI, stripG, chkT, tagsB, tagsL, tagD, addT, tagA, lookN, tagOp, elmT, ty24, ty25, ty26, ty27, ty28, ty39, ty40, ty41, ty42, ty57, ty59, ty62, ty98, Nat.reduceEqDiff, if_false, reduceIte, Option.getD_some, Option.getD_none, dstAt, dstOk, Nat.reduceLT, decide_true, if_true]
  have bad : x.ok = false → ∀ tm H', (∃ G, H' = H ++ G) → tm 2 = .bool false → Q .ret tm H' := by
    rintro hx tm _ ⟨G, rfl⟩ h4
    refine hQ _ _ _ (by simp) ?_
    simp [Tryz.f39, h4, hx]
  simp [Box.enc]
  refine stpL_runs (implBridgeNew _ _ _) ?_
  rintro _ _ ⟨lb, fb, rfl, ob, ⟨⟨G0, rfl⟩, -⟩⟩
  have hbL := ob.len
  simp [hbL, er, builtinV, pureB, lenV]
  repeat' (first | (refine gdL_t (fun h => ?_) (fun h => ?_) <;> simp [h, hbL, er, builtinV, pureB, lenV]) | (refine gdL_f (fun h => ?_) (fun h => ?_) <;> simp [h, hbL, er, builtinV, pureB, lenV]) | (refine selS_intro (fun h => ?_) (fun h => ?_) <;> simp [h, hbL, er, builtinV, pureB, lenV]))
  · exact bad (by simp only [Box.ok]; simp_all) _ _ ⟨_, rfl⟩ (by simp)
  · exact bad (by simp only [Box.ok]; simp_all) _ _ ⟨_, rfl⟩ (by simp)
  · exact bad (by simp only [Box.ok]; simp at h; simp; intros; omega) _ _ ⟨_, rfl⟩ (by simp)
  · exact bad (by simp only [Box.ok]; simp at h; simp; intros; omega) _ _ ⟨_, rfl⟩ (by simp)
  rename_i k1 k2 k3
  have h2 : x.two.length = 2 := by simp at k3; omega
  have h20 : x.net.length ≤ 20 := by simp at h; omega
  have kb : (bridgeNew x.id x.ports).2 = true := by simpa using k1
  have kr : x.reg.ok = true := by simpa using k2
  clear k1 k2 k3
  obtain ⟨B, hB⟩ : ∃ B : Option Blk, B = some ⟨44, .wr, [[.i .i64 x.id, .i .i64 x.ports, .i .i64 x.reg.epoch, .i .i64 x.reg.owner, .i .i64 x.reg.pair, .sl a0 x.two.length, .sl a1 x.net.length, .sl a2 x.gates.length, .sl a3 x.line.length, .sl a4 x.said.length]]⟩ := ⟨_, rfl⟩
  refine wpS_loop (fun j tm H' => ∃ i T, i + j = x.two.length ∧ tm 1 = .ptr H.length 0 0 ∧ tm 38 = .w (.lf (.sl a0 x.two.length)) ∧ tm 39 = .int x.two.length ∧ tm 40 = .int i ∧ H' = H ++ B :: T ∧ ∀ m ∈ x.two.take i, m.ok = true) x.two.length (by rw [env_K]; omega)
    ⟨0, _, by simp, by simp, by simp, by simp, by simp, by simp [hB]; rfl, by simp⟩ ?_
  rintro j tm H' hj ⟨i, T, hij, t1, t38, t39, t40, rfl, hall⟩ Q2 hn2 he2 hr2
  simp [t1, t38, t39, t40]
  refine selS_intro (fun hc => ?_) (fun hc => ?_)
  · simp at hc
    have hri : i < rws.length := by omega
    obtain ⟨id2, r, bl, rfl, hbl, hbe, hrow⟩ := hs i _ (List.getElem?_eq_getElem hri)
    have hid := blkAt_len hbl
    have he := hat i _ _ (List.getElem?_eq_getElem hri) (List.getElem?_eq_getElem hc)
    have hsz := MinderS.sz_at (List.getElem_mem hc)
    have e1 := fun G => implMinderOk_is (he.app G) (by omega)
    have hL := he.len
    have hT : rws[i].take rws[i].length = rws[i] := List.take_length
    rw [hL] at hT
    have g4 : IntKind.i64.wrap ((i : Int) + 1) = (i : Int) + 1 := wrap64 (by omega) (by omega)
    simp [t1, t38, t39, t40, indexAddrV, elemIs, hid, hbl, hbe, hc, hrow, hL, hT, e1]
    refine selS_intro (fun hd => ?_) (fun hd => ?_)
    · simp
      refine hr2 _ _ ?_
      simp
      refine bad ?_ _ _ ⟨_, rfl⟩ (by simp)
      have : x.two.all Minder.ok = false := List.all_eq_false.2 ⟨x.two[i], by simp, by simpa using hd⟩
      simp [Box.ok, this]
    · simp [t1, t38, t39, t40, g4]
      refine hn2 (j - 1) _ _ (by omega) ⟨i + 1, _, by omega, by simp [t1], by simp [t38], by simp [t39], by simp, rfl, ?_⟩
      intro m hm
      rw [List.take_add_one, List.getElem?_eq_getElem hc, List.mem_append] at hm
      rcases hm with hm | hm
      · exact hall m hm
      · simp at hm
        rw [hm]
        simpa using hd
  · simp at hc
    rw [List.take_of_length_le (by omega)] at hall
    have hallm : x.two.all Minder.ok = true := List.all_eq_true.2 hall
    simp [t1, t38, t39, t40]
    refine he2 _ _ _ ?_
    simp [t1, hB, builtinV, pureB, lenV]
    refine wpS_loop (fun j tm H' => ∃ i T, i + j = x.net.length ∧ tm 1 = .ptr H.length 0 0 ∧ tm 49 = .w (.lf (.sl a1 x.net.length)) ∧ tm 50 = .int x.net.length ∧ tm 51 = .int i ∧ H' = H ++ B :: T ∧ ∀ m ∈ x.net.take i, m.ok = true) x.net.length (by rw [env_K]; omega)
      ⟨0, _, by simp, by simp [t1], by simp, by simp, by simp, by rw [hB], by simp⟩ ?_
    rintro j tm H' hj ⟨i, T, hij, t1, t49, t50, t51, rfl, hall2⟩ Q3 hn3 he3 hr3
    simp [t1, t49, t50, t51]
    refine selS_intro (fun hc => ?_) (fun hc => ?_)
    · simp at hc
      obtain ⟨id2, r, bl, rfl, hbl, hbe, hrow⟩ := r1 i _ (by simp [hc]; rfl)
      have hid := blkAt_len hbl
      have g4 : IntKind.i64.wrap ((i : Int) + 1) = (i : Int) + 1 := wrap64 (by omega) (by omega)
      simp [t1, t49, t50, t51, indexAddrV, elemIs, hid, hbl, hbe, hc, hrow, wireOk]
      refine selS_intro (fun hd => ?_) (fun hd => ?_)
      · simp
        refine hr3 _ _ ?_
        simp
        refine bad ?_ _ _ ⟨_, rfl⟩ (by simp)
        have : x.net.all Wire.ok = false := List.all_eq_false.2 ⟨x.net[i], by simp, by simpa using hd⟩
        simp [Box.ok, this]
      · simp [t1, t49, t50, t51, g4]
        refine hn3 (j - 1) _ _ (by omega) ⟨i + 1, _, by omega, by simp [t1], by simp [t49], by simp [t50], by simp, rfl, ?_⟩
        intro m hm
        rw [List.take_add_one, List.getElem?_eq_getElem hc, List.mem_append] at hm
        rcases hm with hm | hm
        · exact hall2 m hm
        · simp at hm
          rw [hm]
          simpa using hd
    · simp at hc
      rw [List.take_of_length_le (by omega)] at hall2
      have halln : x.net.all Wire.ok = true := List.all_eq_true.2 hall2
      have hbase : x.ok = (decide ((x.gates.length : Int) = x.ports) && logOk x.line && decide ((x.said.length : Int) ≤ 40)) := by
        have e2 : decide (x.two.length = 2) = true := by simpa using h2
        have e20 : decide (x.net.length ≤ 20) = true := by simpa using h20
        have e40 : decide (x.said.length ≤ 40) = decide ((x.said.length : Int) ≤ 40) := by rw [decide_eq_decide]; omega
        unfold Box.ok
        rw [kb, kr, e2, e20, hallm, halln, e40]
        simp
      simp [t1, t49, t50, t51]
      refine he3 _ _ _ ?_
      simp [t1, hB, builtinV, pureB, lenV]
      repeat' (first | (refine gdL_t (fun h => ?_) (fun h => ?_) <;> simp [h, t1, hB, el, builtinV, pureB, lenV]) | (refine gdL_f (fun h => ?_) (fun h => ?_) <;> simp [h, t1, hB, el, builtinV, pureB, lenV]) | (refine selS_intro (fun h => ?_) (fun h => ?_) <;> simp [h, t1, hB, el, builtinV, pureB, lenV]))
      all_goals (refine hQ _ _ _ (by simp) ?_)
      all_goals (simp [Tryz.f39, hbase])
      all_goals (clear hQ; simp_all)

theorem specNew_ok (id ports : Int) : (⟨id, List.replicate (if ports < 5 then ports else 5).toNat Port.zv⟩ : Bridge).ok = (bridgeNew id ports).2 := by
  have hl : ∀ n, (List.replicate n Port.zv).all Port.ok = true := fun n => by
    rw [List.all_eq_true]; intro p hp; rw [(List.mem_replicate.1 hp).2]; exact Port.zv_ok
  by_cases h : (1 ≤ id ∧ id ≤ 9) ∧ 1 ≤ ports ∧ ports ≤ 4
  · have h1 : bridgeNew id ports = (⟨id, List.replicate ports.toNat Port.zv⟩, true) := by unfold bridgeNew; rw [if_pos (by simp; omega)]
    rw [h1, if_pos (by omega)]
    simp only [Bridge.ok, hl, Bool.true_and, List.length_replicate, Bool.and_eq_true, decide_eq_true_eq]
    omega
  · have h1 : bridgeNew id ports = (⟨0, []⟩, false) := by unfold bridgeNew; rw [if_neg (by simp; intros; omega)]
    rw [h1, Bool.eq_false_iff]
    simp only [Bridge.ok, hl, Bool.true_and, List.length_replicate, ne_eq, Bool.and_eq_true, decide_eq_true_eq]
    intro h2
    split at h2 <;> omega
theorem specBridgeNew (H : Heap) (id ports : Int) : Runs env 60 [.int id, .int ports] H fun v H' => ∃ l fp, v = .tup [.agg l, .lf (.b (bridgeNew id ports).2)] ∧ IsBridge H' l (bridgeNew id ports).1 fp ∧ Fresh H H' fp := by
  obtain ⟨n, hn⟩ : ∃ n, n = (if ports < 5 then ports else 5).toNat := ⟨_, rfl⟩
  have hn5 : n ≤ 5 := by rw [hn]; split <;> omega
  obtain ⟨C, hC⟩ : ∃ C : Option Blk, C = some ⟨100, .wr, [[.i .i64 0, .sl none 0]]⟩ := ⟨_, rfl⟩
  have e1 := fun H a b => l1Min H a b
  refine Runs.walk ok60 Tryz.func60 rfl (by simp [Tryz.f60]) fun Q hQ => ?_
  simp only [Tryz.f60, strip, stripL, stripI, stripG, chkT, tagsB, tagsL, tagD, addT, tagA, lookN, tagOp, elmT, ty24, ty25, ty26, ty27, ty28, ty39, ty40, ty41, ty42, ty57, ty59, ty62, ty98, Nat.reduceEqDiff, if_false, reduceIte, Option.getD_some, Option.getD_none, dstAt, dstOk, Nat.reduceLT, decide_true, if_true]
  simp
  refine wpS_loop (fun j tm H' => ∃ i a' fp G, i + j = n ∧ tm 0 = .int id ∧ tm 1 = .int ports ∧ tm 4 = .ptr H.length 0 0 ∧ tm 6 = .ptr (H.length + 1) 0 0 ∧ tm 7 = .int i ∧ H' = H ++ C :: some ⟨100, .wr, [[.i .i64 id, .sl a' i]]⟩ :: G ∧
      Own (H ++ C :: some ⟨100, .wr, [[.i .i64 id, .sl a' i]]⟩ :: G) 134 a' (List.replicate i Port.z) fp ∧ ∀ k ∈ fp, H.length + 2 ≤ k) n (by rw [env_K]; omega)
    ⟨0, none, [], [], by simp, by simp, by simp, by simp, by simp, by simp, by simp [hC], Own.nil _ _, by simp⟩ ?_
  rintro j tm H' hj ⟨i, a', fp, G, hij, t0, t1, t4, t6, t7, rfl, ho, hfp⟩ Q2 hn2 he2 hr2
  simp [t0, t1, t4, t6, t7, e1]
  refine selS_intro (fun hc => ?_) (fun hc => ?_)
  · simp at hc
    have hin : i < n := by rw [hn]; omega
    have g4 : IntKind.i64.wrap ((i : Int) + 1) = (i : Int) + 1 := wrap64 (by omega) (by omega)
    simp [t0, t1, t4, t6, t7]
    refine stpL_append (rows := List.replicate i Port.z) (ys := [Port.z]) (by simpa using ho.app _) (Sl.of (by simp)) rfl rfl rfl (by simp) (by simp; omega) (by simp) rfl ?_
    intro a2 H2 f2 o2 hk2 hf2
    obtain ⟨G2, rfl, -, -⟩ := Keep.cut (L := [_, _]) hk2 (by intro k hk; have := hfp k hk; simp; omega)
    have lo2 : ∀ k ∈ f2, H.length + 2 ≤ k := fun k hk => by
      rcases hf2 k hk with h | h
      · exact hfp k h
      · simp at h; omega
    have o3 := fun y => o2.keep (Keep.set (id := H.length + 1) _ y) (fun k hk => by have := lo2 k hk; simp; omega)
    simp at o3
    simp [t0, t1, t4, t6, t7, g4]
    refine hn2 (j - 1) _ _ (by omega) ⟨i + 1, a2, f2, G2, by omega, by simp [t0], by simp [t1], by simp [t4], by simp [t6], by simp, rfl, ?_, lo2⟩
    rw [List.replicate_succ']
    exact o3 _
  · simp at hc
    have hin : i = n := by rw [hn]; omega
    subst hin
    have hd : RdBridge (H ++ C :: some ⟨100, .wr, [[.i .i64 id, .sl a' i]]⟩ :: G) [.i .i64 id, .sl a' i] ⟨id, List.replicate i Port.zv⟩ := ⟨a', by simp [Bridge.enc], by simpa [Port.enc] using ho.sl⟩
    have e2 := specBridgeOk_is hd (by simp [Bridge.sz]; omega)
    have hok := specNew_ok id ports
    rw [← hn] at hok
    rw [hok] at e2
    simp [t0, t1, t4, t6, t7]
    refine he2 _ _ _ ?_
    simp [t4, t6, e2]
    refine selS_intro (fun hd => ?_) (fun hd => ?_)
    · simp at hd
      simp [t4, t6, hC]
      refine hQ _ _ _ (by simp) ?_
      have hb : bridgeNew id ports = (⟨0, []⟩, false) := by
        unfold bridgeNew at hd ⊢
        split at hd
        · cases hd
        · rename_i h; rw [if_neg h]
      simp [Tryz.f60, hb, t4]
      exact ⟨[], ⟨none, rfl, Own.nil _ _⟩, Fresh.refl _⟩
    · simp at hd
      simp [t4, t6, hC]
      refine hQ _ _ _ (by simp) ?_
      have hb : bridgeNew id ports = (⟨id, List.replicate i Port.zv⟩, true) := by
        unfold bridgeNew at hd ⊢
        split at hd
        · rename_i h
          rw [if_pos h]
          simp at h
          have : ports.toNat = i := by rw [hn, if_pos (by omega)]
          rw [this]
        · cases hd
      simp [Tryz.f60, hb, t4]
      have o5 := fun y => ho.keep (Keep.set (id := H.length) _ y) (fun k hk => by have := hfp k hk; simp; omega)
      simp at o5
      exact IsBridge.leave ⟨a', by simp [Bridge.enc], by simpa [Port.enc] using o5 _⟩ (Fresh.app H _ fun k hk => by have := hfp k hk; omega) (by simp)

theorem l14Net {H : Heap} {l : List Lf} {x : Box} (h : RdBox H l x) (hn : x.sz ≤ 2000000) : run env 63 [.agg l] H = some (.bool (x.net.all Wire.ok && decide ((x.net.length : Int) ≤ 20)), H) := by
  obtain ⟨q0, _, q2, q3, q4, rfl, -, ⟨a1, rfl, r1⟩, -, -, -⟩ := h
  unfold Box.sz at hn
  have e1 := fun H x => specInOk H x
  have e2 := fun H (b1 b2 c1 c2 c3 c4 b4 : Int) (b5 : Bool) => specInOk H ⟨b1, b2, ⟨c1, c2, c3, c4⟩, b4, b5⟩
  simp only [In.enc] at e2
  obtain ⟨B, hB⟩ : ∃ B : Option Blk, B = some ⟨44, .wr, [x.enc q0 (.sl a1 x.net.length) q2 q3 q4]⟩ := ⟨_, rfl⟩
  refine run_walk ok63 Tryz.func63 rfl (by simp [Tryz.f63]) fun Q hQ => ?_
  simp only [Tryz.f63, strip, stripL, stripI, stripG, chkT, tagsB, tagsL, tagD, addT, tagA, lookN, tagOp, elmT, ty24, ty25, ty26, ty27, ty28, ty39, ty40, ty41, ty42, ty57, ty59, ty62, ty98, Nat.reduceEqDiff, if_false, reduceIte, Option.getD_some, Option.getD_none, dstAt, dstOk, Nat.reduceLT, decide_true, if_true]
  simp
  refine wpS_loop (fun j tm H' => ∃ i T, i + j = x.net.length ∧ tm 1 = .ptr H.length 0 0 ∧ tm 3 = .int i ∧ H' = H ++ B :: T ∧ ∀ m ∈ x.net.take i, m.ok = true) x.net.length (by rw [env_K]; omega)
    ⟨0, _, by simp, by simp, by simp, by simp [hB]; rfl, by simp⟩ ?_
  rintro j tm H' hj ⟨i, T, hij, t1, t3, rfl, hall⟩ Q2 hn2 he2 hr2
  simp [t1, t3, hB, Box.enc, builtinV, pureB, lenV]
  refine selS_intro (fun hc => ?_) (fun hc => ?_)
  · simp at hc
    obtain ⟨id2, r, bl, rfl, hbl, hbe, hrow⟩ := r1 i _ (by simp [hc]; rfl)
    have hid := blkAt_len hbl
    have g4 : IntKind.i64.wrap ((i : Int) + 1) = (i : Int) + 1 := wrap64 (by omega) (by omega)
    have hbad : x.net[i].ok = false → ∀ tm, tm 2 = .bool false → ∀ T', Q2 .ret tm (H ++ some ⟨44, .wr, [x.enc q0 (.sl (some (id2, r)) x.net.length) q2 q3 q4]⟩ :: T') := by
      intro hx tm h2 T'
      refine hr2 _ _ ?_
      simp
      refine hQ _ _ _ (by simp) ?_
      have : x.net.all Wire.ok = false := List.all_eq_false.2 ⟨x.net[i], by simp, by simp [hx]⟩
      simp [Tryz.f63, h2, this]
    have hgood : x.net[i].ok = true → ∀ tm, tm 1 = .ptr H.length 0 0 → tm 3 = .int ((i : Int) + 1) → ∀ T', Q2 .normal tm (H ++ some ⟨44, .wr, [x.enc q0 (.sl (some (id2, r)) x.net.length) q2 q3 q4]⟩ :: T') := by
      intro hx tm a1 a3 T'
      refine hn2 (j - 1) _ _ (by omega) ⟨i + 1, T', by omega, a1, by simpa using a3, by rw [hB], ?_⟩
      intro m hm
      rw [List.take_add_one, List.getElem?_eq_getElem hc, List.mem_append] at hm
      rcases hm with hm | hm
      · exact hall m hm
      · simp at hm
        rw [hm]
        exact hx
    simp only [Box.enc] at hbad hgood
    obtain ⟨w, hw⟩ : ∃ w, w = x.net[i] := ⟨_, rfl⟩
    rw [← hw] at hbad hgood
    obtain ⟨w1, w2, w3, w4, ⟨b1, b2, ⟨c1, c2, c3, c4⟩, b4, b5⟩⟩ := w
    simp [t1, t3, indexAddrV, elemIs, hid, hbl, hbe, hc, hrow, ← hw, Wire.enc, l1In]
    repeat' (first | (refine gdL_t (fun h => ?_) (fun h => ?_) <;> simp [h, t1, t3, l1In, e2, g4]) | (refine gdL_f (fun h => ?_) (fun h => ?_) <;> simp [h, t1, t3, l1In, e2, g4]) | (refine selS_intro (fun h => ?_) (fun h => ?_) <;> simp [h, t1, t3, l1In, e2, g4]))
    iterate 3 (refine hbad ?_ _ (by simp) _; rw [Wire.ok]; clear hbad hgood hQ hn2 he2 hr2 e1 e2; simp_all; try omega)
    · refine hbad ?_ _ (by simp) _
      rw [Wire.ok]; clear hbad hgood hQ hn2 he2 hr2 e1 e2; simp_all; try (intros; simp_all)
    · refine hgood ?_ _ (by simp [t1]) (by simp) _
      rw [Wire.ok]; clear hbad hgood hQ hn2 he2 hr2 e1 e2; simp_all; try (intros; simp_all)
    · refine hbad ?_ _ (by simp) _
      rw [Wire.ok]; clear hbad hgood hQ hn2 he2 hr2 e1 e2; simp_all; try (intros; simp_all)
    · refine hgood ?_ _ (by simp [t1]) (by simp) _
      rw [Wire.ok]; clear hbad hgood hQ hn2 he2 hr2 e1 e2; simp_all; try (intros; simp_all)
  · simp at hc
    rw [List.take_of_length_le (by omega)] at hall
    have halln : x.net.all Wire.ok = true := List.all_eq_true.2 hall
    simp [t1, t3]
    refine he2 _ _ _ ?_
    simp [t1, hB, Box.enc, builtinV, pureB, lenV]
    refine hQ _ _ _ (by simp) ?_
    simp [Tryz.f63, halln]

theorem specBoxOk_is {H : Heap} {l : List Lf} {x : Box} (h : RdBox H l x) (hn : x.sz ≤ 2000000) : run env 27 [.agg l] H = some (.bool x.ok, H) := by
  have hR := h
  obtain ⟨_, _, _, _, _, rfl, ⟨a0, rws, rfl, hs, hlen, hat⟩, ⟨a1, rfl, r1⟩, ⟨a2, rfl, r2⟩, ⟨a3, rfl, r3⟩, ⟨a4, rfl, r4⟩⟩ := h
  have hn0 := hn
  unfold Box.sz at hn
  have hl0 := MinderS.sz_len x.two
  have er := fun H => specRegOk H x.reg
  have el := fun G => specLogOk (H ++ G) a3 x.line (r3.app G) (by omega)
  have en := fun G => l14Net (hR.app G) hn0
  simp only [Reg.enc] at er
  simp only [Box.enc] at en
  refine run_walk ok27 Tryz.func27 rfl (by simp [Tryz.f27]) fun Q hQ => ?_
  simp only [Tryz.f27, strip, stripL, stripI, stripG, chkT, tagsB, tagsL, tagD, addT, tagA, lookN, tagOp, elmT, ty24, ty25, ty26, ty27, ty28, ty39, ty40, ty41, ty42, ty57, ty59, ty62, ty98, Nat.reduceEqDiff, if_false, reduceIte, Option.getD_some, Option.getD_none, dstAt, dstOk, Nat.reduceLT, decide_true, if_true]
  have bad : x.ok = false → ∀ tm H', (∃ G, H' = H ++ G) → tm 2 = .bool false → Q .ret tm H' := by
    rintro hx tm _ ⟨G, rfl⟩ h4
    refine hQ _ _ _ (by simp) ?_
    simp [Tryz.f27, h4, hx]
  simp [Box.enc]
  refine stpL_runs (specBridgeNew _ _ _) ?_
  rintro _ _ ⟨lb, fb, rfl, ob, ⟨⟨G0, rfl⟩, -⟩⟩
  have hbL := ob.len
  by_cases h2 : x.two.length = 2
  · obtain ⟨m0, m1, hm⟩ : ∃ m0 m1, x.two = [m0, m1] := by
      match hx : x.two, h2 with
      | [m0, m1], _ => exact ⟨m0, m1, rfl⟩
    obtain ⟨l0, l1, hrw⟩ : ∃ l0 l1, rws = [l0, l1] := by
      match hx : rws, (by rw [hlen, h2] : rws.length = 2) with
      | [l0, l1], _ => exact ⟨l0, l1, rfl⟩
    subst hrw
    rw [hm] at hat
    obtain ⟨id2, r, bl, rfl, hbl, hbe, hrow0⟩ := hs 0 l0 rfl
    obtain ⟨id3, r3', bl3, hx3, hbl3, hbe3, hrow1⟩ := hs 1 l1 rfl
    cases hx3
    rw [hbl] at hbl3
    injection hbl3 with hbl3
    subst hbl3
    have hid := blkAt_len hbl
    have he0 := hat 0 l0 m0 rfl rfl
    have he1 := hat 1 l1 m1 rfl rfl
    have hs0 := MinderS.sz_at (xs := x.two) (x := m0) (by simp [hm])
    have hs1 := MinderS.sz_at (xs := x.two) (x := m1) (by simp [hm])
    have e0 := fun G => specMinderOk_is (he0.app G) (by omega)
    have e1 := fun G => specMinderOk_is (he1.app G) (by omega)
    have hL0 := he0.len
    have hT0 : l0.take l0.length = l0 := List.take_length
    rw [hL0] at hT0
    have hL1 := he1.len
    have hT1 : l1.take l1.length = l1 := List.take_length
    rw [hL1] at hT1
    have hbase : x.ok = ((bridgeNew x.id x.ports).2 && x.reg.ok && m0.ok && m1.ok && (x.net.all Wire.ok && decide ((x.net.length : Int) ≤ 20)) && decide ((x.gates.length : Int) = x.ports) && logOk x.line && decide ((x.said.length : Int) ≤ 40)) := by
      have e20 : decide (x.net.length ≤ 20) = decide ((x.net.length : Int) ≤ 20) := by rw [decide_eq_decide]; omega
      have e40 : decide (x.said.length ≤ 40) = decide ((x.said.length : Int) ≤ 40) := by rw [decide_eq_decide]; omega
      have ea : x.two.all Minder.ok = (m0.ok && m1.ok) := by rw [hm]; simp
      have e2 : decide (x.two.length = 2) = true := by simpa using h2
      unfold Box.ok
      rw [e20, e40, ea, e2]
      cases (bridgeNew x.id x.ports).2 <;> cases x.reg.ok <;> cases m0.ok <;> cases m1.ok <;> cases x.net.all Wire.ok <;> cases decide ((x.net.length : Int) ≤ 20) <;> rfl
    simp only [Nat.add_zero] at hrow0
    simp only [h2] at en
    simp [hbL, er, h2, builtinV, pureB, lenV, indexAddrV, elemIs, hid, hbl, hbe, hrow0, hrow1, hL0, hT0, hL1, hT1, e0, e1]
    repeat' (first | (refine gdL_t (fun h => ?_) (fun h => ?_) <;> simp [h, hbL, er, h2, builtinV, pureB, lenV, indexAddrV, elemIs, hid, hbl, hbe, hrow0, hrow1, hL0, hT0, hL1, hT1, e0, e1, en, el]) | (refine gdL_f (fun h => ?_) (fun h => ?_) <;> simp [h, hbL, er, h2, builtinV, pureB, lenV, indexAddrV, elemIs, hid, hbl, hbe, hrow0, hrow1, hL0, hT0, hL1, hT1, e0, e1, en, el]) | (refine selS_intro (fun h => ?_) (fun h => ?_) <;> simp [h, hbL, er, h2, builtinV, pureB, lenV, indexAddrV, elemIs, hid, hbl, hbe, hrow0, hrow1, hL0, hT0, hL1, hT1, e0, e1, en, el]))
    all_goals (refine hQ _ _ _ (by simp) ?_)
    all_goals (rw [hbase])
    all_goals (clear hbase; simp [Tryz.f27])
    all_goals (clear hQ; simp_all)
    all_goals (try omega)
    all_goals (try (intro ha hb; have := h ha; omega))
  · have hx : x.ok = false := by simp [Box.ok, h2]
    have h2i : ¬ (x.two.length : Int) = 2 := by omega
    simp [hbL, er, h2i, builtinV, pureB, lenV]
    repeat' (first | (refine gdL_t (fun h => ?_) (fun h => ?_) <;> simp [h, hbL, er, h2i, builtinV, pureB, lenV]) | (refine gdL_f (fun h => ?_) (fun h => ?_) <;> simp [h, hbL, er, h2i, builtinV, pureB, lenV]) | (refine selS_intro (fun h => ?_) (fun h => ?_) <;> simp [h, hbL, er, h2i, builtinV, pureB, lenV]))
    all_goals exact bad hx _ _ ⟨_, rfl⟩ (by simp)

def hopsOk (h : Int) : Bool := decide (0 ≤ h) && decide (h ≤ 8)
def claimP (p : Port) (v : Vec) (h : Int) : Port :=
  if (p.ok && p.up && v.ok && hopsOk h) = false then p
  else if (p.has && better p.vec v && !(decide (v.bridge = p.vec.bridge) && decide (v.port = p.vec.port))) = true then p
  else ⟨p.up, true, v, h, 3, p.role, p.wait, p.opn⟩
theorem claimP_ok {p : Port} (v : Vec) (h : Int) (hp : p.ok = true) : (claimP p v h).ok = true := by
  unfold claimP
  split
  · exact hp
  · rename_i h1
    split
    · exact hp
    · have h2 : p.ok = true ∧ p.up = true ∧ v.ok = true ∧ hopsOk h = true := by
        cases a : p.ok <;> cases b : p.up <;> cases c : v.ok <;> cases d : hopsOk h <;> simp_all
      obtain ⟨-, h3, h4, h5⟩ := h2
      simp [hopsOk] at h5
      simp [Port.ok] at hp ⊢
      simp_all
theorem claimP_up (p : Port) (v : Vec) (h : Int) : (claimP p v h).up = p.up := by unfold claimP; split <;> (try split) <;> rfl

theorem implClaim (H : Heap) (p : Port) (v : Vec) (ho : Int) : run env 157 [.agg p.enc, .agg v.enc, .int ho] H = some (.agg (claimP p v ho).enc, H) := by
  obtain ⟨a1, a2, ⟨b1, b2, b3, b4⟩, a4, a5, a6, a7, a8⟩ := p
  obtain ⟨c1, c2, c3, c4⟩ := v
  have e1 := fun H => implVecOk H ⟨c1, c2, c3, c4⟩
  have e2 := fun H => implPortOk H ⟨a1, a2, ⟨b1, b2, b3, b4⟩, a4, a5, a6, a7, a8⟩
  have e3 := fun H => implBetter H ⟨b1, b2, b3, b4⟩ ⟨c1, c2, c3, c4⟩
  simp only [Vec.enc, Port.enc] at e1 e2 e3
  have hcl : claimP ⟨a1, a2, ⟨b1, b2, b3, b4⟩, a4, a5, a6, a7, a8⟩ ⟨c1, c2, c3, c4⟩ ho = if ((⟨a1, a2, ⟨b1, b2, b3, b4⟩, a4, a5, a6, a7, a8⟩ : Port).ok && a1 && (⟨c1, c2, c3, c4⟩ : Vec).ok && (decide (0 ≤ ho) && decide (ho ≤ 8))) = false then ⟨a1, a2, ⟨b1, b2, b3, b4⟩, a4, a5, a6, a7, a8⟩
    else if (a2 && better ⟨b1, b2, b3, b4⟩ ⟨c1, c2, c3, c4⟩ && !(decide (c3 = b3) && decide (c4 = b4))) = true then ⟨a1, a2, ⟨b1, b2, b3, b4⟩, a4, a5, a6, a7, a8⟩ else ⟨a1, true, ⟨c1, c2, c3, c4⟩, ho, 3, a6, a7, a8⟩ := rfl
  rw [hcl]
  clear hcl
  have e4 := fun H => isHops H ho
  generalize (decide (0 ≤ ho) && decide (ho ≤ 8)) = hok at e4 ⊢
  generalize (⟨a1, a2, ⟨b1, b2, b3, b4⟩, a4, a5, a6, a7, a8⟩ : Port).ok = pok at e2 ⊢
  generalize (⟨c1, c2, c3, c4⟩ : Vec).ok = vok at e1 ⊢
  generalize better ⟨b1, b2, b3, b4⟩ ⟨c1, c2, c3, c4⟩ = bet at e3 ⊢
  refine run_walk ok157 Tryz.func157 rfl (by simp [Tryz.f157]) fun Q hQ => ?_
  simp only [Tryz.f157, strip, stripL, stripI, stripG, chkT, tagsB, tagsL, tagD, addT, tagA, lookN, tagOp, elmT, ty24, ty25, ty26, ty27, ty28, ty39, ty40, ty41, ty42, ty57, ty59, ty62, ty98, Nat.reduceEqDiff, if_false, reduceIte, Option.getD_some, Option.getD_none, dstAt, dstOk, Nat.reduceLT, decide_true, if_true]
  simp [Port.enc, Vec.enc, e4, e1, e2, e3]
  repeat' (first | (refine gdL_t (fun h => ?_) (fun h => ?_) <;> simp [h, e4, e1, e2, e3]) | (refine gdL_f (fun h => ?_) (fun h => ?_) <;> simp [h, e4, e1, e2, e3]) | (refine selS_intro (fun h => ?_) (fun h => ?_) <;> simp [h, e4, e1, e2, e3]))
  all_goals (refine hQ _ _ _ (by simp) ?_)
  all_goals (clear hQ e1 e2 e3 e4; simp [Tryz.f157])
  all_goals ((repeat' split) <;> simp_all [Port.enc, Vec.enc] <;> omega)

theorem specClaim (H : Heap) (p : Port) (v : Vec) (ho : Int) : run env 144 [.agg p.enc, .agg v.enc, .int ho] H = some (.agg (claimP p v ho).enc, H) := by
  obtain ⟨a1, a2, ⟨b1, b2, b3, b4⟩, a4, a5, a6, a7, a8⟩ := p
  obtain ⟨c1, c2, c3, c4⟩ := v
  have e1 := fun H => specVecOk H ⟨c1, c2, c3, c4⟩
  have e2 := fun H => specPortOk H ⟨a1, a2, ⟨b1, b2, b3, b4⟩, a4, a5, a6, a7, a8⟩
  have e3 := fun H => specBetter H ⟨b1, b2, b3, b4⟩ ⟨c1, c2, c3, c4⟩
  simp only [Vec.enc, Port.enc] at e1 e2 e3
  have hcl : claimP ⟨a1, a2, ⟨b1, b2, b3, b4⟩, a4, a5, a6, a7, a8⟩ ⟨c1, c2, c3, c4⟩ ho = if ((⟨a1, a2, ⟨b1, b2, b3, b4⟩, a4, a5, a6, a7, a8⟩ : Port).ok && a1 && (⟨c1, c2, c3, c4⟩ : Vec).ok && (decide (0 ≤ ho) && decide (ho ≤ 8))) = false then ⟨a1, a2, ⟨b1, b2, b3, b4⟩, a4, a5, a6, a7, a8⟩
    else if (a2 && better ⟨b1, b2, b3, b4⟩ ⟨c1, c2, c3, c4⟩ && !(decide (c3 = b3) && decide (c4 = b4))) = true then ⟨a1, a2, ⟨b1, b2, b3, b4⟩, a4, a5, a6, a7, a8⟩ else ⟨a1, true, ⟨c1, c2, c3, c4⟩, ho, 3, a6, a7, a8⟩ := rfl
  rw [hcl]
  clear hcl
  have e4 := fun H => l1In H ho 0 8
  generalize (decide (0 ≤ ho) && decide (ho ≤ 8)) = hok at e4 ⊢
  generalize (⟨a1, a2, ⟨b1, b2, b3, b4⟩, a4, a5, a6, a7, a8⟩ : Port).ok = pok at e2 ⊢
  generalize (⟨c1, c2, c3, c4⟩ : Vec).ok = vok at e1 ⊢
  generalize better ⟨b1, b2, b3, b4⟩ ⟨c1, c2, c3, c4⟩ = bet at e3 ⊢
  refine run_walk ok144 Tryz.func144 rfl (by simp [Tryz.f144]) fun Q hQ => ?_
  simp only [Tryz.f144, strip, stripL, stripI, stripG, chkT, tagsB, tagsL, tagD, addT, tagA, lookN, tagOp, elmT, ty24, ty25, ty26, ty27, ty28, ty39, ty40, ty41, ty42, ty57, ty59, ty62, ty98, Nat.reduceEqDiff, if_false, reduceIte, Option.getD_some, Option.getD_none, dstAt, dstOk, Nat.reduceLT, decide_true, if_true]
  simp [Port.enc, Vec.enc, e4, e1, e2, e3]
  repeat' (first | (refine gdL_t (fun h => ?_) (fun h => ?_) <;> simp [h, e4, e1, e2, e3]) | (refine gdL_f (fun h => ?_) (fun h => ?_) <;> simp [h, e4, e1, e2, e3]) | (refine selS_intro (fun h => ?_) (fun h => ?_) <;> simp [h, e4, e1, e2, e3]))
  all_goals (refine hQ _ _ _ (by simp) ?_)
  all_goals (clear hQ e1 e2 e3 e4; simp [Tryz.f144])
  all_goals ((repeat' split) <;> simp_all [Port.enc, Vec.enc] <;> omega)

def fadeP (p : Port) : Port := if (p.has && p.ok) = false then p else if p.left = 1 then ⟨p.up, false, Vec.zv, 0, 0, p.role, p.wait, p.opn⟩ else ⟨p.up, p.has, p.vec, p.hops, p.left - 1, p.role, p.wait, p.opn⟩
theorem fadeP_ok {p : Port} (hp : p.ok = true) : (fadeP p).ok = true := by
  unfold fadeP
  split
  · exact hp
  · rename_i h1
    simp [Port.ok] at h1 hp ⊢
    split <;> simp_all <;> omega
theorem fadeP_rest (p : Port) : (fadeP p).up = p.up ∧ (fadeP p).role = p.role ∧ (fadeP p).wait = p.wait ∧ (fadeP p).opn = p.opn := by
  unfold fadeP; split <;> (try split) <;> simp

theorem implFade (H : Heap) (p : Port) : run env 164 [.agg p.enc] H = some (.agg (fadeP p).enc, H) := by
  obtain ⟨a1, a2, ⟨b1, b2, b3, b4⟩, a4, a5, a6, a7, a8⟩ := p
  have e2 := fun H => implPortOk H ⟨a1, a2, ⟨b1, b2, b3, b4⟩, a4, a5, a6, a7, a8⟩
  have w : (⟨a1, a2, ⟨b1, b2, b3, b4⟩, a4, a5, a6, a7, a8⟩ : Port).ok = true → a2 = true → IntKind.i64.wrap (a5 - 1) = a5 - 1 := fun h h2 => by
    simp [Port.ok, h2] at h
    exact wrap64 (by omega) (by omega)
  have w2 : a5 - 1 = 0 ↔ a5 = 1 := by omega
  simp only [Vec.enc, Port.enc] at e2
  refine run_walk ok164 Tryz.func164 rfl (by simp [Tryz.f164]) fun Q hQ => ?_
  simp only [Tryz.f164, strip, stripL, stripI, stripG, chkT, tagsB, tagsL, tagD, addT, tagA, lookN, tagOp, elmT, ty24, ty25, ty26, ty27, ty28, ty39, ty40, ty41, ty42, ty57, ty59, ty62, ty98, Nat.reduceEqDiff, if_false, reduceIte, Option.getD_some, Option.getD_none, dstAt, dstOk, Nat.reduceLT, decide_true, if_true]
  simp [Port.enc, Vec.enc, e2]
  cases a2
  · simp [e2]
    refine hQ _ _ _ (by simp) ?_
    simp [Tryz.f164, Port.enc, fadeP]
  cases hok : (⟨a1, true, ⟨b1, b2, b3, b4⟩, a4, a5, a6, a7, a8⟩ : Port).ok
  · simp [e2, hok]
    refine hQ _ _ _ (by simp) ?_
    simp [Tryz.f164, Port.enc, fadeP, hok]
  · rw [hok] at e2
    simp [e2, w hok rfl, w2]
    by_cases h1 : a5 = 1
    · subst h1
      simp
      refine hQ _ _ _ (by simp) ?_
      simp [Tryz.f164, Port.enc, fadeP, hok]
    · simp [h1]
      refine hQ _ _ _ (by simp) ?_
      simp [Tryz.f164, Port.enc, fadeP, hok, h1]

theorem specFade (H : Heap) (p : Port) : run env 152 [.agg p.enc] H = some (.agg (fadeP p).enc, H) := by
  obtain ⟨a1, a2, ⟨b1, b2, b3, b4⟩, a4, a5, a6, a7, a8⟩ := p
  have e2 := fun H => specPortOk H ⟨a1, a2, ⟨b1, b2, b3, b4⟩, a4, a5, a6, a7, a8⟩
  have w : (⟨a1, a2, ⟨b1, b2, b3, b4⟩, a4, a5, a6, a7, a8⟩ : Port).ok = true → a2 = true → IntKind.i64.wrap (a5 - 1) = a5 - 1 := fun h h2 => by
    simp [Port.ok, h2] at h
    exact wrap64 (by omega) (by omega)
  have w2 : a5 - 1 = 0 ↔ a5 = 1 := by omega
  simp only [Vec.enc, Port.enc] at e2
  refine run_walk ok152 Tryz.func152 rfl (by simp [Tryz.f152]) fun Q hQ => ?_
  simp only [Tryz.f152, strip, stripL, stripI, stripG, chkT, tagsB, tagsL, tagD, addT, tagA, lookN, tagOp, elmT, ty24, ty25, ty26, ty27, ty28, ty39, ty40, ty41, ty42, ty57, ty59, ty62, ty98, Nat.reduceEqDiff, if_false, reduceIte, Option.getD_some, Option.getD_none, dstAt, dstOk, Nat.reduceLT, decide_true, if_true]
  simp [Port.enc, Vec.enc, e2]
  cases a2
  · skip
    repeat' (first | (refine gdL_t (fun h => ?_) (fun h => ?_) <;> simp [h, e2]) | (refine gdL_f (fun h => ?_) (fun h => ?_) <;> simp [h, e2]) | (refine selS_intro (fun h => ?_) (fun h => ?_) <;> simp [h, e2]))
    all_goals (refine hQ _ _ _ (by simp) ?_)
    all_goals (simp [Tryz.f152, Port.enc, fadeP])
  cases hok : (⟨a1, true, ⟨b1, b2, b3, b4⟩, a4, a5, a6, a7, a8⟩ : Port).ok
  · simp [e2, hok]
    refine hQ _ _ _ (by simp) ?_
    simp [Tryz.f152, Port.enc, fadeP, hok]
  · rw [hok] at e2
    simp [e2, w hok rfl, w2]
    by_cases h1 : a5 = 1
    · subst h1
      simp
      refine hQ _ _ _ (by simp) ?_
      simp [Tryz.f152, Port.enc, fadeP, hok]
    · simp [h1]
      refine hQ _ _ _ (by simp) ?_
      simp [Tryz.f152, Port.enc, fadeP, hok, h1]

def turnW (p : Port) (role : Int) : Int := if role = 3 then 0 else if p.role = 3 then 4 else p.wait
def turnP (p : Port) (role : Int) : Port := if (p.ok && p.up && (decide (1 ≤ role) && decide (role ≤ 3))) = false then p else ⟨p.up, p.has, p.vec, p.hops, p.left, role, turnW p role, openBy role (turnW p role)⟩
theorem turnP_ok {p : Port} (role : Int) (hp : p.ok = true) : (turnP p role).ok = true := by
  unfold turnP
  split
  · exact hp
  · rename_i h1
    have hw : 0 ≤ turnW p role ∧ turnW p role ≤ 4 := by
      simp [Port.ok] at hp
      unfold turnW; split
      · omega
      · split <;> omega
    simp [Port.ok] at h1 hp ⊢
    simp_all
    omega
theorem turnP_rest (p : Port) (role : Int) : (turnP p role).up = p.up ∧ (turnP p role).has = p.has ∧ (turnP p role).vec = p.vec ∧ (turnP p role).hops = p.hops ∧ (turnP p role).left = p.left := by
  unfold turnP; split <;> simp

theorem implTurn (H : Heap) (p : Port) (role : Int) : run env 166 [.agg p.enc, .int role] H = some (.agg (turnP p role).enc, H) := by
  obtain ⟨a1, a2, ⟨b1, b2, b3, b4⟩, a4, a5, a6, a7, a8⟩ := p
  have e2 := fun H => implPortOk H ⟨a1, a2, ⟨b1, b2, b3, b4⟩, a4, a5, a6, a7, a8⟩
  have e4 := fun H a1 a2 b1 b2 b3 b4 a4 a5 a6 a7 a8 => isOpenBy H ⟨a1, a2, ⟨b1, b2, b3, b4⟩, a4, a5, a6, a7, a8⟩
  simp only [Vec.enc, Port.enc] at e2 e4
  have e5 := fun H => inRange H role 1 3
  unfold turnP
  generalize (decide (1 ≤ role) && decide (role ≤ 3)) = rok at e5 ⊢
  refine run_walk ok166 Tryz.func166 rfl (by simp [Tryz.f166]) fun Q hQ => ?_
  simp only [Tryz.f166, strip, stripL, stripI, stripG, chkT, tagsB, tagsL, tagD, addT, tagA, lookN, tagOp, elmT, ty24, ty25, ty26, ty27, ty28, ty39, ty40, ty41, ty42, ty57, ty59, ty62, ty98, Nat.reduceEqDiff, if_false, reduceIte, Option.getD_some, Option.getD_none, dstAt, dstOk, Nat.reduceLT, decide_true, if_true]
  simp [Port.enc, Vec.enc, e5, e2]
  repeat' (first | (refine gdL_t (fun h => ?_) (fun h => ?_) <;> simp [h, e5, e2, e4]) | (refine gdL_f (fun h => ?_) (fun h => ?_) <;> simp [h, e5, e2, e4]) | (refine selS_intro (fun h => ?_) (fun h => ?_) <;> simp [h, e5, e2, e4]))
  all_goals (refine hQ _ _ _ (by simp) ?_)
  all_goals (clear hQ e2 e4 e5; simp [Tryz.f166]; unfold turnW; (repeat' split) <;> simp_all [Port.enc, Vec.enc])

theorem l7Open (H : Heap) (p : Port) : run env 153 [.agg p.enc] H = some (.agg ({ p with opn := openBy p.role p.wait } : Port).enc, H) := by
  obtain ⟨a1, a2, ⟨b1, b2, b3, b4⟩, a4, a5, a6, a7, a8⟩ := p
  refine run_walk ok153 Tryz.func153 rfl (by simp [Tryz.f153]) fun Q hQ => ?_
  simp only [Tryz.f153, strip, stripL, stripI, stripG, chkT, tagsB, tagsL, tagD, addT, tagA, lookN, tagOp, elmT, ty24, ty25, ty26, ty27, ty28, ty39, ty40, ty41, ty42, ty57, ty59, ty62, ty98, Nat.reduceEqDiff, if_false, reduceIte, Option.getD_some, Option.getD_none, dstAt, dstOk, Nat.reduceLT, decide_true, if_true]
  simp [Port.enc]
  repeat' (first | (refine gdL_t (fun h => ?_) (fun h => ?_) <;> simp [h]) | (refine gdL_f (fun h => ?_) (fun h => ?_) <;> simp [h]) | (refine selS_intro (fun h => ?_) (fun h => ?_) <;> simp [h]))
  all_goals (refine hQ _ _ _ (by simp) ?_)
  all_goals (clear hQ; simp_all [Tryz.f153, openBy, Port.enc])

theorem specTurn (H : Heap) (p : Port) (role : Int) : run env 154 [.agg p.enc, .int role] H = some (.agg (turnP p role).enc, H) := by
  obtain ⟨a1, a2, ⟨b1, b2, b3, b4⟩, a4, a5, a6, a7, a8⟩ := p
  have e2 := fun H => specPortOk H ⟨a1, a2, ⟨b1, b2, b3, b4⟩, a4, a5, a6, a7, a8⟩
  have e4 := fun H a1 a2 b1 b2 b3 b4 a4 a5 a6 a7 a8 => l7Open H ⟨a1, a2, ⟨b1, b2, b3, b4⟩, a4, a5, a6, a7, a8⟩
  simp only [Vec.enc, Port.enc] at e2 e4
  have e5 := fun H => l1In H role 1 3
  unfold turnP
  generalize (decide (1 ≤ role) && decide (role ≤ 3)) = rok at e5 ⊢
  refine run_walk ok154 Tryz.func154 rfl (by simp [Tryz.f154]) fun Q hQ => ?_
  simp only [Tryz.f154, strip, stripL, stripI, stripG, chkT, tagsB, tagsL, tagD, addT, tagA, lookN, tagOp, elmT, ty24, ty25, ty26, ty27, ty28, ty39, ty40, ty41, ty42, ty57, ty59, ty62, ty98, Nat.reduceEqDiff, if_false, reduceIte, Option.getD_some, Option.getD_none, dstAt, dstOk, Nat.reduceLT, decide_true, if_true]
  simp [Port.enc, Vec.enc, e5, e2]
  repeat' (first | (refine gdL_t (fun h => ?_) (fun h => ?_) <;> simp [h, e5, e2, e4]) | (refine gdL_f (fun h => ?_) (fun h => ?_) <;> simp [h, e5, e2, e4]) | (refine selS_intro (fun h => ?_) (fun h => ?_) <;> simp [h, e5, e2, e4]))
  all_goals (refine hQ _ _ _ (by simp) ?_)
  all_goals (clear hQ e2 e4 e5; simp [Tryz.f154]; unfold turnW; (repeat' split) <;> simp_all [Port.enc, Vec.enc])

/-- What a tick makes of a port that is right. -/
def tickW (q : Port) : Int := if (decide (q.role = 1) || decide (q.role = 2)) && decide (0 < q.wait) then q.wait - 1 else q.wait
def tickP (p : Port) : Port := ⟨(fadeP p).up, (fadeP p).has, (fadeP p).vec, (fadeP p).hops, (fadeP p).left, (fadeP p).role, tickW (fadeP p), openBy (fadeP p).role (tickW (fadeP p))⟩
theorem tickP_ok {p : Port} (hp : p.ok = true) : (tickP p).ok = true := by
  have h := fadeP_ok hp
  have hw : 0 ≤ tickW (fadeP p) ∧ tickW (fadeP p) ≤ 4 := by
    simp [Port.ok] at h
    unfold tickW; split <;> simp_all <;> omega
  unfold tickP
  simp [Port.ok] at h ⊢
  simp_all

theorem l8Tick (H : Heap) (p : Port) (hp : p.ok = true) : run env 145 [.agg p.enc] H = some (.agg (tickP p).enc, H) := by
  have e1 := fun H => specFade H p
  have hok := fadeP_ok hp
  obtain ⟨q, hq⟩ : ∃ q, q = fadeP p := ⟨_, rfl⟩
  have hx : tickP p = ⟨q.up, q.has, q.vec, q.hops, q.left, q.role, tickW q, openBy q.role (tickW q)⟩ := by rw [hq]; rfl
  rw [hx]
  rw [← hq] at e1 hok
  clear hx hq hp
  obtain ⟨a1, a2, ⟨b1, b2, b3, b4⟩, a4, a5, a6, a7, a8⟩ := p
  obtain ⟨q1, q2, ⟨c1, c2, c3, c4⟩, q4, q5, q6, q7, q8⟩ := q
  have w : IntKind.i64.wrap (q7 - 1) = q7 - 1 := by
    simp [Port.ok] at hok
    exact wrap64 (by omega) (by omega)
  have e4 := fun H a1 a2 b1 b2 b3 b4 a4 a5 a6 a7 a8 => l7Open H ⟨a1, a2, ⟨b1, b2, b3, b4⟩, a4, a5, a6, a7, a8⟩
  simp only [Vec.enc, Port.enc] at e1 e4
  refine run_walk ok145 Tryz.func145 rfl (by simp [Tryz.f145]) fun Q hQ => ?_
  simp only [Tryz.f145, strip, stripL, stripI, stripG, chkT, tagsB, tagsL, tagD, addT, tagA, lookN, tagOp, elmT, ty24, ty25, ty26, ty27, ty28, ty39, ty40, ty41, ty42, ty57, ty59, ty62, ty98, Nat.reduceEqDiff, if_false, reduceIte, Option.getD_some, Option.getD_none, dstAt, dstOk, Nat.reduceLT, decide_true, if_true]
  simp [Port.enc, Vec.enc, e1]
  repeat' (first | (refine gdL_t (fun h => ?_) (fun h => ?_) <;> simp [h, e1, e4, w]) | (refine gdL_f (fun h => ?_) (fun h => ?_) <;> simp [h, e1, e4, w]) | (refine selS_intro (fun h => ?_) (fun h => ?_) <;> simp [h, e1, e4, w]))
  all_goals (refine hQ _ _ _ (by simp) ?_)
  all_goals (clear hQ e1 e4; simp [Tryz.f145]; unfold tickW; (repeat' split) <;> simp_all [Port.enc, Vec.enc] <;> omega)

theorem kont_app {E : Env} {call : Fun} (f2 : List Fr) : ∀ (f1 : List Fr) (e : Ex) (tm : Ab.T) (H : Heap) (Q : Ex → Ab.T → Heap → Prop), kont E call (f1 ++ f2) e tm H Q = kont E call f1 e tm H fun e tm H => kont E call f2 e tm H Q
  | [], e, tm, H, Q => rfl
  | .seq c :: f1, .normal, tm, H, Q => by
    simp only [List.cons_append, kont]
    refine wpC_ext fun e tm H => ?_
    exact kont_app f2 f1 e tm H Q
  | .seq c :: f1, .exit j, tm, H, Q => by
    simp only [List.cons_append, kont]
    exact kont_app f2 f1 _ tm H Q
  | .seq c :: f1, .ret, tm, H, Q => by
    simp only [List.cons_append, kont]
    exact kont_app f2 f1 _ tm H Q
  | .blk id :: f1, .exit j, tm, H, Q => by
    simp only [List.cons_append, kont]
    split
    · exact kont_app f2 f1 _ tm H Q
    · exact kont_app f2 f1 _ tm H Q
  | .blk id :: f1, .normal, tm, H, Q => by
    simp only [List.cons_append, kont]
    exact kont_app f2 f1 _ tm H Q
  | .blk id :: f1, .ret, tm, H, Q => by
    simp only [List.cons_append, kont]
    exact kont_app f2 f1 _ tm H Q
theorem wpS_app {E : Env} {call : Fun} {c : C2} {f1 f2 : List Fr} {tm : Ab.T} {H : Heap} {Q : Ex → Ab.T → Heap → Prop} (h : wpS E call c f1 tm H fun e tm H => kont E call f2 e tm H Q) : wpS E call c (f1 ++ f2) tm H Q := by
  unfold wpS at h ⊢
  have : (fun e tm H => kont E call (f1 ++ f2) e tm H Q) = fun e tm H => kont E call f1 e tm H fun e tm H => kont E call f2 e tm H Q := by
    funext e tm H
    exact kont_app f2 f1 e tm H Q
  rw [this]
  exact h
/-- What stands ahead, and what is behind it: a cut. -/
theorem wpS_cut {E : Env} {call : Fun} {c : C2} {f1 fr : List Fr} {rest : C2} {tm : Ab.T} {H : Heap} {Q : Ex → Ab.T → Heap → Prop} (I : Ab.T → Heap → Prop)
    (h1 : ∀ Q' : Ex → Ab.T → Heap → Prop, (∀ tm H, I tm H → Q' .normal tm H) → (∀ j tm H, kont E call fr (.exit j) tm H Q → Q' (.exit j) tm H) → (∀ tm H, kont E call fr .ret tm H Q → Q' .ret tm H) → wpS E call c f1 tm H Q')
    (h2 : ∀ tm H, I tm H → wpS E call rest fr tm H Q) : wpS E call c (f1 ++ .seq rest :: fr) tm H Q := by
  refine wpS_app (h1 _ (fun tm H hI => ?_) (fun j tm H h => ?_) (fun tm H h => ?_))
  · rw [kont_seq_n]; exact h2 tm H hI
  · rw [kont_seq_e]; exact h
  · rw [kont_seq_r]; exact h
theorem selS_cut {E : Env} {call : Fun} {b : Bool} {x y rest : C2} {f1 fr : List Fr} {tm : Ab.T} {H : Heap} {Q : Ex → Ab.T → Heap → Prop} (I : Ab.T → Heap → Prop)
    (h1 : ∀ Q' : Ex → Ab.T → Heap → Prop, (∀ tm H, I tm H → Q' .normal tm H) → (∀ j tm H, kont E call fr (.exit j) tm H Q → Q' (.exit j) tm H) → (∀ tm H, kont E call fr .ret tm H Q → Q' .ret tm H) → selS E call (.w (.lf (.b b))) x y f1 tm H Q')
    (h2 : ∀ tm H, I tm H → wpS E call rest fr tm H Q) : selS E call (.w (.lf (.b b))) x y (f1 ++ .seq rest :: fr) tm H Q := by
  cases b
  · exact wpS_cut I (fun Q' a b c => by have := h1 Q' a b c; simpa using this) h2
  · exact wpS_cut I (fun Q' a b c => by have := h1 Q' a b c; simpa using this) h2
/-- A call, within a region that draws its order, of one that may write. -/
theorem stpL_runs_w {E : Env} {call : Fun} {draw : Bool} {tm : Ab.T} {H : Heap} {Q : Ex → Ab.T → Heap → Prop} {fr : List Fr} {is : List I2} {f : Nat} {args : List V} {d : Option Nat} {K : V → Heap → Prop} {x y : List (Nat × Nat × Nat)} (h : Runs E f args H K) (hw : E.wr f = true) (hf : ∀ v H', K v H' → H.length ≤ H'.length)
    (hk : ∀ v H', K v H' → stpL E call (some (v, H')) d draw is fr tm Q) (hn : E.wt f = none := by rfl) : stpL E call (guardCall E draw (.w (.lf (.fn f x y))) H (run E f args H)) d draw is fr tm Q := by
  obtain ⟨v, H', hr, hK⟩ := h
  have : guardCall E draw (.w (.lf (.fn f x y))) H (run E f args H) = some (v, H') := by
    rw [hr]
    unfold guardCall
    split
    · rfl
    · simp [hw, hf v H' hK, hn, onlyT]
  rw [this]
  exact hk v H' hK

/-- The first i elements turned. -/
def mixL {α : Type} (f : Nat → α → α) (xs : List α) (i : Nat) : List α := xs.mapIdx fun k x => if k < i then f k x else x
@[simp] theorem mixL_len {α : Type} (f : Nat → α → α) (xs : List α) (i : Nat) : (mixL f xs i).length = xs.length := by simp [mixL]
theorem mixL_zero {α : Type} (f : Nat → α → α) (xs : List α) : mixL f xs 0 = xs := by
  refine List.ext_getElem? fun k => ?_
  simp [mixL, List.getElem?_mapIdx]
theorem mixL_all {α : Type} (f : Nat → α → α) (xs : List α) {i : Nat} (h : xs.length ≤ i) : mixL f xs i = xs.mapIdx f := by
  refine List.ext_getElem? fun k => ?_
  simp only [mixL, List.getElem?_mapIdx]
  cases hx : xs[k]? with
  | none => rfl
  | some x =>
    have := (List.getElem?_eq_some_iff.1 hx).1
    simp; omega
theorem mixL_at {α : Type} (f : Nat → α → α) (xs : List α) {i k : Nat} (h : i ≤ k) : (mixL f xs i)[k]? = xs[k]? := by
  simp only [mixL, List.getElem?_mapIdx]
  cases hx : xs[k]? with
  | none => rfl
  | some x => simp; omega
theorem mixL_step {α : Type} (f : Nat → α → α) (xs : List α) {i : Nat} (h : i < xs.length) : (mixL f xs i).set i (f i xs[i]) = mixL f xs (i + 1) := by
  refine List.ext_getElem? fun k => ?_
  rw [List.getElem?_set]
  split
  · rename_i he
    subst he
    simp [mixL, h]
  · rename_i he
    simp only [mixL, List.getElem?_mapIdx]
    cases hx : xs[k]? with
    | none => rfl
    | some x =>
      simp only [Option.map_some]
      congr 1
      split
      · rw [if_pos (by omega)]
      · rw [if_neg (by omega)]
theorem mixL_same {α : Type} (f : Nat → α → α) (xs : List α) {i : Nat} (h : i < xs.length) (he : f i xs[i] = xs[i]) : mixL f xs (i + 1) = mixL f xs i := by
  rw [← mixL_step f xs h, he]
  refine List.ext_getElem? fun k => ?_
  rw [List.getElem?_set]
  split
  · rename_i he
    subst he
    rw [mixL_at f xs (Nat.le_refl _), List.getElem?_eq_getElem h]
    simp [h]
  · rfl

/-- Elements made one behind the other. -/
def upto {α : Type} (f : Nat → List α) : Nat → List α
  | 0 => []
  | i + 1 => upto f i ++ f i
theorem upto_len {α : Type} {f : Nat → List α} (h : ∀ i, (f i).length ≤ 1) : ∀ i, (upto f i).length ≤ i
  | 0 => by simp [upto]
  | i + 1 => by
    have := upto_len h i
    have := h i
    simp [upto]; omega
theorem upto_all {α : Type} {f : Nat → List α} {p : α → Prop} (h : ∀ i, ∀ x ∈ f i, p x) : ∀ i, ∀ x ∈ upto f i, p x
  | 0 => by simp [upto]
  | i + 1 => by
    intro x hx
    rw [upto, List.mem_append] at hx
    rcases hx with hx | hx
    · exact upto_all h i x hx
    · exact h i x hx

def keyP (p : Port) : Bool × Vec × Int := (p.has, p.vec, p.hops)
theorem rootSkip_key {b c : Bridge} {p q : Port} (hi : b.id = c.id) (h : keyP p = keyP q) : rootSkip b p = rootSkip c q := by
  simp only [keyP, Prod.mk.injEq] at h
  unfold rootSkip
  rw [h.1, h.2.1, h.2.2, hi]
theorem getD_key {xs ys : List Port} (h : xs.map keyP = ys.map keyP) (k : Nat) : keyP (xs.getD k default) = keyP (ys.getD k default) := by
  have hg : (xs[k]?).map keyP = (ys[k]?).map keyP := by rw [← List.getElem?_map, ← List.getElem?_map, h]
  rw [List.getD_eq_getElem?_getD, List.getD_eq_getElem?_getD]
  cases hb : xs[k]? <;> cases hc : ys[k]? <;> simp [hb, hc] at hg ⊢
  exact hg
theorem rootUpto_key {b c : Bridge} (hi : b.id = c.id) (h : b.ports.map keyP = c.ports.map keyP) : ∀ i, rootUpto b i = rootUpto c i
  | 0 => rfl
  | i + 1 => by
    have ih := rootUpto_key hi h i
    have hg : (b.ports[i]?).map keyP = (c.ports[i]?).map keyP := by rw [← List.getElem?_map, ← List.getElem?_map, h]
    rw [rootUpto, rootUpto]
    cases hb : b.ports[i]? <;> cases hc : c.ports[i]? <;> simp [hb, hc] at hg
    · exact ih
    · rename_i p q
      have hv := getD_key h (rootUpto c i).toNat
      have h2 := rootSkip_key hi hg
      simp only [keyP, Prod.mk.injEq] at hv hg
      simp only [rootStep, h2, ih, hv.2.1, hg.2.1]
theorem rootAt_key {b c : Bridge} (hi : b.id = c.id) (h : b.ports.map keyP = c.ports.map keyP) : rootAt b = rootAt c := by
  have hl : b.ports.length = c.ports.length := by simpa using congrArg List.length h
  unfold rootAt
  rw [rootUpto_key hi h, hl]
def ownV (b : Bridge) (port : Int) : Vec := if rootAt b < 0 then ⟨b.id, 0, b.id, port⟩ else ⟨(b.ports.getD (rootAt b).toNat default).vec.root, (b.ports.getD (rootAt b).toNat default).vec.cost + 1, b.id, port⟩
def hopsB (b : Bridge) : Int := if rootAt b < 0 then 0 else (b.ports.getD (rootAt b).toNat default).hops + 1
theorem ownV_key {b c : Bridge} (hi : b.id = c.id) (h : b.ports.map keyP = c.ports.map keyP) (port : Int) : ownV b port = ownV c port := by
  have hv := getD_key h (rootAt c).toNat
  simp only [keyP, Prod.mk.injEq] at hv
  unfold ownV
  rw [rootAt_key hi h, hi, hv.2.1]
theorem hopsB_key {b c : Bridge} (hi : b.id = c.id) (h : b.ports.map keyP = c.ports.map keyP) : hopsB b = hopsB c := by
  have hv := getD_key h (rootAt c).toNat
  simp only [keyP, Prod.mk.injEq] at hv
  unfold hopsB
  rw [rootAt_key hi h, hv.2.2]
theorem Port.ok_bd {p : Port} (h : p.ok = true) : 0 ≤ p.vec.cost ∧ p.vec.cost ≤ 20 ∧ 0 ≤ p.hops ∧ p.hops ≤ 8 := by
  obtain ⟨a1, a2, ⟨b1, b2, b3, b4⟩, a4, a5, a6, a7, a8⟩ := p
  cases a2
  · simp [Port.ok] at h
    simp only
    omega
  · simp [Port.ok, Vec.ok] at h
    simp only
    omega
theorem Bridge.ok_all {b : Bridge} (h : b.ok = true) : (∀ p ∈ b.ports, p.ok = true) ∧ 1 ≤ b.id ∧ b.id ≤ 9 ∧ 1 ≤ b.ports.length ∧ b.ports.length ≤ 4 := by
  simp [Bridge.ok] at h
  refine ⟨h.1.1, ?_⟩
  omega
theorem Bridge.ok_of {b : Bridge} (h1 : ∀ p ∈ b.ports, p.ok = true) (h2 : 1 ≤ b.id ∧ b.id ≤ 9 ∧ 1 ≤ b.ports.length ∧ b.ports.length ≤ 4) : b.ok = true := by
  simp [Bridge.ok]
  refine ⟨⟨h1, ?_⟩, ?_⟩ <;> omega
theorem Bridge.ok_at {b : Bridge} (h : b.ok = true) {i : Nat} (hi : i < b.ports.length) : b.ports[i].ok = true := (Bridge.ok_all h).1 _ (List.getElem_mem hi)

theorem rootPortG {H : Heap} {id ro : Nat} {blo : Blk} {b : Bridge} {a : Option (Nat × Nat)} (hb : blkAt H id = some blo) (hbe0 : blo.elem = 100) (hrow0 : blo.rows[ro]? = some (b.enc a)) (h_ : Sl H 134 a (b.ports.map Port.enc)) (hn : b.ports.length ≤ 1048576) :
    run env 165 [.ptr id ro 0] H = some (.int (rootAt b), H) := by
  have hid0 := blkAt_len hb
  simp only [Bridge.enc] at hrow0
  have e1 := fun H (c1 c2 c3 c4 d1 d2 d3 d4 : Int) => implBetter H ⟨c1, c2, c3, c4⟩ ⟨d1, d2, d3, d4⟩
  simp only [Vec.enc] at e1
  refine run_walk ok165 Tryz.func165 rfl (by simp [Tryz.f165]) fun Q hQ => ?_
  simp only [Tryz.f165, strip, stripL, stripI, stripG, chkT, tagsB, tagsL, tagD, addT, tagA, lookN, tagOp, elmT, ty24, ty25, ty26, ty27, ty28, ty39, ty40, ty41, ty42, ty57, ty59, ty62, ty98, Nat.reduceEqDiff, if_false, reduceIte, Option.getD_some, Option.getD_none, dstAt, dstOk, Nat.reduceLT, decide_true, if_true]
  simp [hb, hbe0, hrow0, builtinV, pureB, lenV]
  refine wpS_loop (fun j tm H' => ∃ i T, i + j = b.ports.length ∧ tm 0 = .ptr id ro 0 ∧ tm 3 = .int (rootUpto b i) ∧ tm 9 = .w (.lf (.sl a b.ports.length)) ∧ tm 10 = .int b.ports.length ∧ tm 11 = .int i ∧ H' = H ++ T) b.ports.length (by rw [env_K]; omega) ⟨0, [], by simp, by simp, by simp [rootUpto], by simp, by simp, by simp, by simp⟩ ?_
  rintro j tm H' hj ⟨i, T, hij, t0, t3, t9, t10, t11, rfl⟩ Q2 hn2 he2 hr2
  simp [t0, t3, t9, t10, t11]
  refine selS_intro (fun hc => ?_) (fun hc => ?_)
  · simp at hc
    obtain ⟨id2, r, bl, rfl, hbl, hbe, hrow⟩ := h_ i _ (by simp [hc]; rfl)
    have hid := blkAt_len hbl
    have g4 : IntKind.i64.wrap ((i : Int) + 1) = (i : Int) + 1 := wrap64 (by omega) (by omega)
    have hlt := rootUpto_lt b i
    have hstep : rootUpto b (i + 1) = rootStep b (rootUpto b i) i b.ports[i] := by rw [rootUpto, List.getElem?_eq_getElem hc]
    have hskip : ∀ tm', tm' 0 = .ptr id ro 0 → tm' 3 = .int (rootUpto b (i + 1)) → tm' 9 = .w (.lf (.sl (some (id2, r)) b.ports.length)) → tm' 10 = .int b.ports.length → tm' 11 = .int ((i : Int) + 1) → ∀ T', Q2 .normal tm' (H ++ T') := fun tm' a0 a3 a9 a10 a11 T' =>
      hn2 (j - 1) _ _ (by omega) ⟨i + 1, T', by omega, a0, a3, a9, a10, by simpa using a11, rfl⟩
    obtain ⟨p, hp⟩ : ∃ p, p = b.ports[i] := ⟨_, rfl⟩
    rw [← hp] at hstep
    simp [t0, t3, t9, t10, t11, indexAddrV, elemIs, hid, hbl, hbe, hc, hrow, ← hp, Port.enc]
    have skipped : rootSkip b p = true → rootUpto b (i + 1) = rootUpto b i := fun hs => by rw [hstep, rootStep, if_pos hs]
    repeat' (first | (refine gdL_t (fun h => ?_) (fun h => ?_) <;> simp [h, t0, t3, t9, t10, t11, hb, hbe0, hrow0, hid0, g4]) | (refine gdL_f (fun h => ?_) (fun h => ?_) <;> simp [h, t0, t3, t9, t10, t11, hb, hbe0, hrow0, hid0, g4]) | (refine selS_intro (fun h => ?_) (fun h => ?_) <;> simp [h, t0, t3, t9, t10, t11, hb, hbe0, hrow0, hid0, g4]))
    iterate 5 (refine hskip _ (by simp [t0]) ?_ (by simp [t9]) (by simp [t10]) (by simp) _; rw [skipped (by clear hQ hn2 he2 hr2 hskip; simp_all [rootSkip])]; simp [t3])
    · have hns : rootSkip b p = false := by clear hQ hn2 he2 hr2 hskip skipped; simp_all [rootSkip]
      refine hskip _ (by simp [t0]) ?_ (by simp [t9]) (by simp [t10]) (by simp) _
      rw [hstep, rootStep, hns]
      have h0 : rootUpto b i < 0 := by simpa using h
      simp [h0]
    · have hns : rootSkip b p = false := by clear hQ hn2 he2 hr2 hskip skipped; simp_all [rootSkip]
      have h0 : 0 ≤ rootUpto b i := by simpa using h
      have hki : (rootUpto b i).toNat < b.ports.length := by omega
      have hkl : rootUpto b i < (b.ports.length : Int) := by omega
      obtain ⟨id3, r3, bl3, hx3, hbl3, hbe3, hrow3⟩ := h_ (rootUpto b i).toNat _ (by simp [hki]; rfl)
      cases hx3
      rw [hbl] at hbl3
      injection hbl3 with hbl3
      subst hbl3
      have hgd : (b.ports.getD (rootUpto b i).toNat default) = b.ports[(rootUpto b i).toNat] := by simp [List.getD, List.getElem?_eq_getElem hki]
      have hnl : ¬ rootUpto b i < 0 := by omega
      rw [rootStep, hns, hgd] at hstep
      simp only [Bool.false_eq_true, if_false, hnl, decide_false, Bool.false_or] at hstep
      simp [t0, t3, t9, t10, t11, hb, hbe0, hrow0, hid0, indexAddrV, elemIs, hid, hbl, hbe, h0, hkl, hrow3, Port.enc, e1]
      refine selS_intro (fun hd => ?_) (fun hd => ?_)
      · simp [t0, t3, t9, t10, t11, g4]
        refine hskip _ (by simp [t0]) ?_ (by simp [t9]) (by simp [t10]) (by simp) _
        rw [hstep, if_pos (by simpa using hd)]
        simp
      · simp [t0, t3, t9, t10, t11, g4]
        refine hskip _ (by simp [t0]) ?_ (by simp [t9]) (by simp [t10]) (by simp) _
        rw [hstep, if_neg (by simpa using hd)]
        simp [t3]
  · simp at hc
    obtain rfl : i = b.ports.length := by omega
    simp [t0, t3, t9, t10, t11]
    refine he2 _ _ _ ?_
    simp [t3]
    refine hQ _ _ _ (by simp) ?_
    simp [Tryz.f165, rootAt]

/-- The port that the root port is, where there is one. -/
theorem rootGet {b : Bridge} (hok : b.ok = true) (hr : 0 ≤ rootAt b) : ∃ (h : (rootAt b).toNat < b.ports.length), rootAt b < (b.ports.length : Int) ∧ b.ports.getD (rootAt b).toNat default = b.ports[(rootAt b).toNat] ∧ b.ports[(rootAt b).toNat].ok = true ∧
    0 ≤ b.ports[(rootAt b).toNat].vec.cost ∧ b.ports[(rootAt b).toNat].vec.cost ≤ 20 ∧ 0 ≤ b.ports[(rootAt b).toNat].hops ∧ b.ports[(rootAt b).toNat].hops ≤ 8 := by
  have hlt := (rootUpto_lt b b.ports.length).2
  have h : (rootAt b).toNat < b.ports.length := by unfold rootAt at hr ⊢; omega
  have hp := Bridge.ok_at hok h
  exact ⟨h, by omega, by simp [List.getD, List.getElem?_eq_getElem h], hp, Port.ok_bd hp⟩

theorem ownM {H : Heap} {id ro : Nat} {blo : Blk} {b : Bridge} {a : Option (Nat × Nat)} (hb : blkAt H id = some blo) (hbe0 : blo.elem = 100) (hrow0 : blo.rows[ro]? = some (b.enc a)) (h_ : Sl H 134 a (b.ports.map Port.enc)) (hok : b.ok = true) (port : Int) :
    run env 160 [.ptr id ro 0, .int port] H = some (.agg (ownV b port).enc, H) := by
  have hl := (Bridge.ok_all hok).2.2.2.2
  have hid0 := blkAt_len hb
  have e1 := fun G => rootPortG (H := H ++ G) (blkAt_app hb G) hbe0 hrow0 (h_.app G) (by omega)
  simp only [Bridge.enc] at hrow0
  refine run_walk ok160 Tryz.func160 rfl (by simp [Tryz.f160]) fun Q hQ => ?_
  simp only [Tryz.f160, strip, stripL, stripI, stripG, chkT, tagsB, tagsL, tagD, addT, tagA, lookN, tagOp, elmT, ty24, ty25, ty26, ty27, ty28, ty39, ty40, ty41, ty42, ty57, ty59, ty62, ty98, Nat.reduceEqDiff, if_false, reduceIte, Option.getD_some, Option.getD_none, dstAt, dstOk, Nat.reduceLT, decide_true, if_true]
  simp [hb, hbe0, hrow0, hid0, e1]
  by_cases hr : 0 ≤ rootAt b
  · obtain ⟨hk, hkl, hgd, hpo, c0, c1, -, -⟩ := rootGet hok hr
    obtain ⟨id3, r3, bl3, rfl, hbl3, hbe3, hrow3⟩ := h_ (rootAt b).toNat _ (by simp [hk]; rfl)
    have hid3 := blkAt_len hbl3
    have hv : ownV b port = ⟨b.ports[(rootAt b).toNat].vec.root, b.ports[(rootAt b).toNat].vec.cost + 1, b.id, port⟩ := by
      unfold ownV
      rw [if_neg (by omega), hgd]
    have g : IntKind.i64.wrap (b.ports[(rootAt b).toNat].vec.cost + 1) = b.ports[(rootAt b).toNat].vec.cost + 1 := wrap64 (by omega) (by omega)
    obtain ⟨p, hp⟩ : ∃ p, p = b.ports[(rootAt b).toNat] := ⟨_, rfl⟩
    rw [← hp] at hv g hrow3
    simp [hr, hb, hbe0, hrow0, hid0, indexAddrV, elemIs, hid3, hbl3, hbe3, hkl, hrow3, Port.enc, g]
    refine hQ _ _ _ (by simp) ?_
    simp [Tryz.f160, hv, Vec.enc]
  · have hv : ownV b port = ⟨b.id, 0, b.id, port⟩ := by unfold ownV; rw [if_pos (by omega)]
    simp [hr]
    refine hQ _ _ _ (by simp) ?_
    simp [Tryz.f160, hv, Vec.enc]

theorem hopsM {H : Heap} {id ro : Nat} {blo : Blk} {b : Bridge} {a : Option (Nat × Nat)} (hb : blkAt H id = some blo) (hbe0 : blo.elem = 100) (hrow0 : blo.rows[ro]? = some (b.enc a)) (h_ : Sl H 134 a (b.ports.map Port.enc)) (hok : b.ok = true) :
    run env 161 [.ptr id ro 0] H = some (.int (hopsB b), H) := by
  have hl := (Bridge.ok_all hok).2.2.2.2
  have hid0 := blkAt_len hb
  have e1 := rootPortG hb hbe0 hrow0 h_ (by omega)
  simp only [Bridge.enc] at hrow0
  refine run_walk ok161 Tryz.func161 rfl (by simp [Tryz.f161]) fun Q hQ => ?_
  simp only [Tryz.f161, strip, stripL, stripI, stripG, chkT, tagsB, tagsL, tagD, addT, tagA, lookN, tagOp, elmT, ty24, ty25, ty26, ty27, ty28, ty39, ty40, ty41, ty42, ty57, ty59, ty62, ty98, Nat.reduceEqDiff, if_false, reduceIte, Option.getD_some, Option.getD_none, dstAt, dstOk, Nat.reduceLT, decide_true, if_true]
  simp [hb, hbe0, hrow0, hid0, e1]
  by_cases hr : 0 ≤ rootAt b
  · obtain ⟨hk, hkl, hgd, hpo, -, -, c0, c1⟩ := rootGet hok hr
    obtain ⟨id3, r3, bl3, rfl, hbl3, hbe3, hrow3⟩ := h_ (rootAt b).toNat _ (by simp [hk]; rfl)
    have hid3 := blkAt_len hbl3
    have hv : hopsB b = b.ports[(rootAt b).toNat].hops + 1 := by
      unfold hopsB
      rw [if_neg (by omega), hgd]
    have g : IntKind.i64.wrap (b.ports[(rootAt b).toNat].hops + 1) = b.ports[(rootAt b).toNat].hops + 1 := wrap64 (by omega) (by omega)
    obtain ⟨p, hp⟩ : ∃ p, p = b.ports[(rootAt b).toNat] := ⟨_, rfl⟩
    rw [← hp] at hv g hrow3
    simp [hr, hb, hbe0, hrow0, hid0, indexAddrV, elemIs, hid3, hbl3, hbe3, hkl, hrow3, Port.enc, g]
    refine hQ _ _ _ (by simp) ?_
    simp [Tryz.f161, hv]
  · have hv : hopsB b = 0 := by unfold hopsB; rw [if_pos (by omega)]
    simp [hr]
    refine hQ _ _ _ (by simp) ?_
    simp [Tryz.f161, hv]

theorem specOwn {H : Heap} {l : List Lf} {b : Bridge} (h : RdBridge H l b) (hok : b.ok = true) {port : Int} (h0 : 0 ≤ port) (h1 : port < b.ports.length) : run env 136 [.agg l, .int port] H = some (.agg (ownV b port).enc, H) := by
  have hl := (Bridge.ok_all hok).2.2.2.2
  have e1 := fun G => specBridgeOk_is (h.app G) (by have : b.sz = b.ports.length := rfl; omega)
  have e2 := fun G => specRootPort (h.app G) (by have : b.sz = b.ports.length := rfl; omega)
  have hrp : rootPort b = (rootAt b, decide (0 ≤ rootAt b)) := by simp [rootPort, hok]
  obtain ⟨a, rfl, h_⟩ := h
  rw [hrp] at e2
  rw [hok] at e1
  simp only [Bridge.enc] at e1 e2
  have g2 : IntKind.i64.wrap ((b.ports.length : Int) - 1) = (b.ports.length : Int) - 1 := wrap64 (by omega) (by omega)
  have h2 : port ≤ (b.ports.length : Int) - 1 := by omega
  refine run_walk ok136 Tryz.func136 rfl (by simp [Tryz.f136]) fun Q hQ => ?_
  simp only [Tryz.f136, strip, stripL, stripI, stripG, chkT, tagsB, tagsL, tagD, addT, tagA, lookN, tagOp, elmT, ty24, ty25, ty26, ty27, ty28, ty39, ty40, ty41, ty42, ty57, ty59, ty62, ty98, Nat.reduceEqDiff, if_false, reduceIte, Option.getD_some, Option.getD_none, dstAt, dstOk, Nat.reduceLT, decide_true, if_true]
  simp [Bridge.enc, e1, e2, builtinV, pureB, lenV, g2, l1In, h0, h2]
  by_cases hr : 0 ≤ rootAt b
  · obtain ⟨hk, hkl, hgd, hpo, c0, c1, -, -⟩ := rootGet hok hr
    obtain ⟨id3, r3, bl3, rfl, hbl3, hbe3, hrow3⟩ := h_ (rootAt b).toNat _ (by simp [hk]; rfl)
    have hid3 := blkAt_len hbl3
    have hv : ownV b port = ⟨b.ports[(rootAt b).toNat].vec.root, b.ports[(rootAt b).toNat].vec.cost + 1, b.id, port⟩ := by
      unfold ownV
      rw [if_neg (by omega), hgd]
    have g : IntKind.i64.wrap (b.ports[(rootAt b).toNat].vec.cost + 1) = b.ports[(rootAt b).toNat].vec.cost + 1 := wrap64 (by omega) (by omega)
    obtain ⟨p, hp⟩ : ∃ p, p = b.ports[(rootAt b).toNat] := ⟨_, rfl⟩
    rw [← hp] at hv g hrow3
    simp [hr, indexAddrV, elemIs, hid3, hbl3, hbe3, hkl, hrow3, Port.enc, g]
    refine hQ _ _ _ (by simp) ?_
    simp [Tryz.f136, hv, Vec.enc]
  · have hv : ownV b port = ⟨b.id, 0, b.id, port⟩ := by unfold ownV; rw [if_pos (by omega)]
    simp [hr]
    refine hQ _ _ _ (by simp) ?_
    simp [Tryz.f136, hv, Vec.enc]

theorem specHops {H : Heap} {l : List Lf} {b : Bridge} (h : RdBridge H l b) (hok : b.ok = true) : run env 137 [.agg l] H = some (.int (hopsB b), H) := by
  have hl := (Bridge.ok_all hok).2.2.2.2
  have e2 := fun G => specRootPort (h.app G) (by have : b.sz = b.ports.length := rfl; omega)
  have hrp : rootPort b = (rootAt b, decide (0 ≤ rootAt b)) := by simp [rootPort, hok]
  obtain ⟨a, rfl, h_⟩ := h
  rw [hrp] at e2
  simp only [Bridge.enc] at e2
  refine run_walk ok137 Tryz.func137 rfl (by simp [Tryz.f137]) fun Q hQ => ?_
  simp only [Tryz.f137, strip, stripL, stripI, stripG, chkT, tagsB, tagsL, tagD, addT, tagA, lookN, tagOp, elmT, ty24, ty25, ty26, ty27, ty28, ty39, ty40, ty41, ty42, ty57, ty59, ty62, ty98, Nat.reduceEqDiff, if_false, reduceIte, Option.getD_some, Option.getD_none, dstAt, dstOk, Nat.reduceLT, decide_true, if_true]
  simp [Bridge.enc, e2]
  by_cases hr : 0 ≤ rootAt b
  · obtain ⟨hk, hkl, hgd, hpo, -, -, c0, c1⟩ := rootGet hok hr
    obtain ⟨id3, r3, bl3, rfl, hbl3, hbe3, hrow3⟩ := h_ (rootAt b).toNat _ (by simp [hk]; rfl)
    have hid3 := blkAt_len hbl3
    have hv : hopsB b = b.ports[(rootAt b).toNat].hops + 1 := by
      unfold hopsB
      rw [if_neg (by omega), hgd]
    have g : IntKind.i64.wrap (b.ports[(rootAt b).toNat].hops + 1) = b.ports[(rootAt b).toNat].hops + 1 := wrap64 (by omega) (by omega)
    obtain ⟨p, hp⟩ : ∃ p, p = b.ports[(rootAt b).toNat] := ⟨_, rfl⟩
    rw [← hp] at hv g hrow3
    simp [hr, indexAddrV, elemIs, hid3, hbl3, hbe3, hkl, hrow3, Port.enc, g]
    refine hQ _ _ _ (by simp) ?_
    simp [Tryz.f137, hv]
  · have hv : hopsB b = 0 := by unfold hopsB; rw [if_pos (by omega)]
    simp [hr]
    refine hQ _ _ _ (by simp) ?_
    simp [Tryz.f137, hv]

def tickB (b : Bridge) : Bridge := ⟨b.id, b.ports.mapIdx fun _ p => tickP p⟩
theorem mapIdx_ok {f : Nat → Port → Port} {b : Bridge} (h : b.ok = true) (hf : ∀ i p, p.ok = true → (f i p).ok = true) : (⟨b.id, b.ports.mapIdx f⟩ : Bridge).ok = true := by
  obtain ⟨h1, h2⟩ := Bridge.ok_all h
  refine Bridge.ok_of (fun p hp => ?_) (by simpa using h2)
  rw [List.mem_mapIdx] at hp
  obtain ⟨i, hi, rfl⟩ := hp
  exact hf _ _ (h1 _ (List.getElem_mem hi))
theorem tickB_ok {b : Bridge} (h : b.ok = true) : (tickB b).ok = true := mapIdx_ok h fun _ _ hp => tickP_ok hp

theorem tickM {H : Heap} {id ro : Nat} {blo : Blk} {b : Bridge} {a : Option (Nat × Nat)} {fp : List Nat} (hb : blkAt H id = some blo) (hbe0 : blo.elem = 100) (hrow0 : blo.rows[ro]? = some (b.enc a)) (ho : Own H 134 a (b.ports.map Port.enc) fp) (hidf : id ∉ fp) (hok : b.ok = true) :
    Runs env 158 [.ptr id ro 0] H fun v H' => v = .tup [] ∧ Own H' 134 a ((tickB b).ports.map Port.enc) fp ∧ Keep fp H H' := by
  obtain ⟨hpok, -, -, hl1, hl4⟩ := Bridge.ok_all hok
  simp only [Bridge.enc] at hrow0
  refine Runs.walk ok158 Tryz.func158 rfl (by simp [Tryz.f158]) fun Q hQ => ?_
  simp only [Tryz.f158, strip, stripL, stripI, stripG, chkT, tagsB, tagsL, tagD, addT, tagA, lookN, tagOp, elmT, ty24, ty25, ty26, ty27, ty28, ty39, ty40, ty41, ty42, ty57, ty59, ty62, ty98, Nat.reduceEqDiff, if_false, reduceIte, Option.getD_some, Option.getD_none, dstAt, dstOk, Nat.reduceLT, decide_true, if_true]
  simp [hb, hbe0, hrow0, builtinV, pureB, lenV]
  refine wpS_loop (fun j tm H' => ∃ i, i + j = b.ports.length ∧ tm 0 = .ptr id ro 0 ∧ tm 8 = .int b.ports.length ∧ tm 9 = .int i ∧ Own H' 134 a ((mixL (fun _ p => tickP p) b.ports i).map Port.enc) fp ∧ Keep fp H H') b.ports.length (by rw [env_K]; omega) ⟨0, by simp, by simp, by simp, by simp, by rw [mixL_zero]; exact ho, Keep.refl _ _⟩ ?_
  rintro j tm H1 hj ⟨i, hij, t0, t8, t9, ho1, hk1⟩ Q' hn' he' hr'
  have hb1 := hk1.blk hb hidf
  have hid1 := blkAt_len hb1
  simp [t0, t8, t9]
  refine selS_intro (fun hc => ?_) (fun hc => ?_)
  · simp at hc
    obtain ⟨pid, pb, rfl, rfl, hpb, hpe, hpm, hpre⟩ := ho1.blk (by intro h; have := congrArg List.length h; simp only [List.length_map, mixL_len, List.length_nil] at this; omega)
    have hpl := blkAt_len hpb
    obtain ⟨t, ht⟩ := hpre
    have hrw : pb.rows[i]? = some b.ports[i].enc := by
      rw [← ht, List.getElem?_append_left (by simp; omega), List.getElem?_map, mixL_at _ _ (Nat.le_refl _), List.getElem?_eq_getElem hc]; rfl
    have g4 : IntKind.i64.wrap ((i : Int) + 1) = (i : Int) + 1 := wrap64 (by omega) (by omega)
    have hpo := hpok _ (List.getElem_mem hc)
    obtain ⟨p, hp⟩ : ∃ p, p = b.ports[i] := ⟨_, rfl⟩
    have e1 := fun H => implFade H p
    have hqo := fadeP_ok (p := p) (by rw [hp]; exact hpo)
    obtain ⟨q, hq⟩ : ∃ q, q = fadeP p := ⟨_, rfl⟩
    have hx : tickP p = ⟨q.up, q.has, q.vec, q.hops, q.left, q.role, tickW q, openBy q.role (tickW q)⟩ := by rw [hq]; rfl
    rw [← hq] at e1 hqo
    rw [← hp] at hrw
    have hqw : 0 ≤ q.wait ∧ q.wait ≤ 4 ∧ q.opn = openBy q.role q.wait := by
      simp [Port.ok] at hqo
      exact ⟨hqo.1.2.1, hqo.1.2.2, hqo.2⟩
    have w : IntKind.i64.wrap (q.wait - 1) = q.wait - 1 := wrap64 (by omega) (by omega)
    have e4 := fun H a1 a2 b1 b2 b3 b4 a4 a5 a6 a7 a8 => isOpenBy H ⟨a1, a2, ⟨b1, b2, b3, b4⟩, a4, a5, a6, a7, a8⟩
    simp only [Port.enc] at e1 e4 hrw
    have next : ∀ (tm' : Ab.T) (G' : Heap) (row : List Lf), tm' 0 = .ptr id ro 0 → tm' 8 = .int b.ports.length → tm' 9 = .int ((i : Int) + 1) → row = (tickP p).enc → Q' .normal tm' (H1.set pid (some ⟨134, .wr, pb.rows.set i row⟩) ++ G') := by
      rintro tm' G' row a0 a8 a9 rfl
      refine hn' (j - 1) _ _ (by omega) ⟨i + 1, by omega, a0, a8, by simpa using a9, ?_, ?_⟩
      · have := ho1.set (row := (tickP p).enc) hpb (i := i) (by simp; omega)
        rw [hpm, hpe] at this
        rw [← mixL_step _ _ hc, List.map_set, ← hp]
        exact this.app _
      · exact Keep.trans (h := [pid]) (hk1.trans (h := [pid]) (Keep.set _ _) (by simp) (by simp)) (Keep.app [] _ _) (by simp) (by simp)
    simp [t0, t8, t9, hb1, hid1, hbe0, hrow0, indexAddrV, elemIs, hpl, hpb, hpe, hpm, hc, hrw, e1, g4]
    repeat' (first | (refine gdL_t (fun h => ?_) (fun h => ?_) <;> simp [h, t0, t8, t9, hb1, hid1, hbe0, hrow0, indexAddrV, elemIs, hpl, hpb, hpe, hpm, hc, hrw, e4, g4, w]) | (refine gdL_f (fun h => ?_) (fun h => ?_) <;> simp [h, t0, t8, t9, hb1, hid1, hbe0, hrow0, indexAddrV, elemIs, hpl, hpb, hpe, hpm, hc, hrw, e4, g4, w]) | (refine selS_intro (fun h => ?_) (fun h => ?_) <;> simp [h, t0, t8, t9, hb1, hid1, hbe0, hrow0, indexAddrV, elemIs, hpl, hpb, hpe, hpm, hc, hrw, e4, g4, w]))
    all_goals (refine next _ _ _ (by simp [t0]) (by simp [t8]) (by simp) ?_)
    all_goals (rw [hx]; clear hQ hn' he' hr' next e1 e4 hx; simp only [tickW])
    all_goals ((repeat' split) <;> simp_all [Port.enc] <;> omega)
  · simp at hc
    obtain rfl : i = b.ports.length := by omega
    simp [t0, t8, t9]
    refine he' _ _ _ ?_
    simp
    refine hQ _ _ _ (by simp) ?_
    rw [mixL_all _ _ (Nat.le_refl _)] at ho1
    simp [Tryz.f158]
    exact ⟨leave_own ho1 ho.lt, leave_keep' hk1⟩

def roleB (b : Bridge) (i : Nat) (p : Port) : Int := if (i : Int) = rootAt b then 1 else if (p.has && better p.vec (ownV b i)) = true then 3 else 2
def decP (b : Bridge) (i : Nat) (p : Port) : Port := if p.up = true then turnP p (roleB b i p) else p
def decideB (b : Bridge) : Bridge := ⟨b.id, b.ports.mapIdx (decP b)⟩
theorem decP_key (b : Bridge) (i : Nat) (p : Port) : keyP (decP b i p) = keyP p := by
  unfold decP
  split
  · have := turnP_rest p (roleB b i p)
    simp [keyP, this]
  · rfl
theorem decP_ok (b : Bridge) (i : Nat) {p : Port} (h : p.ok = true) : (decP b i p).ok = true := by
  unfold decP
  split
  · exact turnP_ok _ h
  · exact h
theorem decideB_ok {b : Bridge} (h : b.ok = true) : (decideB b).ok = true := mapIdx_ok h fun i _ hp => decP_ok b i hp
/-- The bridge of which the first ports are decided. -/
def decU (b : Bridge) (i : Nat) : Bridge := ⟨b.id, mixL (decP b) b.ports i⟩
theorem decU_key (b : Bridge) (i : Nat) : (decU b i).ports.map keyP = b.ports.map keyP := by
  refine List.ext_getElem? fun k => ?_
  simp only [decU, mixL, List.getElem?_map, List.getElem?_mapIdx, Option.map_map]
  cases b.ports[k]? with
  | none => rfl
  | some p =>
    simp only [Option.map_some, Function.comp]
    congr 1
    split
    · exact decP_key _ _ _
    · rfl
theorem decU_ok {b : Bridge} (h : b.ok = true) (i : Nat) : (decU b i).ok = true := mapIdx_ok (f := fun k x => if k < i then decP b k x else x) h fun k p hp => by
  split
  · exact decP_ok b k hp
  · exact hp
theorem decideB_key (b : Bridge) : (decideB b).ports.map keyP = b.ports.map keyP := by
  have := decU_key b b.ports.length
  unfold decU at this
  rwa [mixL_all _ _ (Nat.le_refl _)] at this

theorem decideM {H : Heap} {id ro : Nat} {blo : Blk} {b : Bridge} {a : Option (Nat × Nat)} {fp : List Nat} (hb : blkAt H id = some blo) (hbe0 : blo.elem = 100) (hrow0 : blo.rows[ro]? = some (b.enc a)) (ho : Own H 134 a (b.ports.map Port.enc) fp) (hidf : id ∉ fp) (hok : b.ok = true) :
    Runs env 159 [.ptr id ro 0] H fun v H' => v = .tup [] ∧ Own H' 134 a ((decideB b).ports.map Port.enc) fp ∧ Keep fp H H' := by
  obtain ⟨hpok, -, -, hl1, hl4⟩ := Bridge.ok_all hok
  have er := rootPortG hb hbe0 hrow0 ho.sl (by omega)
  have hrowE := hrow0
  simp only [Bridge.enc] at hrow0
  refine Runs.walk ok159 Tryz.func159 rfl (by simp [Tryz.f159]) fun Q hQ => ?_
  simp only [Tryz.f159, strip, stripL, stripI, stripG, chkT, tagsB, tagsL, tagD, addT, tagA, lookN, tagOp, elmT, ty24, ty25, ty26, ty27, ty28, ty39, ty40, ty41, ty42, ty57, ty59, ty62, ty98, Nat.reduceEqDiff, if_false, reduceIte, Option.getD_some, Option.getD_none, dstAt, dstOk, Nat.reduceLT, decide_true, if_true]
  simp [hb, hbe0, hrow0, er, builtinV, pureB, lenV]
  refine wpS_loop (fun j tm H' => ∃ i, i + j = b.ports.length ∧ tm 0 = .ptr id ro 0 ∧ tm 2 = .int (rootAt b) ∧ tm 10 = .w (.lf (.sl a b.ports.length)) ∧ tm 11 = .int b.ports.length ∧ tm 12 = .int i ∧ Own H' 134 a ((mixL (decP b) b.ports i).map Port.enc) fp ∧ Keep fp H H') b.ports.length (by rw [env_K]; omega) ⟨0, by simp, by simp, by simp, by simp, by simp, by simp, by rw [mixL_zero]; exact ho, Keep.refl _ _⟩ ?_
  rintro j tm H1 hj ⟨i, hij, t0, t2, t10, t11, t12, ho1, hk1⟩ Q' hn' he' hr'
  have hb1 := hk1.blk hb hidf
  have hid1 := blkAt_len hb1
  simp [t0, t2, t10, t11, t12]
  refine selS_intro (fun hc => ?_) (fun hc => ?_)
  · simp at hc
    have hsl := ho1.sl
    obtain ⟨pid, pb, rfl, rfl, hpb, hpe, hpm, hpre⟩ := ho1.blk (by intro h; have := congrArg List.length h; simp only [List.length_map, mixL_len, List.length_nil] at this; omega)
    have hpl := blkAt_len hpb
    obtain ⟨t, ht⟩ := hpre
    have hrw : pb.rows[i]? = some b.ports[i].enc := by
      rw [← ht, List.getElem?_append_left (by simp; omega), List.getElem?_map, mixL_at _ _ (Nat.le_refl _), List.getElem?_eq_getElem hc]; rfl
    have g4 : IntKind.i64.wrap ((i : Int) + 1) = (i : Int) + 1 := wrap64 (by omega) (by omega)
    have eo := fun G => ownM (H := H1 ++ G) (b := decU b i) (a := some (pid, 0)) (blkAt_app hb1 G) hbe0 (by rw [hrowE]; simp [Bridge.enc, decU]) ((hsl.app G)) (decU_ok hok i) (i : Int)
    simp only [ownV_key (b := decU b i) (c := b) rfl (decU_key b i)] at eo
    have next : ∀ (tm' : Ab.T) (G' : Heap) (row : List Lf), tm' 0 = .ptr id ro 0 → tm' 2 = .int (rootAt b) → tm' 10 = .w (.lf (.sl (some (pid, 0)) b.ports.length)) → tm' 11 = .int b.ports.length → tm' 12 = .int ((i : Int) + 1) → row = (decP b i b.ports[i]).enc → Q' .normal tm' (H1.set pid (some ⟨134, .wr, pb.rows.set i row⟩) ++ G') := by
      rintro tm' G' row a0 a2 a10 a11 a12 rfl
      refine hn' (j - 1) _ _ (by omega) ⟨i + 1, by omega, a0, a2, a10, a11, by simpa using a12, ?_, ?_⟩
      · have := ho1.set (row := (decP b i b.ports[i]).enc) hpb (i := i) (by simp; omega)
        rw [hpm, hpe] at this
        rw [← mixL_step _ _ hc, List.map_set]
        exact this.app _
      · exact Keep.trans (h := [pid]) (hk1.trans (h := [pid]) (Keep.set _ _) (by simp) (by simp)) (Keep.app [] _ _) (by simp) (by simp)
    have keepit : ∀ (tm' : Ab.T) (G' : Heap), tm' 0 = .ptr id ro 0 → tm' 2 = .int (rootAt b) → tm' 10 = .w (.lf (.sl (some (pid, 0)) b.ports.length)) → tm' 11 = .int b.ports.length → tm' 12 = .int ((i : Int) + 1) → b.ports[i].up = false → Q' .normal tm' (H1 ++ G') := by
      intro tm' G' a0 a2 a10 a11 a12 hu
      refine hn' (j - 1) _ _ (by omega) ⟨i + 1, by omega, a0, a2, a10, a11, by simpa using a12, ?_, hk1.trans (Keep.app [] _ _) (by simp) (by simp)⟩
      rw [mixL_same _ _ hc (by unfold decP; rw [if_neg (by rw [hu]; simp)])]
      exact ho1.app _
    obtain ⟨p, hp⟩ : ∃ p, p = b.ports[i] := ⟨_, rfl⟩
    rw [← hp] at hrw next keepit
    have eT : ∀ H role, run env 166 [.agg [.b p.up, .b p.has, .i .i64 p.vec.root, .i .i64 p.vec.cost, .i .i64 p.vec.bridge, .i .i64 p.vec.port, .i .i64 p.hops, .i .i64 p.left, .i .i64 p.role, .i .i64 p.wait, .b p.opn], .int role] H = some (.agg (turnP p role).enc, H) := fun H role => implTurn H p role
    have eB : ∀ H, run env 163 [.agg [.i .i64 p.vec.root, .i .i64 p.vec.cost, .i .i64 p.vec.bridge, .i .i64 p.vec.port], .agg (ownV b i).enc] H = some (.bool (better p.vec (ownV b i)), H) := fun H => implBetter H p.vec (ownV b i)
    simp only [Port.enc] at hrw
    simp [t0, t2, t10, t11, t12, hb1, hid1, hbe0, hrow0, indexAddrV, elemIs, hpl, hpb, hpe, hpm, hc, hrw, eo]
    cases hup : p.up
    · rw [hup] at hrw eT
      simp [t0, t2, t10, t11, t12, g4]
      exact keepit _ _ (by simp [t0]) (by simp [t2]) (by simp [t10]) (by simp [t11]) (by simp) hup
    rw [hup] at hrw eT
    simp [t0, t2]
    by_cases hir : (i : Int) = rootAt b
    · simp [hir, t0, t2, t10, t11, t12, hb1, hid1, hbe0, hrow0, indexAddrV, elemIs, hpl, hpb, hpe, hpm, hc, hrw, eT]
      rw [← hir]
      simp [t0, t2, t10, t11, t12, hb1, hid1, hbe0, hrow0, indexAddrV, elemIs, hpl, hpb, hpe, hpm, hc, hrw, eT, g4]
      refine next _ _ _ (by simp [t0]) (by simp [t2]) (by simp [t10]) (by simp [t11]) (by simp) ?_
      simp [decP, hup, roleB, hir]
    · simp [hir]
      cases hha : p.has
      · rw [hha] at hrw eT
        simp [t0, t2, t10, t11, t12, hb1, hid1, hbe0, hrow0, indexAddrV, elemIs, hpl, hpb, hpe, hpm, hc, hrw, eT, g4]
        refine next _ _ _ (by simp [t0]) (by simp [t2]) (by simp [t10]) (by simp [t11]) (by simp) ?_
        simp [decP, hup, roleB, hir, hha]
      · rw [hha] at hrw eT
        simp [t0, eo, eB]
        refine selS_intro (fun hd => ?_) (fun hd => ?_)
        · simp [t0, t2, t10, t11, t12, hb1, hid1, hbe0, hrow0, indexAddrV, elemIs, hpl, hpb, hpe, hpm, hc, hrw, eT, g4]
          refine next _ _ _ (by simp [t0]) (by simp [t2]) (by simp [t10]) (by simp [t11]) (by simp) ?_
          simp [decP, hup, roleB, hir, hha, hd]
        · simp [t0, t2, t10, t11, t12, hb1, hid1, hbe0, hrow0, indexAddrV, elemIs, hpl, hpb, hpe, hpm, hc, hrw, eT, g4]
          refine next _ _ _ (by simp [t0]) (by simp [t2]) (by simp [t10]) (by simp [t11]) (by simp) ?_
          simp [decP, hup, roleB, hir, hha, hd]
  · simp at hc
    obtain rfl : i = b.ports.length := by omega
    simp [t0, t2, t10, t11, t12]
    refine he' _ _ _ ?_
    simp
    refine hQ _ _ _ (by simp) ?_
    rw [mixL_all _ _ (Nat.le_refl _)] at ho1
    simp [Tryz.f159]
    exact ⟨leave_own ho1 ho.lt, leave_keep' hk1⟩

theorem copyBridge {H : Heap} {l : List Lf} {b : Bridge} (h : RdBridge H l b) (hn : b.sz ≤ 1048576) : Runs env 148 [.agg l] H fun v H' => ∃ l' fp, v = .agg l' ∧ IsBridge H' l' b fp ∧ Fresh H H' fp := by
  obtain ⟨a, rfl, h⟩ := h
  refine Runs.walk ok148 Tryz.func148 rfl (by simp [Tryz.f148]) fun Q hQ => ?_
  simp only [Tryz.f148, strip, stripL, stripI, stripG, chkT, tagsB, tagsL, tagD, addT, tagA, lookN, tagOp, elmT, ty24, ty25, ty26, ty27, ty28, ty39, ty40, ty41, ty42, ty57, ty59, ty62, ty98, Nat.reduceEqDiff, if_false, reduceIte, Option.getD_some, Option.getD_none, dstAt, dstOk, Nat.reduceLT, decide_true, if_true]
  simp [Bridge.enc]
  refine stpL_runs_f (clonePortS (q := .sl a b.ports.length) ⟨a, rfl, h.app _⟩ hn) (by rintro _ _ ⟨_, _, _, _, hf⟩; exact hf.1) ?_
  rintro _ H1 ⟨_, f, rfl, ⟨a1, rfl, o1⟩, ⟨⟨G, rfl⟩, hf⟩⟩
  simp
  refine hQ _ _ _ (by simp) ?_
  simp [Tryz.f148]
  have ho : IsBridge (H ++ [some ⟨100, .wr, [b.enc a]⟩, some ⟨100, .wr, [b.enc a1]⟩] ++ G) (b.enc a1) b f := ⟨a1, rfl, o1.keep (Keep.swap G (by simp)) fun i hi => by have := hf i hi; simp at this ⊢; omega⟩
  simp [Bridge.enc] at ho
  obtain ⟨f', h1, h2⟩ := ho.leave (H := H) (ws := [W.agg (b.enc a1)]) (Fresh.app H _ fun i hi => by have := hf i hi; simp at this; omega) (by simp [Bridge.enc])
  exact ⟨f', h1, h2⟩

theorem specCopyB {H : Heap} {l : List Lf} {b : Bridge} (h : RdBridge H l b) (hn : b.sz ≤ 1048576) : Runs env 134 [.agg l] H fun v H' => ∃ l' fp, v = .agg l' ∧ IsBridge H' l' b fp ∧ Fresh H H' fp := by
  obtain ⟨a, rfl, h⟩ := h
  have hn : b.ports.length ≤ 1048576 := hn
  refine Runs.walk ok134 Tryz.func134 rfl (by simp [Tryz.f134]) fun Q hQ => ?_
  simp only [Tryz.f134, strip, stripL, stripI, stripG, chkT, tagsB, tagsL, tagD, addT, tagA, lookN, tagOp, elmT, ty24, ty25, ty26, ty27, ty28, ty39, ty40, ty41, ty42, ty57, ty59, ty62, ty98, Nat.reduceEqDiff, if_false, reduceIte, Option.getD_some, Option.getD_none, dstAt, dstOk, Nat.reduceLT, decide_true, if_true]
  simp [Bridge.enc]
  refine stpL_append (rows := []) (ys := b.ports.map Port.enc) (Own.of (by simp)) (h.app _) rfl rfl rfl (by simp) (by simp; omega) rfl (by simp) fun a1 H1 f o1 hk hf => ?_
  obtain ⟨⟨G, rfl⟩, hf⟩ : Fresh (H ++ [some ⟨100, .wr, [b.enc a]⟩, some ⟨100, .wr, [(⟨0, []⟩ : Bridge).enc none]⟩]) H1 f := by
    refine Fresh.grow (fp := [H.length + 2]) (G := [some ⟨134, .wr, []⟩]) (by simp) (by simpa [Bridge.enc] using hk) ?_
    intro i hi
    have := hf i hi
    simp at this ⊢
    omega
  simp
  refine hQ _ _ _ (by simp) ?_
  simp [Tryz.f134]
  have ho : IsBridge (H ++ [some ⟨100, .wr, [b.enc a]⟩, some ⟨100, .wr, [b.enc a1]⟩] ++ G) (b.enc a1) b f := ⟨a1, rfl, o1.keep (Keep.swap G (by simp)) fun i hi => by have := hf i hi; simp at this ⊢; omega⟩
  simp [Bridge.enc] at ho
  obtain ⟨f', h1, h2⟩ := ho.leave (H := H) (ws := [W.agg (b.enc a1)]) (Fresh.app H _ fun i hi => by have := hf i hi; simp at this; omega) (by simp [Bridge.enc])
  exact ⟨f', h1, h2⟩

theorem specDecide {H : Heap} {l : List Lf} {b : Bridge} (h : RdBridge H l b) (hok : b.ok = true) : Runs env 146 [.agg l] H fun v H' => ∃ l' fp, v = .agg l' ∧ IsBridge H' l' (decideB b) fp ∧ Fresh H H' fp := by
  obtain ⟨hpok, -, -, hl1, hl4⟩ := Bridge.ok_all hok
  have hR := h
  have hsz : b.sz ≤ 1048576 := by have : b.sz = b.ports.length := rfl; omega
  have e1 := fun G => specBridgeOk_is (hR.app G) hsz
  have e2 := fun G => specRootPort (hR.app G) hsz
  have hrp : rootPort b = (rootAt b, decide (0 ≤ rootAt b)) := by simp [rootPort, hok]
  rw [hrp] at e2
  rw [hok] at e1
  obtain ⟨a, rfl, h_⟩ := h
  simp only [Bridge.enc] at e1 e2
  refine Runs.walk ok146 Tryz.func146 rfl (by simp [Tryz.f146]) fun Q hQ => ?_
  simp only [Tryz.f146, strip, stripL, stripI, stripG, chkT, tagsB, tagsL, tagD, addT, tagA, lookN, tagOp, elmT, ty24, ty25, ty26, ty27, ty28, ty39, ty40, ty41, ty42, ty57, ty59, ty62, ty98, Nat.reduceEqDiff, if_false, reduceIte, Option.getD_some, Option.getD_none, dstAt, dstOk, Nat.reduceLT, decide_true, if_true]
  simp [Bridge.enc]
  refine stpL_runs (specCopyB (hR.app _) hsz) ?_
  rintro _ _ ⟨_, f1, rfl, ⟨a1, rfl, o1⟩, ⟨⟨G1, rfl⟩, hf1⟩⟩
  have hlt1 := o1.lt
  simp [Bridge.enc, e1, e2]
  obtain ⟨H3, hH3⟩ : ∃ H3 : Heap, H3 = H ++ some ⟨100, .wr, [[.i .i64 b.id, .sl a b.ports.length]]⟩ :: some ⟨100, .wr, [[.i .i64 0, .sl none 0]]⟩ :: (G1 ++ [some ⟨100, .wr, [[.i .i64 b.id, .sl a1 b.ports.length]]⟩]) := ⟨_, rfl⟩
  have b1 : blkAt H3 H.length = some ⟨100, .wr, [[.i .i64 b.id, .sl a b.ports.length]]⟩ := by rw [hH3]; simp
  have b2 : blkAt H3 (H.length + 1) = some ⟨100, .wr, [[.i .i64 0, .sl none 0]]⟩ := by rw [hH3]; simp
  have b3 : blkAt H3 (H.length + (G1.length + 1 + 1)) = some ⟨100, .wr, [[.i .i64 b.id, .sl a1 b.ports.length]]⟩ := by rw [hH3]; simp
  have o3 : Own H3 134 a1 (b.ports.map Port.enc) f1 := by
    rw [hH3]
    have := o1.app [some ⟨100, .wr, [[.i .i64 b.id, .sl a1 b.ports.length]]⟩]
    simpa [Bridge.enc] using this
  have k03 : Keep [] H H3 := by rw [hH3]; exact Keep.app _ _ _
  have n1 : H.length ∉ f1 := fun hi => by have := hf1 _ hi; simp only [List.length_append, List.length_cons, List.length_nil] at this; omega
  have n2 : H.length + 1 ∉ f1 := fun hi => by have := hf1 _ hi; simp only [List.length_append, List.length_cons, List.length_nil] at this; omega
  have n3 : H.length + (G1.length + 1 + 1) ∉ f1 := fun hi => by have := hlt1 _ hi; simp only [List.length_append, List.length_cons, List.length_nil] at this; omega
  have n0 : ∀ i ∈ f1, H.length ≤ i := fun i hi => by have := hf1 _ hi; simp only [List.length_append, List.length_cons, List.length_nil] at this; omega
  rw [← hH3]
  clear o1 hH3 hf1 hlt1
  refine wpS_loop (fun j tm H' => ∃ i, i + j = b.ports.length ∧ tm 1 = .ptr H.length 0 0 ∧ tm 2 = .ptr (H.length + 1) 0 0 ∧ tm 3 = .ptr (H.length + (G1.length + 1 + 1)) 0 0 ∧ tm 4 = .int (rootAt b) ∧ tm 6 = .int i ∧ Own H' 134 a1 ((mixL (decP b) b.ports i).map Port.enc) f1 ∧ Keep f1 H3 H') b.ports.length (by rw [env_K]; omega) ⟨0, by simp, by simp, by simp, by simp, by simp, by simp, by rw [mixL_zero]; exact o3, Keep.refl _ _⟩ ?_
  rintro j tm H1 hj ⟨i, hij, t1, t2, t3, t4, t6, ho1, hk1⟩ Q' hn' he' hr'
  have c1 := hk1.blk b1 n1
  have c2 := hk1.blk b2 n2
  have c3 := hk1.blk b3 n3
  have d1 := blkAt_len c1
  have d2 := blkAt_len c2
  have d3 := blkAt_len c3
  have k01 : Keep [] H H1 := k03.next hk1 n0
  simp [t1, t6, c1, builtinV, pureB, lenV]
  refine selS_intro (fun hc => ?_) (fun hc => ?_)
  · simp at hc
    have hR1 := hR.base k01
    have h1 := h_.keep k01 (by simp)
    obtain ⟨id2, r2, bl2, rfl, hbl, hbe, hrow⟩ := h1 i _ (by simp [hc]; rfl)
    have hid2 := blkAt_len hbl
    obtain ⟨pid, pb, rfl, rfl, hpb, hpe, hpm, hpre⟩ := ho1.blk (by intro h; have := congrArg List.length h; simp only [List.length_map, mixL_len, List.length_nil] at this; omega)
    have hpl := blkAt_len hpb
    obtain ⟨t, ht⟩ := hpre
    have hrw : ∃ row, pb.rows[i]? = some row ∧ row.length = 11 := by
      refine ⟨b.ports[i].enc, ?_, rfl⟩
      rw [← ht, List.getElem?_append_left (by simp; omega), List.getElem?_map, mixL_at _ _ (Nat.le_refl _), List.getElem?_eq_getElem hc]; rfl
    obtain ⟨row0, hrw, hrlen⟩ := hrw
    obtain ⟨hrl, hrw⟩ := List.getElem?_eq_some_iff.1 hrw
    have hdrop : row0.drop 11 = [] := List.drop_of_length_le (by omega)
    have g4 : IntKind.i64.wrap ((i : Int) + 1) = (i : Int) + 1 := wrap64 (by omega) (by omega)
    have eo := fun G => specOwn (hR1.app G) hok (port := (i : Int)) (by omega) (by omega)
    simp only [Bridge.enc] at eo
    have next : ∀ (tm' : Ab.T) (G' : Heap) (row : List Lf), tm' 1 = .ptr H.length 0 0 → tm' 2 = .ptr (H.length + 1) 0 0 → tm' 3 = .ptr (H.length + (G1.length + 1 + 1)) 0 0 → tm' 4 = .int (rootAt b) → tm' 6 = .int ((i : Int) + 1) → row = (decP b i b.ports[i]).enc → Q' .normal tm' (H1.set pid (some ⟨134, .wr, pb.rows.set i row⟩) ++ G') := by
      rintro tm' G' row a1 a2 a3 a4 a6 rfl
      refine hn' (j - 1) _ _ (by omega) ⟨i + 1, by omega, a1, a2, a3, a4, by simpa using a6, ?_, ?_⟩
      · have := ho1.set (row := (decP b i b.ports[i]).enc) hpb (i := i) (by simp; omega)
        rw [hpm, hpe] at this
        rw [← mixL_step _ _ hc, List.map_set]
        exact this.app _
      · exact Keep.trans (h := [pid]) (hk1.trans (h := [pid]) (Keep.set _ _) (by simp) (by simp)) (Keep.app [] _ _) (by simp) (by simp)
    have keepit : ∀ (tm' : Ab.T) (G' : Heap), tm' 1 = .ptr H.length 0 0 → tm' 2 = .ptr (H.length + 1) 0 0 → tm' 3 = .ptr (H.length + (G1.length + 1 + 1)) 0 0 → tm' 4 = .int (rootAt b) → tm' 6 = .int ((i : Int) + 1) → b.ports[i].up = false → Q' .normal tm' (H1 ++ G') := by
      intro tm' G' a1 a2 a3 a4 a6 hu
      refine hn' (j - 1) _ _ (by omega) ⟨i + 1, by omega, a1, a2, a3, a4, by simpa using a6, ?_, hk1.trans (Keep.app [] _ _) (by simp) (by simp)⟩
      rw [mixL_same _ _ hc (by unfold decP; rw [if_neg (by rw [hu]; simp)])]
      exact ho1.app _
    obtain ⟨p, hp⟩ : ∃ p, p = b.ports[i] := ⟨_, rfl⟩
    rw [← hp] at hrow next keepit
    have eT : ∀ H role, run env 154 [.agg [.b p.up, .b p.has, .i .i64 p.vec.root, .i .i64 p.vec.cost, .i .i64 p.vec.bridge, .i .i64 p.vec.port, .i .i64 p.hops, .i .i64 p.left, .i .i64 p.role, .i .i64 p.wait, .b p.opn], .int role] H = some (.agg (turnP p role).enc, H) := fun H role => specTurn H p role
    have eB : ∀ H, run env 151 [.agg [.i .i64 p.vec.root, .i .i64 p.vec.cost, .i .i64 p.vec.bridge, .i .i64 p.vec.port], .agg (ownV b i).enc] H = some (.bool (better p.vec (ownV b i)), H) := fun H => specBetter H p.vec (ownV b i)
    simp only [Port.enc] at hrow
    simp [t1, t2, t3, t4, t6, c1, c2, c3, d1, d2, d3, indexAddrV, elemIs, hid2, hbl, hbe, hc, hrow]
    have fin : ∀ role, roleB b i p = role → p.up = true → decP b i p = turnP p role := fun role h1 h2 => by rw [decP, if_pos h2, h1]
    cases hup : p.up
    · rw [hup] at hrow eT
      by_cases hir : (i : Int) = rootAt b
      · simp [hir, t1, t2, t3, t4, t6]
        rw [← hir]
        simp [t1, t2, t3, t4, t6, g4]
        exact keepit _ _ (by simp [t1]) (by simp [t2]) (by simp [t3]) (by simp [t4]) (by simp) hup
      · simp [hir]
        cases hha : p.has
        · simp [t1, t2, t3, t4, t6, g4]
          exact keepit _ _ (by simp [t1]) (by simp [t2]) (by simp [t3]) (by simp [t4]) (by simp) hup
        · simp [t1, t6, c1, d1, eo, eB]
          refine selS_intro (fun hd => ?_) (fun hd => ?_)
          all_goals (simp [t1, t2, t3, t4, t6, g4]; exact keepit _ _ (by simp [t1]) (by simp [t2]) (by simp [t3]) (by simp [t4]) (by simp) hup)
    rw [hup] at hrow eT
    by_cases hir : (i : Int) = rootAt b
    · simp [hir, t1, t2, t3, t4, t6]
      rw [← hir]
      simp [t1, t2, t3, t4, t6, c1, c2, c3, d1, d2, d3, indexAddrV, elemIs, hpl, hpb, hpe, hpm, hc, hrw, hrlen, hdrop, hrl, eT, g4]
      exact next _ _ _ (by simp [t1]) (by simp [t2]) (by simp [t3]) (by simp [t4]) (by simp) (by rw [fin 1 (by simp [roleB, hir]) hup])
    · simp [hir]
      cases hha : p.has
      · rw [hha] at hrow eT
        simp [t1, t2, t3, t4, t6, c1, c2, c3, d1, d2, d3, indexAddrV, elemIs, hpl, hpb, hpe, hpm, hc, hrw, hrlen, hdrop, hrl, eT, g4]
        exact next _ _ _ (by simp [t1]) (by simp [t2]) (by simp [t3]) (by simp [t4]) (by simp) (by rw [fin 2 (by simp [roleB, hir, hha]) hup])
      · rw [hha] at hrow eT
        simp [t1, t6, c1, d1, eo, eB]
        refine selS_intro (fun hd => ?_) (fun hd => ?_)
        · simp [t1, t2, t3, t4, t6, c1, c2, c3, d1, d2, d3, indexAddrV, elemIs, hpl, hpb, hpe, hpm, hc, hrw, hrlen, hdrop, hrl, eT, g4]
          exact next _ _ _ (by simp [t1]) (by simp [t2]) (by simp [t3]) (by simp [t4]) (by simp) (by rw [fin 3 (by simp [roleB, hir, hha, hd]) hup])
        · simp [t1, t2, t3, t4, t6, c1, c2, c3, d1, d2, d3, indexAddrV, elemIs, hpl, hpb, hpe, hpm, hc, hrw, hrlen, hdrop, hrl, eT, g4]
          exact next _ _ _ (by simp [t1]) (by simp [t2]) (by simp [t3]) (by simp [t4]) (by simp) (by rw [fin 2 (by simp [roleB, hir, hha, hd]) hup])
  · simp at hc
    obtain rfl : i = b.ports.length := by omega
    simp [t1, t6]
    refine he' _ _ _ ?_
    simp [t2, t3, c2, c3, d2, d3]
    refine hQ _ _ _ (by simp) ?_
    rw [mixL_all _ _ (Nat.le_refl _)] at ho1
    simp [Tryz.f146, t2, blkAt_set d2]
    have kf : Keep [] H (H1.set (H.length + 1) (some ⟨100, .wr, [[.i .i64 b.id, .sl a1 b.ports.length]]⟩)) := k01.next (Keep.set _ _) (by simp)
    have ho : IsBridge (H1.set (H.length + 1) (some ⟨100, .wr, [[.i .i64 b.id, .sl a1 b.ports.length]]⟩)) [.i .i64 b.id, .sl a1 b.ports.length] (decideB b) f1 := ⟨a1, by simp [Bridge.enc, decideB], ho1.keep (Keep.set _ _) (fun i hi hj => by simp at hj; subst hj; exact n2 hi)⟩
    exact ho.leave ⟨kf.ext, n0⟩ (by simp)

theorem leave_both (H H' : Heap) (ws : List W) : leave H H' ws = H' ∨ (leave H H' ws = H ∧ ws.all W.free = true ∧ ∃ G, H' = H ++ G) := by
  unfold leave
  split
  · rename_i h
    refine .inr ⟨rfl, h.1, H'.drop H.length, ?_⟩
    have := List.take_append_drop H.length H'
    rw [h.2] at this
    exact this.symm
  · exact .inl rfl
theorem grow_next {H2 H' H'' T : Heap} {fp' fp'' : List Nat} (hK : Keep [] H2 H') (hf : ∀ j ∈ fp', H2.length ≤ j) (hk : Keep fp' (H' ++ T) H'') (h : ∀ j ∈ fp'', j ∈ fp' ∨ (H' ++ T).length ≤ j) : Keep [] H2 H'' ∧ ∀ j ∈ fp'', H2.length ≤ j := by
  have h1 := hK.1
  refine ⟨(Keep.trans (h := []) hK (Keep.app [] H' T) (by simp) (by simp)).next hk hf, fun j hj => ?_⟩
  rcases h j hj with h2 | h2
  · exact hf j h2
  · rw [List.length_append] at h2; omega
theorem keep_more0 {H H' : Heap} (h : Keep [] H H') (T : Heap) : Keep [] H (H' ++ T) := Keep.trans (h := []) h (Keep.app [] _ _) (by simp) (by simp)

def upPort : Port := ⟨true, false, ⟨0, 0, 0, 0⟩, 0, 0, 3, 0, false⟩
def inB (b : Bridge) (x : In) : Bridge := if x.kind = 1 then ⟨b.id, b.ports.set x.port.toNat (claimP (b.ports.getD x.port.toNat default) x.vec x.hops)⟩ else if x.kind = 2 then tickB b else ⟨b.id, b.ports.set x.port.toNat (if x.up = true then upPort else Port.zv)⟩
/-- A link that is as it was: nothing turns. -/
def quiet (b : Bridge) (x : In) : Prop := x.kind = 3 ∧ (b.ports.getD x.port.toNat default).up = x.up
instance (b : Bridge) (x : In) : Decidable (quiet b x) := inferInstanceAs (Decidable (_ ∧ _))
def nextB (b : Bridge) (x : In) : Bridge := if quiet b x then b else decideB (inB b x)
theorem inB_id (b : Bridge) (x : In) : (inB b x).id = b.id := by unfold inB; split <;> (try split) <;> rfl
theorem inB_len (b : Bridge) (x : In) : (inB b x).ports.length = b.ports.length := by unfold inB; split <;> (try split) <;> simp [tickB]
theorem set_ok {b : Bridge} (h : b.ok = true) {k : Nat} {p : Port} (hp : p.ok = true) : (⟨b.id, b.ports.set k p⟩ : Bridge).ok = true := by
  obtain ⟨h1, h2⟩ := Bridge.ok_all h
  refine Bridge.ok_of (fun q hq => ?_) (by simpa using h2)
  rcases List.mem_or_eq_of_mem_set hq with hq | rfl
  · exact h1 _ hq
  · exact hp
theorem upPort_ok : upPort.ok = true := by decide
theorem zv_ok : Port.zv.ok = true := by decide
theorem inB_ok {b : Bridge} {x : In} (h : b.ok = true) (hk : x.port.toNat < b.ports.length) : (inB b x).ok = true := by
  unfold inB
  split
  · refine set_ok h (claimP_ok _ _ ?_)
    simp only [List.getD, List.getElem?_eq_getElem hk, Option.getD_some]
    exact Bridge.ok_at h hk
  · split
    · exact tickB_ok h
    · refine set_ok h ?_
      split
      · exact upPort_ok
      · exact zv_ok
theorem nextB_ok {b : Bridge} {x : In} (h : b.ok = true) (hk : x.port.toNat < b.ports.length) : (nextB b x).ok = true := by
  unfold nextB
  split
  · exact h
  · exact decideB_ok (inB_ok h hk)
theorem nextB_id (b : Bridge) (x : In) : (nextB b x).id = b.id := by
  unfold nextB; split
  · rfl
  · simp [decideB, inB_id]
theorem nextB_len (b : Bridge) (x : In) : (nextB b x).ports.length = b.ports.length := by
  unfold nextB; split
  · rfl
  · simp [decideB, inB_len]
theorem In.ok_kind {x : In} (h : x.ok = true) : (x.kind = 1 ∨ x.kind = 2 ∨ x.kind = 3) ∧ 0 ≤ x.port ∧ x.port ≤ 3 := by
  unfold In.ok at h
  split at h
  · rename_i h1
    simp at h
    exact ⟨.inl h1, h.1.1.1⟩
  · split at h
    · rename_i h1
      simp at h
      exact ⟨.inr (.inr h1), h.1.1⟩
    · simp at h
      rw [h]
      decide

theorem l8InM {H : Heap} {l : List Lf} {b : Bridge} {fp : List Nat} (h : IsBridge H l b fp) (hok : b.ok = true) (x : In) (hx : x.ok = true) {k : Nat} (hk : x.port = k) (hkl : k < b.ports.length) :
    Runs env 135 [.agg l, .agg x.enc] H fun v H' => ∃ l' fp', v = .agg l' ∧ IsBridge H' l' (nextB b x) fp' ∧ Keep fp H H' ∧ (∀ i ∈ fp', i ∈ fp ∨ H.length ≤ i) := by
  obtain ⟨hpok, -, -, hl1, hl4⟩ := Bridge.ok_all hok
  have hlt := h.lt
  obtain ⟨a, rfl, ho⟩ := h
  obtain ⟨pid, pb, rfl, rfl, hpb, hpe, hpm, hpre⟩ := ho.blk (by intro h; have := congrArg List.length h; simp only [List.length_map, List.length_nil] at this; omega)
  have hxk := (In.ok_kind hx).1
  have hkT : x.port.toNat = k := by omega
  have hgd : b.ports.getD x.port.toNat default = b.ports[k] := by rw [hkT]; simp [List.getD, List.getElem?_eq_getElem hkl]
  have hkl2 : (k : Int) < (b.ports.length : Int) := by omega
  have hpl := blkAt_len hpb
  obtain ⟨t, ht⟩ := hpre
  have hrw0 : pb.rows[k]? = some b.ports[k].enc := by
    rw [← ht, List.getElem?_append_left (by simp; omega), List.getElem?_map, List.getElem?_eq_getElem hkl]; rfl
  obtain ⟨hrl, hrw⟩ := List.getElem?_eq_some_iff.1 hrw0
  refine Runs.walk ok135 Tryz.func135 rfl (by simp [Tryz.f135]) fun Q hQ => ?_
  simp only [Tryz.f135, strip, stripL, stripI, stripG, chkT, tagsB, tagsL, tagD, addT, tagA, lookN, tagOp, elmT, ty24, ty25, ty26, ty27, ty28, ty39, ty40, ty41, ty42, ty57, ty59, ty62, ty98, Nat.reduceEqDiff, if_false, reduceIte, Option.getD_some, Option.getD_none, dstAt, dstOk, Nat.reduceLT, decide_true, if_true]
  simp [Bridge.enc, In.enc]
  obtain ⟨H3, hH3⟩ : ∃ H3 : Heap, H3 = H ++ [some ⟨100, .wr, [[.i .i64 b.id, .sl (some (pid, 0)) b.ports.length]]⟩, some ⟨50, .wr, [[.i .i64 x.kind, .i .i64 x.port, .i .i64 x.vec.root, .i .i64 x.vec.cost, .i .i64 x.vec.bridge, .i .i64 x.vec.port, .i .i64 x.hops, .b x.up]]⟩, some ⟨100, .wr, [[.i .i64 0, .sl none 0]]⟩] := ⟨_, rfl⟩
  have b1 : blkAt H3 H.length = some ⟨100, .wr, [[.i .i64 b.id, .sl (some (pid, 0)) b.ports.length]]⟩ := by rw [hH3]; simp
  have b2 : blkAt H3 (H.length + 1) = some ⟨50, .wr, [[.i .i64 x.kind, .i .i64 x.port, .i .i64 x.vec.root, .i .i64 x.vec.cost, .i .i64 x.vec.bridge, .i .i64 x.vec.port, .i .i64 x.hops, .b x.up]]⟩ := by rw [hH3]; simp
  have b3 : blkAt H3 (H.length + 2) = some ⟨100, .wr, [[.i .i64 0, .sl none 0]]⟩ := by rw [hH3]; simp
  have o3 : Own H3 134 (some (pid, 0)) (b.ports.map Port.enc) [pid] := by rw [hH3]; exact ho.app _
  have p3 : blkAt H3 pid = some pb := by rw [hH3]; exact blkAt_app hpb _
  have k03 : Keep [] H H3 := by rw [hH3]; exact Keep.app _ _ _
  have hl3 : H3.length = H.length + 3 := by rw [hH3]; simp
  rw [← hH3]
  clear hH3
  have n1 : H.length ∉ [pid] := by simp; omega
  have n3 : H.length + 2 ∉ [pid] := by simp; omega
  have d1 := blkAt_len b1
  have d2 := blkAt_len b2
  have dp := blkAt_len p3
  obtain ⟨p, hp⟩ : ∃ p, p = b.ports[k] := ⟨_, rfl⟩
  rw [← hp] at hrw hgd
  have fin : ∀ (Hf : Heap) (tm : Ab.T) (c : Bridge) (pid2 : Nat) (fp2 : List Nat), tm 4 = .ptr (H.length + 2) 0 0 → blkAt Hf (H.length + 2) = some ⟨100, .wr, [[.i .i64 c.id, .sl (some (pid2, 0)) c.ports.length]]⟩ → Own Hf 134 (some (pid2, 0)) (c.ports.map Port.enc) fp2 → c = nextB b x → Keep [pid] H Hf → (∀ i ∈ fp2, i ∈ [pid] ∨ H.length ≤ i) → Q .ret tm Hf := by
    intro Hf tm c pid2 fp2 t4 hb4 ho4 hc hK hfp
    refine hQ _ _ _ (by simp) ?_
    have hlv : leave H Hf [W.agg [.i .i64 c.id, .sl (some (pid2, 0)) c.ports.length]] = Hf := by simp [leave, refFree]
    simp [Tryz.f135, t4, hb4, hlv]
    exact ⟨fp2, ⟨some (pid2, 0), by rw [hc]; rfl, by rw [← hc]; exact ho4⟩, hK, by simpa using hfp⟩
  refine selS_cut (f1 := [.blk 0]) (fun tm H' => ¬ quiet b x ∧ tm 2 = .ptr H.length 0 0 ∧ tm 4 = .ptr (H.length + 2) 0 0 ∧ Own H' 134 (some (pid, 0)) ((inB b x).ports.map Port.enc) [pid] ∧ Keep [pid] H3 H') ?_ ?_
  · intro Q' hn' he' hr'
    rcases hxk with hx1 | hx2 | hx3
    · have eC : ∀ H, run env 144 [.agg [.b p.up, .b p.has, .i .i64 p.vec.root, .i .i64 p.vec.cost, .i .i64 p.vec.bridge, .i .i64 p.vec.port, .i .i64 p.hops, .i .i64 p.left, .i .i64 p.role, .i .i64 p.wait, .b p.opn], .agg [.i .i64 x.vec.root, .i .i64 x.vec.cost, .i .i64 x.vec.bridge, .i .i64 x.vec.port], .int x.hops] H = some (.agg (claimP p x.vec x.hops).enc, H) := fun H => specClaim H p x.vec x.hops
      rw [hx1] at b2 ⊢
      simp [b1, b2, d1, d2, hk, indexAddrV, elemIs, dp, p3, hpe, hpm, hkl2, hkl, hrl, hrw, Port.enc, eC]
      refine hn' _ _ ⟨by unfold quiet; omega, by simp, by simp, ?_, Keep.set _ _⟩
      have := o3.set (row := (claimP p x.vec x.hops).enc) p3 (i := k) (by simp; omega)
      rw [hpm, hpe] at this
      unfold inB
      rw [if_pos hx1, hgd, hkT, List.map_set]
      exact this
    · rw [hx2] at b2 ⊢
      simp [b1, b2, d1, d2]
      refine wpS_loop (fun j tm H' => ∃ i, i + j = b.ports.length ∧ tm 2 = .ptr H.length 0 0 ∧ tm 4 = .ptr (H.length + 2) 0 0 ∧ tm 5 = .int i ∧ Own H' 134 (some (pid, 0)) ((mixL (fun _ p => tickP p) b.ports i).map Port.enc) [pid] ∧ Keep [pid] H3 H') b.ports.length (by rw [env_K]; omega) ⟨0, by simp, by simp, by simp, by simp, by rw [mixL_zero]; exact o3, Keep.refl _ _⟩ ?_
      rintro j tm H1 hj ⟨i, hij, t2, t4, t5, ho1, hk1⟩ Q2 hn2 he2 hr2
      have c1 := hk1.blk b1 n1
      have e1 := blkAt_len c1
      simp [t2, t4, t5, c1, e1, builtinV, pureB, lenV]
      refine selS_intro (fun hc => ?_) (fun hc => ?_)
      · simp at hc
        obtain ⟨pid', qb, hxx, -, hqb, hqe, hqm, hpre'⟩ := ho1.blk (by intro h; have := congrArg List.length h; simp only [List.length_map, mixL_len, List.length_nil] at this; omega)
        cases hxx
        have hql := blkAt_len hqb
        obtain ⟨t', ht'⟩ := hpre'
        have hrw1 : qb.rows[i]? = some b.ports[i].enc := by
          rw [← ht', List.getElem?_append_left (by simp; omega), List.getElem?_map, mixL_at _ _ (Nat.le_refl _), List.getElem?_eq_getElem hc]; rfl
        obtain ⟨hrl1, hrw1⟩ := List.getElem?_eq_some_iff.1 hrw1
        have g4 : IntKind.i64.wrap ((i : Int) + 1) = (i : Int) + 1 := wrap64 (by omega) (by omega)
        have eT := fun H => l8Tick H b.ports[i] (hpok _ (List.getElem_mem hc))
        simp [t2, t4, t5, c1, e1, indexAddrV, elemIs, hql, hqb, hqe, hqm, hc, hrl1, hrw1, eT, g4]
        refine hn2 (j - 1) _ _ (by omega) ⟨i + 1, by omega, by simp [t2], by simp [t4], by simp, ?_, hk1.trans (h := [pid]) (Keep.set _ _) (by simp) (by simp)⟩
        have := ho1.set (row := (tickP b.ports[i]).enc) hqb (i := i) (by simp; omega)
        rw [hqm, hqe] at this
        rw [← mixL_step _ _ hc, List.map_set]
        exact this
      · simp at hc
        obtain rfl : i = b.ports.length := by omega
        simp [t2, t4, t5]
        refine he2 _ _ _ ?_
        simp
        refine hn' _ _ ⟨by unfold quiet; omega, by simp [t2], by simp [t4], ?_, hk1⟩
        rw [mixL_all _ _ (Nat.le_refl _)] at ho1
        unfold inB
        rw [if_neg (by omega), if_pos hx2]
        exact ho1
    · rw [hx3] at b2 ⊢
      simp [b1, b2, d1, d2, hk, indexAddrV, elemIs, dp, p3, hpe, hpm, hkl2, hkl, hrl, hrw, Port.enc]
      by_cases hup : p.up = x.up
      · have hq : quiet b x := ⟨hx3, by rw [hgd]; exact hup⟩
        have b4 := blkAt_len b3
        simp [hup, b1, b3, d1, b4]
        refine hr' _ _ ?_
        simp
        refine fin _ _ b pid [pid] (by simp) (by rw [blkAt_set b4]) (o3.keep (Keep.set _ _) (by simp; omega)) (by rw [nextB, if_pos hq]) ?_ (by simp)
        exact (k03.trans (h := [pid]) (Keep.set _ _) (by simp) (by simp; omega))
      · have hq : ¬ quiet b x := fun h => hup (by have := h.2; rwa [hgd] at this)
        simp [hup, b1, b2, d1, d2, hk, indexAddrV, elemIs, dp, p3, hpe, hpm, hkl2, hkl, hrl, hrw, Port.enc]
        have hset : ∀ q : Port, q = (if x.up = true then upPort else Port.zv) → Own (H3.set pid (some ⟨134, .wr, pb.rows.set k q.enc⟩)) 134 (some (pid, 0)) ((inB b x).ports.map Port.enc) [pid] := by
          intro q hq2
          have := o3.set (row := q.enc) p3 (i := k) (by simp; omega)
          rw [hpm, hpe] at this
          unfold inB
          rw [if_neg (by omega), if_neg (by omega), hkT, List.map_set, ← hq2]
          exact this
        have b1' := fun y => (Keep.set (id := pid) H3 y).blk b1 n1
        have b2' := fun y => (Keep.set (id := pid) H3 y).blk b2 (by simp; omega)
        cases hxu : x.up
        · rw [hxu] at b2' hset
          simp [b1', b2', d1, d2]
          refine hn' _ _ ⟨hq, by simp, by simp, ?_, Keep.set _ _⟩
          have := hset Port.zv (by simp)
          simpa [Port.enc] using this
        · rw [hxu] at b2' hset
          simp [b1', b2', d1, d2, dp, hpe, hpm, blkAt_set dp, indexAddrV, elemIs, hkl2, hkl, hrl, hk]
          refine hn' _ _ ⟨hq, by simp, by simp, ?_, Keep.set _ _⟩
          have := hset upPort (by simp)
          simpa [Port.enc, upPort] using this
  · rintro tm H1 ⟨hnq, t2, t4, ho1, hk1⟩
    have c1 := hk1.blk b1 n1
    have c3 := hk1.blk b3 n3
    have e1 := blkAt_len c1
    have e3 := blkAt_len c3
    have hR : RdBridge H1 [.i .i64 b.id, .sl (some (pid, 0)) b.ports.length] (inB b x) := ⟨some (pid, 0), by simp [Bridge.enc, inB_id, inB_len], ho1.sl⟩
    simp [t2, t4, c1, e1]
    refine stpL_runs (specDecide hR (inB_ok hok (by omega))) ?_
    rintro _ _ ⟨_, f2, rfl, ⟨a2, rfl, o2⟩, ⟨⟨G2, rfl⟩, hf2⟩⟩
    have hlen2 : (decideB (inB b x)).ports.length = b.ports.length := by simp [decideB, inB_len]
    obtain ⟨pid2, pb2, rfl, rfl, hpb2, -⟩ := o2.blk (by intro h; have := congrArg List.length h; simp only [List.length_map, List.length_nil] at this; omega)
    simp [Bridge.enc, t4, c3, e3]
    have e3' : H.length + 2 < (H1.set (H.length + 2) (some ⟨100, .wr, [[.i .i64 (decideB (inB b x)).id, .sl (some (pid2, 0)) (decideB (inB b x)).ports.length]]⟩)).length := by simp; exact e3
    have h13 := hk1.1
    have hp2 := hf2 pid2 (by simp)
    refine fin _ _ (decideB (inB b x)) pid2 [pid2] (by simp [t4]) ?_ ?_ (by rw [nextB, if_neg hnq]) ?_ (by simp; omega)
    · rw [blkAt_lt e3', blkAt_set e3]
    · have := o2.keep (Keep.set (id := H.length + 2) (H1 ++ G2) (some ⟨100, .wr, [[.i .i64 (decideB (inB b x)).id, .sl (some (pid2, 0)) (decideB (inB b x)).ports.length]]⟩)) (by simp; omega)
      rwa [set_lt e3] at this
    · have ha : Keep [pid] H H1 := k03.trans (h := [pid]) hk1 (by simp) (by simp)
      have hb : Keep [pid] H (H1 ++ G2) := ha.trans (h := [pid]) (Keep.app [] _ _) (by simp) (by simp)
      have := hb.trans (h := [pid]) (Keep.set (id := H.length + 2) (H1 ++ G2) (some ⟨100, .wr, [[.i .i64 (decideB (inB b x)).id, .sl (some (pid2, 0)) (decideB (inB b x)).ports.length]]⟩)) (by simp) (by simp; omega)
      rwa [set_lt e3] at this

def gateAt (b c : Bridge) (i : Nat) : List Out := match b.ports[i]?, c.ports[i]? with
  | some p, some q => if q.opn = p.opn then [] else [⟨2, i, ⟨0, 0, 0, 0⟩, 0, q.opn⟩]
  | _, _ => []
def claimAt (c : Bridge) (i : Nat) : List Out := match c.ports[i]? with
  | some q => if q.role = 2 then [⟨1, i, ownV c i, hopsB c, false⟩] else []
  | none => []
theorem gateAt_len (b c : Bridge) (i : Nat) : (gateAt b c i).length ≤ 1 := by
  unfold gateAt; split
  · split <;> simp
  · simp
theorem claimAt_len (c : Bridge) (i : Nat) : (claimAt c i).length ≤ 1 := by
  unfold claimAt; split
  · split <;> simp
  · simp
theorem gateAt_same (b : Bridge) : ∀ i, upto (gateAt b b) i = []
  | 0 => rfl
  | i + 1 => by
    rw [upto, gateAt_same b i]
    unfold gateAt
    cases b.ports[i]? <;> simp
def outsB (b c : Bridge) (x : In) : List Out := upto (gateAt b c) b.ports.length ++ (if x.kind = 2 then upto (claimAt c) b.ports.length else [])
def reactB (b : Bridge) (x : In) : Bridge × List Out := if (b.ok && x.ok && decide (x.port < b.ports.length)) = true then (nextB b x, outsB b (nextB b x) x) else (b, [])
theorem reactB_yes {b : Bridge} {x : In} (h1 : b.ok = true) (h2 : x.ok = true) (h3 : x.port < b.ports.length) : reactB b x = (nextB b x, outsB b (nextB b x) x) := by simp [reactB, h1, h2, h3]
theorem reactB_no {b : Bridge} {x : In} (h : ¬ (b.ok = true ∧ x.ok = true ∧ x.port < b.ports.length)) : reactB b x = (b, []) := by
  unfold reactB
  rw [if_neg]
  simp
  intro h1 h2
  exact Int.not_lt.1 fun h3 => h ⟨h1, h2, h3⟩
theorem quiet_outs {b : Bridge} {x : In} (h : quiet b x) : outsB b (nextB b x) x = [] := by
  unfold outsB nextB
  rw [if_pos h, gateAt_same, if_neg (by rw [h.1]; decide)]
  rfl
theorem outsB_len (b c : Bridge) (x : In) : (outsB b c x).length ≤ 2 * b.ports.length := by
  unfold outsB
  have h1 := upto_len (gateAt_len b c) b.ports.length
  have h2 := upto_len (claimAt_len c) b.ports.length
  rw [List.length_append]
  split
  · omega
  · simp; omega
theorem reactB_id (b : Bridge) (x : In) : (reactB b x).1.id = b.id := by
  unfold reactB; split
  · exact nextB_id b x
  · rfl
theorem reactB_len (b : Bridge) (x : In) : (reactB b x).1.ports.length = b.ports.length := by
  unfold reactB; split
  · exact nextB_len b x
  · rfl
theorem reactB_outs (b : Bridge) (x : In) : (reactB b x).2.length ≤ 2 * b.ports.length := by
  unfold reactB; split
  · exact outsB_len _ _ _
  · simp
theorem reactB_ok {b : Bridge} (x : In) (h : b.ok = true) : (reactB b x).1.ok = true := by
  unfold reactB; split
  · rename_i h1
    simp at h1
    have := (In.ok_kind h1.1.2).2
    exact nextB_ok h (by omega)
  · exact h

theorem reactM {H : Heap} {id ro : Nat} {blo : Blk} {b : Bridge} {a : Option (Nat × Nat)} {fp : List Nat} (hb : blkAt H id = some blo) (hbe0 : blo.elem = 100) (hrow0 : blo.rows[ro]? = some (b.enc a)) (ho : Own H 134 a (b.ports.map Port.enc) fp) (hidf : id ∉ fp) (hok : b.ok = true) (x : In) (hx : x.ok = true) {k : Nat} (hk : x.port = k) (hkl : k < b.ports.length) :
    Runs env 150 [.ptr id ro 0, .agg x.enc] H fun v H' => ∃ q fp2, v = .w (.lf q) ∧ IsOutS H' q (outsB b (nextB b x) x) fp2 ∧ Own H' 134 a ((nextB b x).ports.map Port.enc) fp ∧ Keep fp H H' ∧ (∀ i ∈ fp2, H.length ≤ i) := by
  obtain ⟨hpok, -, -, hl1, hl4⟩ := Bridge.ok_all hok
  obtain ⟨pid, pb, rfl, rfl, hpb, hpe, hpm, hpre⟩ := ho.blk (by intro h; have := congrArg List.length h; simp only [List.length_map, List.length_nil] at this; omega)
  have hxk := (In.ok_kind hx).1
  have hkT : x.port.toNat = k := by omega
  have hgd : b.ports.getD x.port.toNat default = b.ports[k] := by rw [hkT]; simp [List.getD, List.getElem?_eq_getElem hkl]
  have hkl2 : (k : Int) < (b.ports.length : Int) := by omega
  have hpl := blkAt_len hpb
  have hid0 := blkAt_len hb
  obtain ⟨t, ht⟩ := hpre
  have hrw0 : pb.rows[k]? = some b.ports[k].enc := by
    rw [← ht, List.getElem?_append_left (by simp; omega), List.getElem?_map, List.getElem?_eq_getElem hkl]; rfl
  obtain ⟨hrl, hrw⟩ := List.getElem?_eq_some_iff.1 hrw0
  have hrowE := hrow0
  simp only [Bridge.enc] at hrow0
  refine Runs.walk ok150 Tryz.func150 rfl (by simp [Tryz.f150]) fun Q hQ => ?_
  simp only [Tryz.f150, strip, stripL, stripI, stripG, chkT, tagsB, tagsL, tagD, addT, tagA, lookN, tagOp, elmT, ty24, ty25, ty26, ty27, ty28, ty39, ty40, ty41, ty42, ty57, ty59, ty62, ty98, Nat.reduceEqDiff, if_false, reduceIte, Option.getD_some, Option.getD_none, dstAt, dstOk, Nat.reduceLT, decide_true, if_true]
  simp [hb, hid0, hbe0, hrow0, In.enc]
  refine stpL_runs (clonePortS (q := .sl (some (pid, 0)) b.ports.length) ⟨some (pid, 0), rfl, ho.sl.app _⟩ (by omega)) ?_
  rintro _ _ ⟨_, f2, rfl, ⟨aw, rfl, ow⟩, ⟨⟨G1, rfl⟩, hf2⟩⟩
  simp only [List.append_assoc, List.cons_append, List.nil_append] at ow
  simp only [List.append_assoc, List.cons_append, List.nil_append]
  obtain ⟨H3, hH3⟩ : ∃ H3 : Heap, H3 = H ++ some ⟨50, .wr, [[.i .i64 x.kind, .i .i64 x.port, .i .i64 x.vec.root, .i .i64 x.vec.cost, .i .i64 x.vec.bridge, .i .i64 x.vec.port, .i .i64 x.hops, .b x.up]]⟩ :: G1 := ⟨_, rfl⟩
  have b2 : blkAt H3 H.length = some ⟨50, .wr, [[.i .i64 x.kind, .i .i64 x.port, .i .i64 x.vec.root, .i .i64 x.vec.cost, .i .i64 x.vec.bridge, .i .i64 x.vec.port, .i .i64 x.hops, .b x.up]]⟩ := by rw [hH3]; simp
  have o3 : Own H3 134 (some (pid, 0)) (b.ports.map Port.enc) [pid] := by rw [hH3]; exact ho.app _
  have p3 : blkAt H3 pid = some pb := by rw [hH3]; exact blkAt_app hpb _
  have hb3 : blkAt H3 id = some blo := by rw [hH3]; exact blkAt_app hb _
  have k03 : Keep [] H H3 := by rw [hH3]; exact Keep.app _ _ _
  rw [← hH3] at ow ⊢
  clear hH3
  have d2 := blkAt_len b2
  have dp := blkAt_len p3
  have db := blkAt_len hb3
  have hw0 := ow.sl
  have hf2' : ∀ i ∈ f2, i ∉ [pid] := fun i hi => by have := hf2 i hi; simp only [List.length_append, List.length_cons, List.length_nil] at this; simp; omega
  have hnp : H.length ∉ [pid] := by simp; omega
  have hpid : id ≠ pid := by simpa using hidf
  obtain ⟨p, hp⟩ : ∃ p, p = b.ports[k] := ⟨_, rfl⟩
  rw [← hp] at hrw hgd
  have fin : ∀ (Hf : Heap) (tm : Ab.T) (q : Lf) (fp2 : List Nat), tm 4 = .w (.lf q) → IsOutS Hf q (outsB b (nextB b x) x) fp2 → Own Hf 134 (some (pid, 0)) ((nextB b x).ports.map Port.enc) [pid] → Keep [pid] H Hf → (∀ i ∈ fp2, H.length ≤ i) → Q .ret tm Hf := by
    intro Hf tm q fp2 t4 hq ho4 hK hfp
    refine hQ _ _ _ (by simp) ?_
    simp [Tryz.f150, t4]
    rcases leave_both H Hf [W.lf q] with e | ⟨e, hfr, G, rfl⟩ <;> rw [e]
    · exact ⟨fp2, hq, ho4, hK, hfp⟩
    · exact ⟨[], hq.free (by simpa using hfr) H, ho4.unapp (by simpa using hpl), Keep.refl _ _, by simp⟩
  simp [hb3, db, hbe0, hrow0, hpid, b2, d2, indexAddrV, elemIs, dp, p3, hpe, hkl2, hk]
  refine selS_cut (f1 := [.blk 0]) (fun tm H' => ¬ quiet b x ∧ tm 0 = .ptr id ro 0 ∧ tm 3 = .ptr H.length 0 0 ∧ tm 5 = .w (.lf (.sl aw b.ports.length)) ∧ Own H' 134 (some (pid, 0)) ((inB b x).ports.map Port.enc) [pid] ∧ Keep [pid] H3 H') ?_ ?_
  · intro Q' hn' he' hr'
    rcases hxk with hx1 | hx2 | hx3
    · have eC : ∀ H, run env 157 [.agg [.b p.up, .b p.has, .i .i64 p.vec.root, .i .i64 p.vec.cost, .i .i64 p.vec.bridge, .i .i64 p.vec.port, .i .i64 p.hops, .i .i64 p.left, .i .i64 p.role, .i .i64 p.wait, .b p.opn], .agg [.i .i64 x.vec.root, .i .i64 x.vec.cost, .i .i64 x.vec.bridge, .i .i64 x.vec.port], .int x.hops] H = some (.agg (claimP p x.vec x.hops).enc, H) := fun H => implClaim H p x.vec x.hops
      rw [hx1] at b2 ⊢
      simp [b2, d2, hk, indexAddrV, elemIs, dp, p3, hpe, hpm, hkl2, hkl, hrl, hrw, Port.enc, eC]
      refine hn' _ _ ⟨by unfold quiet; omega, by simp, by simp, by simp, ?_, Keep.set _ _⟩
      have := o3.set (row := (claimP p x.vec x.hops).enc) p3 (i := k) (by simp; omega)
      rw [hpm, hpe] at this
      unfold inB
      rw [if_pos hx1, hgd, hkT, List.map_set]
      exact this
    · rw [hx2] at b2 ⊢
      simp
      refine stpL_runs (tickM hb3 hbe0 hrowE o3 (by simpa using hpid) hok) ?_
      rintro _ H4 ⟨rfl, o4, k4⟩
      simp
      refine hn' _ _ ⟨by unfold quiet; omega, by simp, by simp, by simp, ?_, k4⟩
      unfold inB
      rw [if_neg (by omega), if_pos hx2]
      exact o4
    · rw [hx3] at b2 ⊢
      simp [b2, d2, hk, indexAddrV, elemIs, dp, p3, hpe, hpm, hkl2, hkl, hrl, hrw, Port.enc]
      by_cases hup : p.up = x.up
      · have hq : quiet b x := ⟨hx3, by rw [hgd]; exact hup⟩
        simp [hup]
        refine hr' _ _ ?_
        simp
        refine fin _ _ _ [] (by simp; rfl) ?_ ?_ (k03.trans (h := [pid]) (Keep.refl [] _) (by simp) (by simp)) (by simp)
        · rw [quiet_outs hq]
          exact ⟨none, rfl, Own.nil _ _⟩
        · rw [nextB, if_pos hq]; exact o3
      · have hq : ¬ quiet b x := fun h => hup (by have := h.2; rwa [hgd] at this)
        simp [hup, b2, d2, hk, indexAddrV, elemIs, dp, p3, hpe, hpm, hkl2, hkl, hrl, hrw, Port.enc]
        have hset : ∀ q : Port, q = (if x.up = true then upPort else Port.zv) → Own (H3.set pid (some ⟨134, .wr, pb.rows.set k q.enc⟩)) 134 (some (pid, 0)) ((inB b x).ports.map Port.enc) [pid] := by
          intro q hq2
          have := o3.set (row := q.enc) p3 (i := k) (by simp; omega)
          rw [hpm, hpe] at this
          unfold inB
          rw [if_neg (by omega), if_neg (by omega), hkT, List.map_set, ← hq2]
          exact this
        have b2' := fun y => (Keep.set (id := pid) H3 y).blk b2 hnp
        cases hxu : x.up
        · rw [hxu] at b2' hset
          simp [b2', d2]
          refine hn' _ _ ⟨hq, by simp, by simp, by simp, ?_, Keep.set _ _⟩
          have := hset Port.zv (by simp)
          simpa [Port.enc] using this
        · rw [hxu] at b2' hset
          simp [b2', d2, dp, hpe, hpm, blkAt_set dp, indexAddrV, elemIs, hkl2, hkl, hrl, hk]
          refine hn' _ _ ⟨hq, by simp, by simp, by simp, ?_, Keep.set _ _⟩
          have := hset upPort (by simp)
          simpa [Port.enc, upPort] using this
  · rintro tm H4 ⟨hnq, t0, t3, t5, o4, k4⟩
    have hb4 := k4.blk hb3 (by simpa using hpid)
    simp [t0]
    have hinOk := inB_ok (x := x) hok (by omega)
    have hnx : nextB b x = decideB (inB b x) := by rw [nextB, if_neg hnq]
    refine stpL_runs (decideM hb4 hbe0 (by rw [hrowE]; simp [Bridge.enc, inB_id, inB_len]) o4 (by simpa using hpid) hinOk) ?_
    rintro _ H5 ⟨rfl, o5, k5⟩
    have k35 : Keep [pid] H3 H5 := k4.trans (h := [pid]) k5 (by simp) (by simp)
    obtain ⟨c, hc⟩ : ∃ c, c = nextB b x := ⟨_, rfl⟩
    rw [← hnx, ← hc] at o5
    rw [← hc] at fin
    have hcl : c.ports.length = b.ports.length := by rw [hc]; exact nextB_len _ _
    have hci : c.id = b.id := by rw [hc]; exact nextB_id _ _
    have hcok : c.ok = true := by rw [hc]; exact nextB_ok hok (by omega)
    have hb5 := k35.blk hb3 (by simpa using hpid)
    have b25 := k35.blk b2 hnp
    have hw5 := hw0.keep k35 (fun id r h => hf2' _ (ow.ids id r h))
    have e5 := blkAt_len hb5
    have k05 : Keep [pid] H H5 := k03.trans (h := [pid]) k35 (by simp) (by simp)
    have hl05 := k05.1
    clear hc hnx o4 k4 hb4 o3 p3 hw0 ow k35 hnq
    simp [t0, t3, t5, hb5, e5, hbe0, hrow0, builtinV, pureB, lenV]
    have s5 := o5.sl
    refine wpS_loop (fun j tm H' => ∃ i a' fp', i + j = b.ports.length ∧ tm 0 = .ptr id ro 0 ∧ tm 3 = .ptr H.length 0 0 ∧ tm 5 = .w (.lf (.sl aw b.ports.length)) ∧ tm 64 = .sl pid 0 b.ports.length ∧ tm 65 = .int b.ports.length ∧ tm 66 = .int i ∧ tm 7 = .w (.lf (.sl a' (upto (gateAt b c) i).length)) ∧ Own H' 118 a' ((upto (gateAt b c) i).map Out.enc) fp' ∧ (∀ j ∈ fp', H5.length ≤ j) ∧ Keep [] H5 H') b.ports.length (by rw [env_K]; omega)
      ⟨0, none, [], by simp, by simp [t0], by simp [t3], by simp [t5], by simp, by simp, by simp, by simp [upto], Own.nil _ _, by simp, Keep.refl _ _⟩ ?_
    · rintro j tm H6 hj ⟨i, a', fp', hij, t0, t3, t5, t64, t65, t66, t7, ho', hf', hK⟩ Q2 hn2 he2 hr2
      simp [t64, t65, t66]
      refine selS_intro (fun hc => ?_) (fun hc => ?_)
      · simp at hc
        have hc' : i < c.ports.length := by omega
        obtain ⟨id3, r3, bl3, hx3, hbl3, hbe3, hrow3⟩ := (s5.keep hK (by simp)) i _ (by simp [hc']; rfl)
        cases hx3
        obtain ⟨id4, r4, bl4, rfl, hbl4, hbe4, hrow4⟩ := (hw5.keep hK (by simp)) i _ (by simp [hc]; rfl)
        have hid3 := blkAt_len hbl3
        have hid4 := blkAt_len hbl4
        have g4 : IntKind.i64.wrap ((i : Int) + 1) = (i : Int) + 1 := wrap64 (by omega) (by omega)
        have hst : upto (gateAt b c) (i + 1) = upto (gateAt b c) i ++ (if c.ports[i].opn = b.ports[i].opn then [] else [⟨2, i, ⟨0, 0, 0, 0⟩, 0, c.ports[i].opn⟩]) := by
          rw [upto, gateAt, List.getElem?_eq_getElem hc, List.getElem?_eq_getElem hc']
        have hul := upto_len (gateAt_len b c) i
        simp only [Nat.zero_add] at hrow3
        simp [t0, t3, t5, t64, t65, t66, t7, indexAddrV, elemIs, hid3, hbl3, hbe3, hc, hrow3, hid4, hbl4, hbe4, hrow4, Port.enc]
        refine selS_intro (fun hd => ?_) (fun hd => ?_)
        · simp at hd
          rw [if_neg hd] at hst
          simp [t7]
          refine stpL_append (rows := (upto (gateAt b c) i).map Out.enc) (ys := [[.i .i64 2, .i .i64 i, .i .i64 0, .i .i64 0, .i .i64 0, .i .i64 0, .i .i64 0, .b c.ports[i].opn]]) (ho'.app _) (Sl.of (by simp)) rfl rfl rfl (by simp) (by simp; omega) (by simp) rfl fun a'' H'' fp'' ho'' hk'' hf'' => ?_
          obtain ⟨hK2, hf2⟩ := grow_next hK hf' hk'' hf''
          simp [t0, t3, t5, t64, t65, t66, g4]
          refine hn2 (j - 1) _ _ (by omega) ⟨i + 1, a'', fp'', by omega, by simp [t0], by simp [t3], by simp [t5], by simp [t64], by simp [t65], by simp, by simp [hst], ?_, hf2, hK2⟩
          simpa [hst, Out.enc] using ho''
        · simp at hd
          rw [if_pos hd, List.append_nil] at hst
          simp [t0, t3, t5, t64, t65, t66, t7, g4]
          refine hn2 (j - 1) _ _ (by omega) ⟨i + 1, a', fp', by omega, by simp [t0], by simp [t3], by simp [t5], by simp [t64], by simp [t65], by simp, by rw [hst]; simp [t7], ?_, hf', keep_more0 hK _⟩
          rw [hst]
          exact ho'.app _
      · simp at hc
        obtain rfl : i = b.ports.length := by omega
        simp [t0, t3, t5, t64, t65, t66, t7]
        refine he2 _ _ _ ?_
        have hb6 := hK.blk hb5 (by simp)
        have e6 := blkAt_len hb6
        obtain ⟨gs, hgs⟩ : ∃ gs, gs = upto (gateAt b c) b.ports.length := ⟨_, rfl⟩
        have hgl : gs.length ≤ b.ports.length := by rw [hgs]; exact upto_len (gateAt_len b c) _
        rw [← hgs] at t7 ho'
        simp [t0, hb6, e6, hbe0, hrow0, builtinV, pureB, lenV]
        by_cases hx2 : x.kind = 2
        · have hout : outsB b c x = gs ++ upto (claimAt c) b.ports.length := by unfold outsB; rw [if_pos hx2, hgs]
          rw [hx2] at b25
          refine wpS_loop (fun j tm H' => ∃ i a' fp', i + j = b.ports.length ∧ tm 0 = .ptr id ro 0 ∧ tm 3 = .ptr H.length 0 0 ∧ tm 90 = .sl pid 0 b.ports.length ∧ tm 91 = .int b.ports.length ∧ tm 92 = .int i ∧ tm 7 = .w (.lf (.sl a' (gs ++ upto (claimAt c) i).length)) ∧ Own H' 118 a' ((gs ++ upto (claimAt c) i).map Out.enc) fp' ∧ (∀ j ∈ fp', H5.length ≤ j) ∧ Keep [] H5 H') b.ports.length (by rw [env_K]; omega)
            ⟨0, a', fp', by simp, by simp [t0], by simp [t3], by simp, by simp, by simp, by simp [upto, t7], by simpa [upto] using ho', hf', hK⟩ ?_
          rintro j tm H6 hj ⟨i, a', fp', hij, t0, t3, t90, t91, t92, t7, ho', hf', hK⟩ Q3 hn3 he3 hr3
          simp [t90, t91, t92]
          refine selS_intro (fun hc => ?_) (fun hc => ?_)
          · simp at hc
            have hc' : i < c.ports.length := by omega
            have s6 := s5.keep hK (by simp)
            obtain ⟨id3, r3, bl3, hx3, hbl3, hbe3, hrow3⟩ := s6 i _ (by simp [hc']; rfl)
            cases hx3
            have hid3 := blkAt_len hbl3
            have b26 := hK.blk b25 (by simp)
            have d26 := blkAt_len b26
            have hb6 := hK.blk hb5 (by simp)
            have e6 := blkAt_len hb6
            have g4 : IntKind.i64.wrap ((i : Int) + 1) = (i : Int) + 1 := wrap64 (by omega) (by omega)
            have hst : upto (claimAt c) (i + 1) = upto (claimAt c) i ++ (if c.ports[i].role = 2 then [⟨1, i, ownV c i, hopsB c, false⟩] else []) := by
              rw [upto, claimAt, List.getElem?_eq_getElem hc']
            have hul := upto_len (claimAt_len c) i
            have eO := fun G => ownM (H := H6 ++ G) (b := c) (a := some (pid, 0)) (blkAt_app hb6 G) hbe0 (by rw [hrowE]; simp [Bridge.enc, hci, hcl]) (s6.app G) hcok (i : Int)
            have eH := fun G => hopsM (H := H6 ++ G) (b := c) (a := some (pid, 0)) (blkAt_app hb6 G) hbe0 (by rw [hrowE]; simp [Bridge.enc, hci, hcl]) (s6.app G) hcok
            simp only [Nat.zero_add] at hrow3
            simp [t0, t3, t90, t91, t92, t7, b26, d26, indexAddrV, elemIs, hid3, hbl3, hbe3, hc, hrow3, Port.enc]
            refine selS_intro (fun hd => ?_) (fun hd => ?_)
            · simp at hd
              rw [if_pos hd] at hst
              simp [t0, t7, eO, eH, Vec.enc]
              refine stpL_append (rows := (gs ++ upto (claimAt c) i).map Out.enc) (ys := [[.i .i64 1, .i .i64 i, .i .i64 (ownV c i).root, .i .i64 (ownV c i).cost, .i .i64 (ownV c i).bridge, .i .i64 (ownV c i).port, .i .i64 (hopsB c), .b false]]) (ho'.app _) (Sl.of (by simp)) rfl rfl rfl (by simp) (by simp; omega) (by simp) rfl fun a'' H'' fp'' ho'' hk'' hf'' => ?_
              obtain ⟨hK2, hf2⟩ := grow_next hK hf' hk'' hf''
              simp [t0, t3, t90, t91, t92, g4]
              refine hn3 (j - 1) _ _ (by omega) ⟨i + 1, a'', fp'', by omega, by simp [t0], by simp [t3], by simp [t90], by simp [t91], by simp, by simp [hst]; omega, ?_, hf2, hK2⟩
              simpa [hst, Out.enc] using ho''
            · simp at hd
              rw [if_neg hd, List.append_nil] at hst
              simp [t0, t3, t90, t91, t92, t7, g4]
              refine hn3 (j - 1) _ _ (by omega) ⟨i + 1, a', fp', by omega, by simp [t0], by simp [t3], by simp [t90], by simp [t91], by simp, by rw [hst]; simp [t7], ?_, hf', keep_more0 hK _⟩
              rw [hst]
              exact ho'.app _
          · simp at hc
            obtain rfl : i = b.ports.length := by omega
            simp [t0, t3, t90, t91, t92, t7]
            refine he3 _ _ _ ?_
            simp [t7]
            rw [← hout] at ho'
            refine fin _ _ (.sl a' (outsB b c x).length) fp' (by simp [hout]) ⟨a', rfl, ho'⟩ (o5.keep hK (by simp)) ?_ (fun i hi => by have := hf' i hi; omega)
            exact k05.trans (h := [pid]) hK (by simp) (by simp)
        · have hout : outsB b c x = gs := by unfold outsB; rw [if_neg hx2, hgs, List.append_nil]
          refine wpS_loop (fun j tm H' => ∃ i, i + j = b.ports.length ∧ tm 3 = .ptr H.length 0 0 ∧ tm 90 = .sl pid 0 b.ports.length ∧ tm 91 = .int b.ports.length ∧ tm 92 = .int i ∧ tm 7 = .w (.lf (.sl a' gs.length)) ∧ Own H' 118 a' (gs.map Out.enc) fp' ∧ Keep [] H5 H') b.ports.length (by rw [env_K]; omega)
            ⟨0, by simp, by simp [t3], by simp, by simp, by simp, by simp [t7], ho', hK⟩ ?_
          rintro j tm H6 hj ⟨i, hij, t3, t90, t91, t92, t7, ho', hK⟩ Q3 hn3 he3 hr3
          simp [t90, t91, t92]
          refine selS_intro (fun hc => ?_) (fun hc => ?_)
          · simp at hc
            have hc' : i < c.ports.length := by omega
            have s6 := s5.keep hK (by simp)
            obtain ⟨id3, r3, bl3, hx3, hbl3, hbe3, hrow3⟩ := s6 i _ (by simp [hc']; rfl)
            cases hx3
            have hid3 := blkAt_len hbl3
            have b26 := hK.blk b25 (by simp)
            have d26 := blkAt_len b26
            have g4 : IntKind.i64.wrap ((i : Int) + 1) = (i : Int) + 1 := wrap64 (by omega) (by omega)
            simp only [Nat.zero_add] at hrow3
            simp [t3, t90, t91, t92, t7, b26, d26, indexAddrV, elemIs, hid3, hbl3, hbe3, hc, hrow3, Port.enc, hx2, g4]
            refine hn3 (j - 1) _ _ (by omega) ⟨i + 1, by omega, by simp [t3], by simp [t90], by simp [t91], by simp, by simp [t7], ho'.app _, keep_more0 hK _⟩
          · simp at hc
            obtain rfl : i = b.ports.length := by omega
            simp [t90, t91, t92]
            refine he3 _ _ _ ?_
            simp [t7]
            rw [← hout] at ho'
            refine fin _ _ (.sl a' (outsB b c x).length) fp' (by simp [hout]) ⟨a', rfl, ho'⟩ (o5.keep hK (by simp)) ?_ (fun i hi => by have := hf' i hi; omega)
            exact k05.trans (h := [pid]) hK (by simp) (by simp)
end W
end Go.Proofs.YtafakoecgaijoaaGreat
