/- strings.Builder, told by contract where it must: copyCheck (it stores its own address), String (it freezes the bytes: the row is given up). -/
import Derived.Test.YtdojljjiekgapaaGreatDoorAbLib
import Derived.Test.YtdojljjiekgapaaGreatDoorAbBstr
import Derived.Test.YtdojljjiekgapaaGreatDoorAbOps4
set_option linter.unusedVariables false
set_option linter.unusedSimpArgs false
namespace Go.Ab
def checkX : List V → Heap → Option (V × Heap)
  | [.w (.lf (.p (some (id, 0, 0))))], H => match blkAt H id with
    | some b => match b.rows with
      | [[.p none, x]] => if b.md = .wr ∧ noW b.elem = false then some (.tup [], H.set id (some { b with rows := [[.p (some (id, 0, 0)), x]] })) else none
      | [[.p (some (i, 0, 0)), _]] => if i = id ∧ b.md = .wr ∧ noW b.elem = false then some (.tup [], H) else none
      | _ => none
    | none => none
  | _, _ => none
def bstrX (e2 : Nat) : List V → Heap → Option (V × Heap)
  | [.w (.lf (.p (some (id, 0, 0))))], H => match blkAt H id with
    | some b => match b.rows with
      | [[_, .sl (some (id2, r)) n]] => if b.md = .wr ∧ noW b.elem = false then match blkAt H id2 with
        | some b2 => if b2.md = .wr ∧ b2.elem = e2 ∧ n ≠ 0 ∧ r + n ≤ b2.rows.length ∧ n ≤ 140737488355328 then match bytesV ((b2.rows.drop r).take n) with
          | some l => some (.str ⟨l.toArray⟩, H.set id2 none)
          | none => none
          else none
        | none => none
        else none
      | _ => none
    | none => none
  | _, _ => none
variable {P : Program} {μ : Mu} {H : Heap} {w : World}
theorem whole_at (hR : Rel P μ H w) {id : Nat} {L : Loc} {b : Blk} (hL : μ id = some L) (hb : blkAt H id = some b) (hmd : b.md = .wr) (hn : noW b.elem = false) {row : List Lf} (hr : b.rows = [row]) :
    L.md = .wr ∧ L.o = 0 ∧ L.cells = row.length ∧ L.sz = row.length ∧ w.shape? L.b = some (b.elem, row.length) ∧ (∀ o, w.frozen? ⟨L.b, o, none⟩ = false) := by
  have hB := hR.blk id L b hL (blkAt_some hb)
  have hw : L.md = .wr := by rw [← hB.md]; exact hmd
  obtain ⟨h1, h2⟩ := hB.whl hw (by rw [← hB.elem]; exact hn)
  obtain ⟨h3, h4, h5⟩ := hB.own hw
  have h6 := hB.row 0 row (by rw [hr]; rfl)
  rw [h2, ← h6, ← hB.elem] at h3
  exact ⟨hw, h1, by rw [h2, h6], h6.symm, h3, h4⟩
theorem check_ok {f B : Nat} (hB : ∀ e, noW e = false → e = B)
    (hc0 : ∀ (b : Nat) (w : World), w.cell? ⟨b, 0, none⟩ = some (.pointer none) → w.shape? b = some (B, 2) → w.frozen? ⟨b, 0, none⟩ = false → Calls P f #[.pointer (some ⟨b, 0, none⟩)] w fun e w' => e = .returned (.tuple #[]) ∧ w' = w.setCell ⟨b, 0, none⟩ (.pointer (some ⟨b, 0, none⟩)))
    (hc1 : ∀ (b : Nat) (w : World), w.cell? ⟨b, 0, none⟩ = some (.pointer (some ⟨b, 0, none⟩)) → Calls P f #[.pointer (some ⟨b, 0, none⟩)] w fun e w' => e = .returned (.tuple #[]) ∧ w' = w)
    {args : List V} {v : V} {H' : Heap} (h : checkX args H = some (v, H')) {cargs : List Value} (hR : Rel P μ H w) (ha : All2 (VRel μ) args cargs) :
    Calls P f cargs.toArray w fun e w' => ∃ cv μ', e = .returned cv ∧ VRel μ' v cv ∧ Stp P μ H w μ' H' w' := by
  unfold checkX at h
  split at h
  rotate_left
  · cases h
  rename_i H0 id
  split at h
  rotate_left
  · cases h
  rename_i b hb
  obtain ⟨c, cr, rfl, hc, hcr⟩ := ha.cons_left
  rw [hcr.nil_left]
  obtain ⟨L, hL, hcv⟩ := hc
  have hBl := hR.blk id L b hL (blkAt_some hb)
  split at h
  · rename_i x hrows
    split at h
    rotate_left
    · cases h
    rename_i hg
    injection h with h
    injection h with h1 h2
    subst h1 h2
    obtain ⟨hw, ho, hcl, hsz, hsh, hfz⟩ := whole_at hR hL hb hg.1 hg.2 hrows
    have hp : c = .pointer (some ⟨L.b, 0, none⟩) := by rw [hcv, ho]; simp
    subst hp
    obtain ⟨u, hu, hrel⟩ := hBl.cell 0 _ (by rw [hrows]; rfl) 0 _ rfl
    have hu0 : u = .pointer none := hrel
    subst hu0
    rw [ho] at hu
    refine (hc0 L.b w (by simpa using hu) (by rw [hsh, hB _ hg.2]; rfl) (hfz 0)).mono fun e w' ⟨he, hw'⟩ => ?_
    subst hw'
    refine ⟨_, μ, he, ⟨[], rfl, All2.nil⟩, ?_⟩
    have e1 : w.setCell ⟨L.b, 0, none⟩ (.pointer (some ⟨L.b, 0, none⟩)) = w.setCells L.b (L.o + 0) [.pointer (some ⟨L.b, 0, none⟩)] := by rw [ho]; rfl
    rw [e1]
    refine Stp.put hR hL (blkAt_some hb) hw _ _ (fun x hx => heap_setCells_ne _ _ _ _ _ hx) (size_setCells _ _ _ _) (os_setCells _ _ _ _) ?_
    refine hBl.over hw 0 [_] (by rw [ho, hcl]; simp) _ (by rw [hrows]; rfl) ?_ ?_
    · intro r row hr
      cases r with
      | zero => simp at hr; subst hr; rw [hsz]; rfl
      | succ r => simp at hr
    · intro r row hr k l hk
      cases r with
      | succ r => simp at hr
      | zero =>
        simp at hr
        subst hr
        cases k with
        | zero =>
          simp at hk
          subst hk
          exact .inl ⟨_, by omega, by simp; rfl, ⟨L, hL, by simp [ho]⟩⟩
        | succ k => exact .inr ⟨.inr (by simp), _, by rw [hrows]; rfl, by simpa using hk⟩
  · rename_i i x hrows
    split at h
    rotate_left
    · cases h
    rename_i hg
    obtain ⟨rfl, hg⟩ := hg
    injection h with h
    injection h with h1 h2
    subst h1 h2
    obtain ⟨hw, ho, hcl, hsz, hsh, hfz⟩ := whole_at hR hL hb hg.1 hg.2 hrows
    have hp : c = .pointer (some ⟨L.b, 0, none⟩) := by rw [hcv, ho]; simp
    subst hp
    obtain ⟨u, hu, hrel⟩ := hBl.cell 0 _ (by rw [hrows]; rfl) 0 _ rfl
    obtain ⟨L2, hL2, hu0⟩ := hrel
    rw [hL] at hL2
    injection hL2 with hL2
    subst hL2 hu0
    rw [ho] at hu
    refine (hc1 L.b w (by simpa using hu)).mono fun e w' ⟨he, hw'⟩ => ?_
    subst hw'
    exact ⟨_, μ, he, ⟨[], rfl, All2.nil⟩, Stp.refl hR⟩
  · cases h
/-- An own block is given up, and turned. -/
theorem Stp.lose (hR : Rel P μ H w) {id : Nat} {L0 : Loc} {b0 : Blk} (hL0 : μ id = some L0) (hb0 : H[id]? = some (some b0)) (hw0 : L0.md = .wr) {w' : World} (hh : ∀ x, x ≠ L0.b → w'.heap[x]? = w.heap[x]?) (hs : w'.heap.size = w.heap.size) (h1 : w'.os = w.os) (h2 : w'.tape = w.tape) (h3 : w'.output = w.output) : Stp P μ H w μ (H.set id none) w' := by
  have hst := Stp.kill hR id hL0
  have key : ∀ (i : Nat) (b : Blk), (H.set id none)[i]? = some (some b) → i ≠ id ∧ H[i]? = some (some b) := by
    intro i b hb
    rw [List.getElem?_set] at hb
    split at hb
    · split at hb <;> simp at hb
    · rename_i hne; exact ⟨fun h => hne h.symm, hb⟩
  refine ⟨hst.ext, hst.new, ⟨hst.rel.dom, fun i L b hl hb => ?_, hst.rel.inj⟩, hst.len, by omega, fun b hb ho => ?_, hst.own, hst.frs, hst.out, hst.rev, h1, h2, h3⟩
  · obtain ⟨hne, hb'⟩ := key i b hb
    have hB := hR.blk i L b hl hb'
    by_cases hz : L.md = .z
    · exact hB.of_z hz
    · exact hB.of_block (Ext.refl _) (hh _ (Ne.symm (hR.inj id L0 b0 i L b (Ne.symm hne) hL0 hb0 hl hb' hw0 hz)))
  · exact hh b fun h => ho ⟨id, L0, b0, hL0, hb0, hw0, h.symm⟩
theorem bstr_ok {f e2 : Nat} (hsz : P.cellsOf e2 = 1)
    (hc : ∀ (b g o cap cells : Nat) (l : List UInt8) (w : World), l ≠ [] → l.length ≤ cap → l.length ≤ 140737488355328 → w.cell? ⟨b, 1, none⟩ = some (.slice (some ⟨g, o, none⟩) l.length cap) → w.shape? g = some (e2, cells) → o + l.length ≤ cells →
      (∀ (j : Nat) (x : UInt8), l[j]? = some x → w.cell? ((⟨g, o, none⟩ : Addr).add j) = some (.int .u8 x.toNat)) →
      Calls P f #[.pointer (some ⟨b, 0, none⟩)] w fun e w' => e = .returned (.string ⟨l.toArray⟩) ∧ w' = w.drew.freeze ⟨g, o, none⟩ l.length)
    {args : List V} {v : V} {H' : Heap} (h : bstrX e2 args H = some (v, H')) {cargs : List Value} (hR : Rel P μ H w) (ha : All2 (VRel μ) args cargs) :
    Calls P f cargs.toArray w fun e w' => ∃ cv μ', e = .returned cv ∧ VRel μ' v cv ∧ Stp P μ H w μ' H' w' := by
  unfold bstrX at h
  split at h
  rotate_left
  · cases h
  rename_i H0 id
  split at h
  rotate_left
  · cases h
  rename_i b hb
  split at h
  rotate_left
  · cases h
  rename_i x id2 r n hrows
  split at h
  rotate_left
  · cases h
  rename_i hg
  split at h
  rotate_left
  · cases h
  rename_i b2 hb2
  split at h
  rotate_left
  · cases h
  rename_i hg2
  obtain ⟨g1, g2, g3, g4, g5⟩ := hg2
  split at h
  rotate_left
  · cases h
  rename_i l hl
  injection h with h
  injection h with h1 h2
  subst h1 h2
  obtain ⟨c, cr, rfl, hcc, hcr⟩ := ha.cons_left
  rw [hcr.nil_left]
  obtain ⟨L, hL, hcv⟩ := hcc
  have hBl := hR.blk id L b hL (blkAt_some hb)
  obtain ⟨hw, ho, hcl, hsz1, hsh, hfz⟩ := whole_at hR hL hb hg.1 hg.2 hrows
  have hp : c = .pointer (some ⟨L.b, 0, none⟩) := by rw [hcv, ho]; simp
  subst hp
  obtain ⟨u, hu, hrel⟩ := hBl.cell 0 _ (by rw [hrows]; rfl) 1 _ rfl
  obtain ⟨L2, ad, cap, hL2, hus, hle, had, -, -⟩ := hrel
  have had' := had (by omega)
  subst had' hus
  rw [ho] at hu
  have hB2 := hR.blk id2 L2 b2 hL2 (blkAt_some hb2)
  have hw2 : L2.md = .wr := by rw [← hB2.md]; exact g1
  obtain ⟨h3, h4, h5⟩ := hB2.own hw2
  have hs2 : L2.sz = 1 := by rw [hB2.sz, ← hB2.elem, g2, hsz]
  obtain ⟨cs, hf, hat⟩ := hB2.flat r n g4
  rw [hs2] at hf
  have hcs := bytes_sound hl hf
  have hln : l.length = n := by
    have := hf.len
    rw [hcs] at this
    simp at this
    omega
  have hfit : L2.o + r * L2.sz + n ≤ L2.cells := by
    rw [hs2] at h5 ⊢
    have := hB2.rows
    omega
  refine (hc L.b L2.b (L2.o + r * L2.sz) cap L2.cells l w (by intro h; subst h; simp at hln; omega) (by omega) (by omega) (by rw [hln]; simpa using hu) (by rw [h3, ← hB2.elem, g2]) (by omega) fun j x hj => ?_).mono fun e w' ⟨he, hw'⟩ => ?_
  · rw [Addr.add_mid]
    exact hat j _ (by rw [hcs]; simp [hj])
  · subst hw'
    refine ⟨_, μ, he, rfl, Stp.lose hR hL2 (blkAt_some hb2) hw2 (fun x hx => ?_) ?_ ?_ ?_ ?_⟩
    · unfold World.freeze
      split
      · rfl
      · show (w.drew.heap.modify L2.b _)[x]? = _
        rw [Array.getElem?_modify, if_neg (Ne.symm hx)]
        rfl
    all_goals unfold World.freeze
    all_goals split
    all_goals first
      | rfl
      | simp
end Go.Ab
