/- Functions of Go's library that are told by contract: strconv.Itoa, strings.Join. What they answer; that it is right wherever the contracts stand. -/
import Derived.Test.YtdojljjiekgapaaGreatDoorAbRun
import Derived.Lib.ItoaNum
import Derived.Lib.Join
import Derived.Lib.ItoaLen
import Derived.Lib.LaidTab
import Derived.Deep.Draws
import Derived.Sort.Grow
set_option linter.unusedVariables false
set_option linter.unusedSimpArgs false
namespace Go.Ab
def itoaX : List V → Heap → Option (V × Heap)
  | [.w (.lf (.i .i64 n))], H => if -9223372036854775808 ≤ n ∧ n ≤ 9223372036854775807 then some (.str ⟨(Lib.itoa n).toArray⟩, H) else none
  | _, _ => none
def strsV : List (List Lf) → Option (List ByteArray)
  | [] => some []
  | [.s x] :: rs => (strsV rs).map (x :: ·)
  | _ :: _ => none
def joinT (xs : List ByteArray) (sep : ByteArray) : List UInt8 := Lib.join (xs.map (·.data.toList)) sep.data.toList
def joinX : List V → Heap → Option (V × Heap)
  | [.w (.lf (.sl a n)), .w (.lf (.s sep))], H => match rowsOf H a n with
    | some rows => match strsV rows with
      | some xs => if n ≤ 140737488355328 ∧ (joinT xs sep).length ≤ 140737488355328 then some (.str ⟨(joinT xs sep).toArray⟩, H) else none
      | none => none
    | none => none
  | _, _ => none
variable {P : Program} {μ : Mu} {H : Heap} {w : World}
/-- Where all that was there is as it was. -/
theorem Stp.below {w' : World} (hR : Rel P μ H w) (hb : ∀ b, b < w.heap.size → w'.heap[b]? = w.heap[b]?) (hs : w.heap.size ≤ w'.heap.size) (h1 : w'.os = w.os) (h2 : w'.tape = w.tape) (h3 : w'.output = w.output) : Stp P μ H w μ H w' := by
  refine ⟨Ext.refl _, fun _ _ h => .inl h, ⟨hR.dom, fun id L b hl hbk => ?_, hR.inj⟩, Nat.le_refl _, hs, fun b hlt _ => hb b hlt, fun b h _ => h, (fun id L h1 h2 => by rw [h1] at h2; cases h2), fun _ _ _ => rfl, fun _ _ b _ h => ⟨b, h⟩, h1, h2, h3⟩
  have hB := hR.blk id L b hl hbk
  by_cases hz : L.md = .z
  · have hn := hB.z hz
    refine ⟨hB.elem, hB.md, hB.rows, hB.sz, hB.row, fun r row hr => ?_, hB.z, fun h => absurd hz h, (fun h => by rw [hz] at h; cases h), hB.whl⟩
    have := (List.getElem?_eq_some_iff.1 hr).1
    rw [hB.rows, hn] at this
    omega
  · exact hB.of_block (Ext.refl _) (hb L.b (hB.lt hz))
theorem tabIs_of {name : String} {g : Nat} {k : IntKind} {zs : List Int} (hg : P.globalNamed name = some g) (ht : (g, zs.map fun z => Value.int k z) ∈ tabs) (h : TabC w) : Lib.TabIs P w name k zs := by
  obtain ⟨x, y, hb⟩ := h _ ht
  unfold Lib.TabIs World.var?
  rw [hg]
  simp only [Option.bind_some]
  rw [hb]
theorem itoa_ok {f : Nat} {name : String} {g : Nat} {zs : List Int} (hg : P.globalNamed name = some g) (ht : (g, zs.map fun z => Value.int .u64 z) ∈ tabs)
    (hc : ∀ (n : Int), -9223372036854775808 ≤ n → n ≤ 9223372036854775807 → ∀ (w : World), Lib.TabIs P w name .u64 zs → Calls P f #[.int .i64 n] w fun e w' => e = .returned (.string ⟨(Lib.itoa n).toArray⟩) ∧ ∃ k os, w' = Go.«Sort».grow (w.drewN k) os)
    {args : List V} {v : V} {H' : Heap} (h : itoaX args H = some (v, H')) {cargs : List Value} (hR : Rel P μ H w) (hT : TabR μ H w) (ha : All2 (VRel μ) args cargs) :
    Calls P f cargs.toArray w fun e w' => ∃ cv μ', e = .returned cv ∧ VRel μ' v cv ∧ Stp P μ H w μ' H' w' := by
  unfold itoaX at h
  split at h
  rotate_left
  · cases h
  rename_i H0 n
  split at h
  rotate_left
  · cases h
  rename_i hn
  injection h with h
  injection h with h1 h2
  subst h1 h2
  obtain ⟨c, cr, rfl, hc1, hcr⟩ := ha.cons_left
  rw [hcr.nil_left]
  have hcv : c = .int .i64 n := hc1
  subst hcv
  refine (hc n hn.1 hn.2 w (tabIs_of hg ht hT.1)).mono fun e w' ⟨he, k, os, hw⟩ => ?_
  subst hw
  refine ⟨_, μ, he, rfl, Stp.below hR (fun b hb => ?_) ?_ rfl rfl rfl⟩
  · show (w.heap ++ os)[b]? = _
    rw [Array.getElem?_append_left hb]
  · show w.heap.size ≤ (w.heap ++ os).size
    rw [Array.size_append]; omega
theorem strs_at : ∀ {rows : List (List Lf)} {xs : List ByteArray}, strsV rows = some xs → rows.length = xs.length ∧ ∀ (j : Nat) (x : ByteArray), xs[j]? = some x → rows[j]? = some [.s x]
  | [], xs, h => by
    simp [strsV] at h; subst h; exact ⟨rfl, by simp⟩
  | row :: rs, xs, h => by
    unfold strsV at h
    split at h
    · rename_i he; cases he
    · rename_i x rs' he
      injection he with h1 h2
      subst h1 h2
      cases hr : strsV rs with
      | none => rw [hr] at h; cases h
      | some ys =>
        rw [hr] at h
        simp at h
        subst h
        obtain ⟨hl, hat⟩ := strs_at hr
        refine ⟨by simp [hl], fun j y hj => ?_⟩
        cases j with
        | zero => simp at hj; subst hj; rfl
        | succ j => simp at hj; simpa using hat j y hj
    · cases h
theorem join_ok {f : Nat}
    (hc0 : ∀ (a : Option Addr) (c : Nat) (sep : ByteArray) (w : World), Calls P f #[.slice a 0 c, .string sep] w fun e w' => e = .returned (.string ⟨#[]⟩) ∧ w' = w)
    (hc : ∀ (bk o c : Nat) (xs : List ByteArray) (sep : ByteArray) (w : World), (∀ (j : Nat) (x : ByteArray), xs[j]? = some x → w.cell? ⟨bk, o + j, none⟩ = some (.string x)) → bk < w.heap.size → xs.length ≤ 140737488355328 → xs.length ≤ c →
      (Lib.join (xs.map fun x => x.data.toList) sep.data.toList).length ≤ 140737488355328 →
      Calls P f #[.slice (some ⟨bk, o, none⟩) xs.length c, .string sep] w fun e w' => e = .returned (.string ⟨(Lib.join (xs.map fun x => x.data.toList) sep.data.toList).toArray⟩) ∧ RowKit.Below w.heap.size w w')
    {args : List V} {v : V} {H' : Heap} (h : joinX args H = some (v, H')) {cargs : List Value} (hR : Rel P μ H w) (ha : All2 (VRel μ) args cargs) :
    Calls P f cargs.toArray w fun e w' => ∃ cv μ', e = .returned cv ∧ VRel μ' v cv ∧ Stp P μ H w μ' H' w' := by
  unfold joinX at h
  split at h
  rotate_left
  · cases h
  rename_i H0 a n sep
  split at h
  rotate_left
  · cases h
  rename_i rows hrows
  split at h
  rotate_left
  · cases h
  rename_i xs hxs
  split at h
  rotate_left
  · cases h
  rename_i hn
  injection h with h
  injection h with h1 h2
  subst h1 h2
  obtain ⟨c, cr, rfl, hc1, hcr⟩ := ha.cons_left
  obtain ⟨c2, cr2, rfl, hc2, hcr2⟩ := hcr.cons_left
  rw [hcr2.nil_left]
  have hcv : c2 = .string sep := hc2
  subst hcv
  obtain ⟨hl, hat⟩ := strs_at hxs
  have hc1' : LRel μ (.sl a n) c := hc1
  have none_ : ∀ (ad : Option Addr) (cap : Nat), n = 0 → c = .slice ad n cap → Calls P f [c, .string sep].toArray w fun e w' => ∃ cv μ', e = .returned cv ∧ VRel μ' (.str ⟨(joinT xs sep).toArray⟩) cv ∧ Stp P μ H w μ' H w' := by
    intro ad cap hn0 hcc
    subst hcc
    subst hn0
    simp [rowsOf] at hrows
    subst hrows
    have hx0 : xs = [] := List.eq_nil_of_length_eq_zero (by simpa using hl.symm)
    subst hx0
    refine (hc0 ad cap sep w).mono fun e w' ⟨he, hw⟩ => ?_
    subst hw
    exact ⟨_, μ, he, rfl, Stp.refl hR⟩
  rcases a with _ | ⟨id, r⟩
  · obtain ⟨h0, hv⟩ := hc1'
    exact none_ none 0 h0 (by rw [hv, h0])
  · obtain ⟨L, ad, cap, hL, hv, hle, had, _, _⟩ := hc1'
    cases n with
    | zero => exact none_ _ _ rfl hv
    | succ n =>
      have had' := had (by omega)
      subst had' hv
      simp only [rowsOf] at hrows
      split at hrows
      rotate_left
      · cases hrows
      rename_i b hb
      split at hrows
      rotate_left
      · cases hrows
      rename_i hlen
      injection hrows with hrows
      subst hrows
      have hB := hR.blk id L b hL (blkAt_some hb)
      have hxl : xs.length = n + 1 := by rw [← hl]; simp; omega
      have hrow : ∀ (j : Nat) (x : ByteArray), xs[j]? = some x → b.rows[r + j]? = some [.s x] := by
        intro j x hj
        have h1 := hat j x hj
        have hjl := (List.getElem?_eq_some_iff.1 hj).1
        rw [List.getElem?_take, if_pos (by omega), List.getElem?_drop] at h1
        exact h1
      have hx0 : ∃ x, xs[0]? = some x := ⟨xs[0]'(by omega), List.getElem?_eq_getElem _⟩
      obtain ⟨x0, hx0⟩ := hx0
      have hsz : L.sz = 1 := by
        have := hB.row _ _ (hrow 0 x0 hx0)
        simpa using this.symm
      have hcell : ∀ (j : Nat) (x : ByteArray), xs[j]? = some x → w.cell? ⟨L.b, L.o + r * L.sz + j, none⟩ = some (.string x) := by
        intro j x hj
        obtain ⟨v, hv, hrel⟩ := hB.cell (r + j) _ (hrow j x hj) 0 _ rfl
        have hvs : v = .string x := hrel
        subst hvs
        rw [← hv]
        congr 2
        rw [hsz]; omega
      have hlt : L.b < w.heap.size := hB.cell_lt (hrow 0 x0 hx0) (k := 0) rfl
      have := hc L.b (L.o + r * L.sz) cap xs sep w hcell hlt (by rw [hxl]; exact hn.1) (by rw [hxl]; exact hle) hn.2
      rw [hxl] at this
      refine this.mono fun e w' ⟨he, hw⟩ => ?_
      exact ⟨_, μ, he, rfl, Stp.below hR hw.block hw.size hw.os hw.tape hw.output⟩
end Go.Ab
