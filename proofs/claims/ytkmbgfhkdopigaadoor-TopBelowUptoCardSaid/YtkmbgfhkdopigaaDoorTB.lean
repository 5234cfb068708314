/- thickettop.TopBelow answers true of every list of numbers and every number, where the list is of bulk at most 1,048,576; the list stays as it was. The walk stands on printed walks, the law on lists by hand. -/
import Derived.Test.YtkmbgfhkdopigaaDoorTB19
import Derived.Test.YtkmbgfhkdopigaaDoorTB22
import Derived.Test.YtkmbgfhkdopigaaDoorCards
import Derived.Test.YtkmbgfhkdopigaaDoorTie
import Derived.WalkKit
import Derived.ProofKit
import Derived.OpenShut
import Derived.Below
import Derived.Deep.DeepHandedRow
import Derived.Deep.Slices
import Derived.Laws.Cover2
import Derived.Lib.LaidTab
namespace Go.Proofs.YtkmbgfhkdopigaaDoor.topBelow
open Go.ChangeShapes Go.WideShapes Go.ChangeAt Go.RowKit
set_option linter.unusedVariables false

theorem own : ownKnob Tryd.prog.godebug = none := by kernel_rfl
theorem laidOut : laidOutB Tryd.prog = true := by kernel_rfl
theorem gTab : Tryd.prog.globalNamed "math/bits.deBruijn64tab" = some 0 := by kernel_rfl
theorem gTabType : (Tryd.prog.globals[0]?).map (·.type) = some 109 := by kernel_rfl
theorem cells109 : Tryd.prog.cellsOf 109 = 64 := by kernel_rfl
theorem cells5 : Tryd.prog.cellsOf 5 = 1 := by kernel_rfl
theorem cells23 : Tryd.prog.cellsOf 23 = 1 := by kernel_rfl
def zs64 : List Int := Go.Lib.deBruijn64tab.map Int.ofNat
theorem table {W : World} (h : laidMetH Tryd.prog Rows.topBelowRow.laid W) : Lib.TabIs Tryd.prog W "math/bits.deBruijn64tab" .u8 zs64 :=
  Lib.tabIs_of_head (rest := []) gTab gTabType Tryd.underlying109 Tryd.underlying5 cells5 cells109 h
theorem zs64_at : ∀ j : Fin 64, zs64.getD j.val 0 = ((Go.Lib.deBruijn64tab.getD j.val 0 : Nat) : Int) := by decide +kernel
theorem tab {W : World} (h : laidMetH Tryd.prog Rows.topBelowRow.laid W) : P.Tab 0 W := fun j hj => by
  have := (table h).cell gTab j (by show j < 64; exact hj)
  rw [zs64_at ⟨j, hj⟩] at this
  exact this
theorem one_le {H : Type} (d : DataW H) : 1 ≤ Rows.uptoBulk d := by
  cases d with
  | lit l => cases l <;> simp [Rows.uptoBulk]
  | nil => simp [Rows.uptoBulk]
  | ptr d => simp [Rows.uptoBulk]
  | slice elems spare => simp [Rows.uptoBulk]
  | agg parts => simp [Rows.uptoBulk]
  | iface t d => simp [Rows.uptoBulk]
  | map entries => simp [Rows.uptoBulk]
  | held h => simp [Rows.uptoBulk]
theorem length_le {H : Type} (l : List (DataW H)) : l.length ≤ Rows.uptoBulkAll l := by
  induction l with
  | nil => simp [Rows.uptoBulkAll]
  | cons x r ih => have := one_le x; simp only [Rows.uptoBulkAll, List.length_cons]; omega
theorem slice_le {H : Type} (elems spare : List (DataW H)) : elems.length + spare.length + 1 ≤ Rows.uptoBulk (.slice elems spare) := by
  have h1 := length_le elems
  have h2 := length_le spare
  simp only [Rows.uptoBulk]
  omega
theorem trod_float {H : Type} {enc : TypeId × Value → H} {P : Program} {w : World} {base : Nat} {spare : Nat → Bool} {held : Bool} {fuel : Nat} {t : TypeId} {v : Value} {x : DataW H × List MemPlace} {k : FloatKind}
    (ht : P.underlying t = some (.float k)) (h : DataW.trod enc P w base spare held fuel t [v] = some x) : ∃ b, v = .float k b ∧ (Lit.float k b).wf = true := by
  cases fuel with
  | zero => simp [DataW.trod] at h
  | succ n =>
    simp only [DataW.trod, ht] at h
    cases v <;> simp at h
    rename_i k2 b
    by_cases hw : (Lit.float k2 b).wf = true ∧ k2 = k
    · obtain ⟨hw, rfl⟩ := hw
      exact ⟨b, rfl, hw⟩
    · first
        | (exact absurd h (by simp_all))
        | (obtain ⟨⟨rfl, hw2⟩, _⟩ := h; exact ⟨b, rfl, hw2⟩)
        | (obtain ⟨rfl, hw2, _⟩ := h; exact ⟨b, rfl, hw2⟩)
set_option maxRecDepth 100000 in
theorem contract (H : Type) (enc : TypeId × Value → H) (W : World) (base : Nat) (args : Array Value) (ds gs : List (DataW H)) (before : List MemPlace)
    (hval : ∀ (j : Nat) t v, Tryd.f3.params[j]? = some t → args[j]? = some v → Value.okWide Tryd.prog W .any base t v)
    (hW : DataW.Whole enc Tryd.prog Tryd.f3.params.toList Rows.topBelowSpec.vars false W args.toList ds gs before) (hk : Rows.uptoSmall H (ds ++ gs) = true) (hL : laidMetH Tryd.prog Rows.topBelowRow.laid W) :
    Calls Tryd.prog 3 args W fun e W' => ∃ v, e = .returned v ∧ Rows.topBelowSpec.post enc Tryd.prog Tryd.f3 false true false false W args v W' := by
  have hW' := hW
  obtain ⟨p, q, hA0, hV, rfl, hfz, hnd⟩ := hW
  have hA : DataW.TrodAll enc Tryd.prog W 0 (fun _ => true) true Tryd.f3.params.toList args.toList ds p := hA0
  rw [Tryd.params3] at hA hval
  obtain ⟨v0, vs0, d0, ds0, p0, q0, hargs, rfl, rfl, h0, r0⟩ := trodAll_cons hA
  obtain ⟨v1, vs1, d1, ds1, p1, q1, rfl, rfl, rfl, h1, r1⟩ := trodAll_cons r0
  obtain ⟨rfl, rfl, rfl⟩ := trodAll_nil r1
  obtain rfl : args = #[v0, v1] := by cases args; simp_all
  obtain ⟨rfl, rfl⟩ := trodVars_none hV
  obtain ⟨a0, len0, cap0, rfl⟩ := okWide_slice Tryd.underlying22 (hval 0 22 v0 rfl rfl)
  have k0 := h0
  have lt0 : ∀ x ∈ p0, x.block < W.heap.size := by obtain ⟨m, hm⟩ := k0; exact DataW.trod_lt m _ _ _ hm
  have hkb : Rows.uptoBulkAll ([d0, d1] ++ []) ≤ 1048576 := of_decide_eq_true hk
  obtain ⟨l0, rfl, hr0, hm0, hw0, hc0⟩ : ∃ l0 : List Nat, len0 = l0.length ∧ Go.Proofs.YtkmbgfhkdopigaaDoorW.PrintWords.ReadsOf (Value.float .f64) (0 : Nat) W a0 l0.length l0 ∧ l0.length ≤ 1048576 ∧ (∀ x ∈ l0, x < 18446744073709551616) ∧ l0.length ≤ cap0 := by
    obtain ⟨fuel, hf⟩ := h0
    rcases Go.Deep.open_slice1 Tryd.underlying22 cells23 hf with ⟨hcs, _⟩ | ⟨a, len, cap, m, n, V, D, Pl, hcs, _, hl, hm, hmm, hx, hcell⟩
    · simp [Value.cells] at hcs
      obtain ⟨rfl, rfl, rfl⟩ := hcs
      exact ⟨[], rfl, ⟨rfl, by decide, fun h => absurd h (by decide)⟩, by decide, fun _ hx => absurd hx List.not_mem_nil, Nat.zero_le _⟩
    · simp [Value.cells] at hcs
      obtain ⟨rfl, rfl, rfl⟩ := hcs
      have hml : len0 ≤ m := by rw [hmm]; split <;> omega
      have hd : d0 = _ := (Prod.mk.inj hx).1
      have hb := slice_le (H := H) ((List.range len0).map D) ((List.range (m - len0)).map fun j => D (len0 + j))
      rw [← hd] at hb
      simp only [List.cons_append, List.nil_append, Rows.uptoBulkAll, List.length_map, List.length_range] at hkb hb
      have hfl : ∀ i, i < m → ∃ b, V i = .float .f64 b ∧ (Lit.float .f64 b).wf = true := fun i hi => trod_float Tryd.underlying23 (hcell i hi).2
      let B : Nat → Nat := fun i => match V i with | .float _ b => b | _ => 0
      have hB : ∀ i, i < m → V i = .float .f64 (B i) ∧ B i < 18446744073709551616 := fun i hi => by
        obtain ⟨b, e, hw⟩ := hfl i hi
        have : B i = b := by show (match V i with | .float _ b => b | _ => 0) = b; rw [e]
        rw [this]
        refine ⟨e, ?_⟩
        simpa [Lit.wf] using hw
      refine ⟨(List.range len0).map B, by simp, ⟨by simp, by simp; omega, fun h => ⟨a, rfl, fun j hj => ?_⟩⟩, by simp; omega, fun x hx => ?_, by simp; omega⟩
      · have hj' : j < len0 := by simpa using hj
        rw [(hcell j (by omega)).1, (hB j (by omega)).1, List.getD_eq_getElem?_getD]
        simp [hj']
      · obtain ⟨j, hj, rfl⟩ := List.mem_map.1 hx
        exact (hB j (by have := List.mem_range.1 hj; omega)).2
  obtain ⟨a1, rfl, rfl, rfl, w1⟩ := open_float Tryd.underlying23 (hval 1 23 v1 rfl rfl) h1
  have w1' : a1 < 18446744073709551616 := by simpa [Lit.wf] using w1
  have hT := tab hL
  have hg : 0 < W.heap.size := World.block_lt_of_cell? W _ (hT 0 (by decide))
  clear hA0
  obtain ⟨k, hK⟩ := Stab.top_true l0 a1 hw0 w1' (by omega)
  have h := hK k (Nat.le_refl _)
  refine (P.thickettop_TopBelow.calls k a0 cap0 l0 a1 true W (Go.Proofs.YtkmbgfhkdopigaaDoorW.PrintWords.Kd.C_of_reads (d := (0 : Nat)) (h1 := fun _ => rfl) hr0) hc0 h hT hg).mono fun e W' ⟨he, bel⟩ => ?_
  subst he
  exact ⟨_, rfl, _, _, _, [], _, [], hW', trodAll_mk1 (shut_bool Tryd.underlying4 _), (trodAll_cons_mk (Below.trod laidOut (by kernel_rfl) (of_decide_eq_true (by kernel_rfl)) k0 bel lt0) (trodAll_cons_mk (shut_float Tryd.underlying23 w1) trodAll_mk0)), rfl, bel.frame _, fun h => by cases h⟩

noncomputable def laidWorld (os : Os) : World :=
  { World.holding Tryd.prog os ⟨#[], #[], []⟩ with heap := (World.holding Tryd.prog os ⟨#[], #[], []⟩).heap.modify 0 fun
      | .cells _ t frozen => .cells (zs64.map fun z => Value.int .u8 z).toArray t frozen
      | o => o }
theorem laid_met (os : Os) : laidMet Tryd.prog Rows.topBelowRow.laid ((laidWorld os).forCall (fun _ _ => 0) ⟨#[], #[.slice none 0 0, .float .f64 0], []⟩).memory :=
  laidMet_of_run' 8 (by kernel_rfl) (by kernel_rfl)
theorem reads (os : Os) {H : Type} (enc : TypeId × Value → H) : ∃ places, DataW.whole enc Tryd.prog ((laidWorld os).forCall (fun _ _ => 0) ⟨#[], #[.slice none 0 0, .float .f64 0], []⟩).memory Tryd.f3.params.toList Rows.topBelowSpec.vars false #[Value.slice none 0 0, Value.float .f64 0].toList 8 = some ([.nil, .lit (.float .f64 0)], [], places) :=
  ⟨[], by kernel_rfl⟩
set_option maxRecDepth 100000 in
theorem liftedUpto (os : Os) (started : os.Started) (H : Type) (enc : TypeId × Value → H) (F : Stop.Interp) :
    ReturnsInHanded {} Tryd.checked os 3 .any ((Rows.OpenSpec.upto Rows.topBelowSpec).preRow enc Tryd.prog Tryd.f3 Rows.topBelowUptoRow.domain false Rows.topBelowUptoRow.laid) (((Rows.OpenSpec.upto Rows.topBelowSpec).at F).post enc Tryd.prog Tryd.f3 false true false false) := by
  obtain ⟨places, hx⟩ := reads os enc
  refine returnsInHanded_of_row (C := Tryd.checked) (s := Rows.OpenSpec.upto Rows.topBelowSpec) own started (by kernel_rfl) Tryd.func3
    (witness_row_at (enc := enc) (C := Tryd.checked) false (laidWorld os) #[.slice none 0 0, .float .f64 0] rfl (by kernel_rfl) (by kernel_rfl) (by kernel_rfl)
      (OpenSpec.preRow_of_cond 8 hx (by kernel_rfl) (fun k hk => by cases hk; kernel_rfl) (by kernel_rfl) (laid_met os))) ?_
  intro W base args ds gs before hval hW _ hk _ hL _ _
  exact contract H enc W base args ds gs before hval hW (hk _ rfl) hL
theorem saidUpto : Rows.TopBelowUptoSaid :=
  OpenClaim.holds_of_cond 3 Tryd.f3 rfl rfl rfl rfl rfl rfl rfl ⟨rfl, rfl, rfl, rfl, rfl⟩ rfl rfl rfl rfl rfl (by kernel_rfl) Tryd.func3 (by kernel_rfl)
    (of_decide_eq_true (by kernel_rfl)) (by unfold Func.isWrapper; first | (rw [if_pos (by decide +kernel)]; kernel_rfl) | (rw [if_neg (by decide +kernel)]; exact ⟨rfl, rfl⟩))
    (fun os started H enc _ F => by rw [OpenClaim.pre_eq_preRow]; exact liftedUpto os started H enc F)
theorem plain (f : FuncId) (fn : Func) (hf : Tryd.pinned.checked.prog.funcNamed "thicket/thickettop.TopBelow" = some f) (hfn : Tryd.pinned.checked.prog.funcs[f]? = some fn) :
    false = Tryd.pinned.checked.prog.looks [] ∧ ∀ (j : Nat) t, fn.params[j]? = some t → Tryd.pinned.checked.prog.wantsStandIn t = false := by
  obtain rfl : f = 3 := Option.some.inj ((show Tryd.prog.funcNamed "thicket/thickettop.TopBelow" = some 3 by kernel_rfl).symm.trans hf) |>.symm
  obtain rfl : fn = Tryd.f3 := (Option.some.inj (Tryd.func3.symm.trans hfn)).symm
  refine ⟨by kernel_rfl, fun j t ht => ?_⟩
  rw [Tryd.params3] at ht
  have h2 : t = 22 ∨ t = 23 := by simpa using Array.mem_of_getElem? ht
  rcases h2 with rfl | rfl
  · exact (show Tryd.prog.wantsStandIn 22 = false by kernel_rfl)
  · exact (show Tryd.prog.wantsStandIn 23 = false by kernel_rfl)
theorem cardUpto : Rows.TopBelowUptoCardSaid :=
  Claim7.holds_tied_plain_at .later [] _ _ _ _ saidUpto (fun _ h => by cases h) (by kernel_rfl) (fun _ h => by cases h) topBelowUpto_row_tie rfl ⟨rfl, rfl⟩ (by kernel_rfl) rfl plain (by kernel_rfl)
#print axioms cardUpto
end Go.Proofs.YtkmbgfhkdopigaaDoor.topBelow
namespace Go.Proofs.YtkmbgfhkdopigaaDoor
theorem topBelowUpto_holds : Rows.TopBelowUptoCardSaid := topBelow.cardUpto
end Go.Proofs.YtkmbgfhkdopigaaDoor
