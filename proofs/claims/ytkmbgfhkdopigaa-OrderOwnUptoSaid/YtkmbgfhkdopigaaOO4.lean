/- Texts that the statement's proof leans on, part 4. -/
import Derived.Test.YtkmbgfhkdopigaaOO1
import Derived.Test.YtkmbgfhkdopigaaOO2
import Derived.Test.YtkmbgfhkdopigaaOO3
import Derived.Test.YtkmbgfhkdopigaaProg
import Derived.Below
import Derived.Deep.Draws
import Derived.Deep.AppendLies
import Derived.Maps.AppendAt
import Derived.OwnWalk
import Derived.Laws.BytesArg
import Derived.Laws.MakeOwn
import Derived.Laws.OwnMore
import Derived.Deep.OwnRows
import Derived.Tactics
import Derived.Lib.ConvBytes
import Derived.Laws.Slices
import Derived.WalkKit
import Derived.KernelRfl
import Derived.RowKit3
import Derived.Deep.LoopGhost
import Derived.Deep.QuietTactic
import Derived.BigQuiet
import Derived.WideLaws
import Derived.Deep.DeepCutAuto
import Derived.Deep.CutBlock
import Derived.Deep.RegionHeld3
import Derived.Laws.Rows
import Derived.Lib.AppendStr
import Derived.ArgAppend
import Derived.Laws.IdiomCopy
import Derived.OrdersHeld
import Derived.Laws.BitsLemmas
import Derived.RowKit
import Derived.WalkLawsBesides
import Derived.Laws.StructEq
namespace Go.Proofs.Ytkmbgfhkdopigaa.P
open Go.RowKit Go.Proofs.YtkmbgfhkdopigaaW.PrintWords Go.Proofs.YtkmbgfhkdopigaaW.PrintLast Go.Proofs.YtkmbgfhkdopigaaW.PrintMore
attribute [local go_sem] max2_int min2_int max_two min_two max_three min_three max_four min_four
attribute [local go_sem] Go.Proofs.Ytkmbgfhkdopigaa.Fl.store_float Go.Proofs.Ytkmbgfhkdopigaa.Fl.call54 Go.Proofs.Ytkmbgfhkdopigaa.Fl.call22 Go.Proofs.Ytkmbgfhkdopigaa.Fl.call14 Go.Proofs.Ytkmbgfhkdopigaa.Fl.call28
set_option linter.unusedVariables false
set_option linter.unusedSimpArgs false
def errW : Option Int → Value
 | none => .nilIface
 | some c => .iface 0 (.int .i64 c)
theorem zE : errW none = .nilIface := rfl
theorem zF (c : Int) : errW (some c) = .iface 0 (.int .i64 c) := rfl

theorem info22 : (Try.prog.info? 22).map (fun i => (i.zero, i.size, i.bytes)) = some (some (.int .u64 0), 1, 8) := by kernel_rfl
theorem info23 : (Try.prog.info? 23).map (fun i => (i.zero, i.size, i.bytes)) = some (some (.float .f64 0), 1, 8) := by kernel_rfl
-- the values' own types
structure S106 where
 f0 : Int
 f1 : Int
 f2 : Int
 f3 : Nat
 f4 : (List Int)
 f5 : Int
 f6 : Int
 f7 : Int
structure S77 where
 f0 : Int
 f1 : (List S106)
structure S82 where
 f0 : Int
 f1 : Int
 f2 : Int
structure S80 where
 f0 : Nat
 f1 : (List Int)
 f2 : Int
 f3 : Int
 f4 : Int
structure S60 where
 f0 : Int
 f1 : (List S80)
 f2 : (List S80)
 f3 : (List S80)
end Go.Proofs.Ytkmbgfhkdopigaa.P
namespace Go.Proofs.YtkmbgfhkdopigaaW.PrintLast
open Go.RowKit Go.Proofs.YtkmbgfhkdopigaaW.PrintWords
def ba (n m : Nat) : Array Bool := ((List.range n).map fun i => m.testBit i).toArray
section
variable {P : Program} {ops : Array Oper} {Q : Exit → Act → World → Prop} {md : Region.Mode} {S : World → Prop} {ds : List Nat} {T : Bool × List (List Nat × List Nat)}
theorem pu (i : Nat) (N : Option Tmp) {oi : Oper} {v : Value} {fuel : Nat} {l : Array Bool} {a : Act} {w : World} (l' : Array Bool) (HT : Zs (rtab md ops = T)) (hi : ops[i]? = some oi) (hN : oi.dst = N) (hc : anyT T l.toList l'.toList i = true)
    (hQ : ∀ c a w, Q (.panic c) (a.put oi.dst v) w → Q (.panic c) a w) (hw : Region.wanted oi (yielded ops a.tmps) = true) (hy : ∀ w, (execOp a.eval oi).run P w = .ok (.value v) w) {a' : Act} (ha : a.put N v = a')
    (h : wpAnyLast P md ops Q S ds fuel l' a' w) : wpAnyLast P md ops Q S ds (fuel + 1) l a w :=
  pure_ (i := i) (N := N) l' hi hN (any_of HT.out hc) hQ (Or.inl ⟨hw, hy⟩) ha h
theorem un (i : Nat) (N : Option Tmp) {oi : Oper} {fuel : Nat} {l : Array Bool} {a : Act} {w : World} (l' : Array Bool) (HT : Zs (rtab md ops = T)) (hi : ops[i]? = some oi) (hN : oi.dst = N) (hc : anyT T l.toList l'.toList i = true)
    (hQ : ∀ c a w, Q (.panic c) (a.put oi.dst undef) w → Q (.panic c) a w) (hw : Region.wanted oi (yielded ops a.tmps) = false) {a' : Act} (ha : a.put N undef = a')
    (h : wpAnyLast P md ops Q S ds fuel l' a' w) : wpAnyLast P md ops Q S ds (fuel + 1) l a w :=
  pure_ (i := i) (N := N) l' hi hN (any_of HT.out hc) hQ (Or.inr ⟨hw, rfl⟩) ha h
theorem ta (i : Nat) (N : Option Tmp) {oi : Oper} {v : Value} {fuel : Nat} {l : Array Bool} {a : Act} {w : World} {B : List Nat} (l' : Array Bool) (HT : Zs (rtab md ops = T)) (HW : Zs (waitsOk T.2 B = true)) (hi : ops[i]? = some oi) (hN : oi.dst = N) (hc : takeW T B ds l.toList l'.toList i = true)
    (hQ : ∀ c a w, Q (.panic c) (a.put oi.dst v) w → Q (.panic c) a w) (hw : Region.wanted oi (yielded ops a.tmps) = true) (hy : ∀ w, S w → (execOp a.eval oi).run P w = .ok (.value v) w) (hS : S w) {a' : Act} (ha : a.put N v = a')
    (h : wpAnyLast P md ops Q S ds fuel l' a' w) : wpAnyLast P md ops Q S ds (fuel + 1) l a w :=
  take_ (i := i) (N := N) l' hi hN (take_ofW HT.out HW.out hc) hQ (Or.inl ⟨hw, hy⟩) hS ha h
end
end Go.Proofs.YtkmbgfhkdopigaaW.PrintLast
namespace Go.Proofs.Ytkmbgfhkdopigaa.P
open Go.RowKit Go.Proofs.YtkmbgfhkdopigaaW.PrintWords Go.Proofs.YtkmbgfhkdopigaaW.PrintLast Go.Proofs.YtkmbgfhkdopigaaW.PrintMore
attribute [local go_sem] max2_int min2_int max_two min_two max_three min_three max_four min_four
attribute [local go_sem] Go.Proofs.Ytkmbgfhkdopigaa.Fl.store_float Go.Proofs.Ytkmbgfhkdopigaa.Fl.call54 Go.Proofs.Ytkmbgfhkdopigaa.Fl.call22 Go.Proofs.Ytkmbgfhkdopigaa.Fl.call14 Go.Proofs.Ytkmbgfhkdopigaa.Fl.call28
set_option linter.unusedVariables false
set_option linter.unusedSimpArgs false
def qmi.f (a0 : Int) : Option (Nat) := if a0 ≥ 0 then (some 9218868437227405312) else (some 18442240474082181120)
set_option maxHeartbeats 8000000 in
set_option maxRecDepth 100000 in
theorem qmi.calls (a0 : Int) (r : Nat) (w : World) (h : qmi.f a0 = some r) :
  Calls Try.prog 55 #[.int .i64 a0] w fun e w' => e = .returned (.float .f64 r) ∧ Drawn0 w w' := by
 have H : (if a0 ≥ 0 then (some 9218868437227405312) else (some 18442240474082181120)) = some r := h
 clear h
 by_cases c2 : a0 ≥ 0
 ·rw [if_pos c2] at H
  have c2b0 : decide (0 ≤ a0) = true := decide_eq_true c2
  clear c2
  obtain rfl := Option.some.inj H
  go_enter Try.func55, Try.ntmps55
  go_wp2
  go_ret
  exact ⟨by first | rfl | (simp; done) | (simp [*]; done), by repeat (first | exact Drawn0.refl _ | apply Drawn0.step)⟩
 ·rw [if_neg c2] at H
  have c2b0 : decide (0 ≤ a0) = false := decide_eq_false c2
  clear c2
  obtain rfl := Option.some.inj H
  go_enter Try.func55, Try.ntmps55
  go_wp2
  go_ret
  exact ⟨by first | rfl | (simp; done) | (simp [*]; done), by repeat (first | exact Drawn0.refl _ | apply Drawn0.step)⟩
def qt0l.l0 : Nat → List Int → List Nat → Int → Option (List Nat)
 | 0, _, _, _ => none
 | k + 1, x0, x3, x4 => if x4 < (x0.length : Int) then (if 0 ≤ x4 then (if x3.length < 17592186044416 then (qt0l.l0 k x0 (x3 ++ [(rd x0 x4).toNat]) (wrap64 (x4 + 1))) else (none)) else (none)) else (some x3)
def qt0l.f (k : Nat) (l0 : List Int) : Option (List Nat) := qt0l.l0 k l0 ([] : List Nat) 0
set_option maxHeartbeats 8000000 in
set_option maxRecDepth 100000 in
theorem qt0l.calls (k : Nat) (A0 : Option Addr) (c0 : Nat) (l0 : List Int) (r : List Nat) (w : World) (hr0 : Kd.C (Kd.int .u64) w A0 l0.length l0) (hc0 : l0.length ≤ c0) (h : qt0l.f k l0 = some r) :
  Calls Try.prog 43 #[.slice A0 l0.length c0] w fun e w' => ∃ v0_ : Value, e = .returned (v0_) ∧ Kd.R (Kd.scalar (Value.float .f64) (fun _ => rfl)) 23 w' w.heap.size (fun _ => True) v0_ r ∧ Below w.heap.size w w' := by
 have HR0 := Zs.mk hr0
 have HC0 := Zs.mk hc0
 clear hr0 hc0
 have HB := Zs.mk (Below.refl w.heap.size w)
 have H : (qt0l.l0 k l0 ([] : List Nat) 0) = some r := h
 clear h
 have H' := Zs.mk H
 clear H
 go_enter Try.func43, Try.ntmps43
 go_wp2
 go_loopg [3, 4] k (fun kq v3 v4 w' => ∃ (x3_1 : List Nat) (x4_1 : Int), v4 = .int .i64 x4_1 ∧ Zs (qt0l.l0 kq l0 x3_1 x4_1 = some r) ∧ Zs (kq ≤ k) ∧ Zs (Kd.R (Kd.scalar (Value.float .f64) (fun _ => rfl)) 23 w' w.heap.size (fun _ => True) v3 x3_1) ∧ Zs (Below w.heap.size w w'))
 case atStart => exact ⟨(([] : List Nat)), (0), (by first | rfl | (simp; done) | (simp [*]; done)), H', ⟨Nat.le_refl _⟩, ⟨by first | exact Kd.R_nil _ _ _ _ _ | exact Kd.N_nil _ _ _ _ _ | exact Kd.V_nil _ _ _ _ _ | exact Kd.Q_nil _ _ _ _ _ | exact Kd.S_nil _ _ _ _ _⟩, ⟨by repeat (first | (with_reducible first | exact HB.out | apply zA | apply zB | apply zC) | exact HB.out)⟩⟩
 case round =>
  clear H'
  obtain ⟨x3_1, x4_1, rfl, HA, HK1, HO_3, HB⟩ := hrel
  cases gk with
  | zero => exact absurd HA.out (by simp [qt0l.l0])
  | succ k1 =>
   have H := HA.out
   clear HA
   simp only [qt0l.l0] at H
   by_cases c2 : x4_1 < (l0.length : Int)
   ·rw [if_pos c2] at H
    have c2b0 : decide (x4_1 < (l0.length : Int)) = true := decide_eq_true c2
    clear c2
    by_cases c3 : 0 ≤ x4_1
    ·rw [if_pos c3] at H
     have c3b0 : decide (0 ≤ x4_1) = true := decide_eq_true c3
     clear c3
     by_cases c4 : x3_1.length < 17592186044416
     ·rw [if_pos c4] at H
      have LMc4 := Zs.mk c4
      clear c4
      obtain ⟨y102, hy102⟩ : ∃ y_ : List Nat, y_ = (x3_1 ++ [(rd l0 x4_1).toNat]) := ⟨_, rfl⟩
      replace H : (qt0l.l0 k1 l0 y102 (wrap64 (x4_1 + 1))) = some r := by first | (rw [hy102]; with_reducible exact H) | (have H2_ := (Option.bind_some _ _).symm.trans H; rw [hy102]; with_reducible exact H2_) | (have H2_ := (Option.bind_some _ _).symm.trans H; with_reducible exact H2_) | with_reducible exact H | (rw [hy102]; exact H) | exact H
      have Ny102 := Zs.mk hy102
      clear hy102
      have H' := Zs.mk H
      clear H
      have p101 : 0 ≤ (x4_1 : Int) := of_decide_eq_true (by first | (with_reducible assumption) | assumption)
      have q101 : x4_1 < (l0.length : Int) := of_decide_eq_true (by first | (with_reducible assumption) | assumption)
      obtain ⟨ad101, e101, hx101_0⟩ := Kd.at_int HR0.out x4_1 p101 q101
      cases e101
      replace hx101_0 := (HB.out.cell (World.block_lt_of_cell? w _ hx101_0)).trans hx101_0
      replace p101 := eq_true p101
      replace q101 := eq_true q101
      go_wp2_with (first | ((with_reducible refine gate_builtin (b := .append) (xs := #[.tmp 11, .tmp 17]) rfl ?_); at_builtin; refine Kd.R_append (Kd.scalar (Value.float .f64) (fun _ => rfl)) (w0 := w) w.heap.size rfl (.tmp 11) (.tmp 17) 70 23 (.float .f64 0) 8 rfl Try.underlying70 info23 rfl (by decide) (by omega) u3 x3_1 ((rd l0 x4_1).toNat) [.float .f64 ((rd l0 x4_1).toNat)] (fun _ => True) (fun _ => False) rfl rfl ?aP (fun _ hk => hk.elim) ?aF ?aO ?aB ?aS ?aL ?_; (case aP => exact rfl); (case aB => exact (by repeat (first | (with_reducible first | exact HB.out | apply zA | apply zB | apply zC) | exact HB.out))); (case aF => exact (fun _ _ => trivial)); (case aO => exact (by (with_reducible repeat (first | apply Kd.R_alloc | apply Kd.R_drewN | apply Kd.R_drew)); exact HO_3.out)); (case aS => exact (below_size (by repeat (first | (with_reducible first | exact HB.out | apply zA | apply zB | apply zC) | exact HB.out)))); (case aL => have := LMc4.out; omega); intro v103 w5 ho hb hg hat; rw [← Ny102.out] at ho; have n0_ := Zs.mk (hb); have n1_ := Zs.mk (ho); clear HB; clear HO_3; have HB := n0_; have HO104 := n1_; clear n0_ n1_; clear ho hb hg hat))
      go_roundg k1
      case measure => have := HK1.out; omega
      case rel => exact ⟨(y102), (wrap64 (x4_1 + 1)), (by first | rfl | (simp; done) | (simp [*]; done)), H', ⟨by have := HK1.out; omega⟩, ⟨by (with_reducible repeat (first | apply Kd.R_alloc | apply Kd.R_drewN | apply Kd.R_drew)); exact HO104.out⟩, ⟨by repeat (first | (with_reducible first | exact HB.out | apply zA | apply zB | apply zC) | exact HB.out)⟩⟩
     ·rw [if_neg c4] at H
      exact absurd H (by simp)
    ·rw [if_neg c3] at H
     exact absurd H (by simp)
   ·rw [if_neg c2] at H
    have c2b0 : decide (x4_1 < (l0.length : Int)) = false := decide_eq_false c2
    clear c2
    obtain rfl := Option.some.inj H
    go_wp2
    go_ret
    exact ⟨_, by first | rfl | (simp [zE, zF] <;> rfl) | (simp [*, zE, zF] <;> rfl), by (with_reducible repeat (first | apply Kd.R_alloc | apply Kd.R_drewN | apply Kd.R_drew)); exact HO_3.out, by repeat (first | (with_reducible first | exact HB.out | apply zA | apply zB | apply zC) | exact HB.out)⟩
def qok.f (a0 : Nat) : Option (Int) := if ((FloatKind.format .f64).order a0 a0 != some .eq) = true then (some 18437736874454810625) else (if ((a0 : Int) / 9223372036854775808) = 0 then (some (IntKind.u64.wrap (9218868437227405312 + (a0 : Int)))) else (some (IntKind.u64.wrap (9218868437227405312 - (Go.bits .andNot .u64 (a0 : Int) 9223372036854775808)))))
set_option maxHeartbeats 8000000 in
set_option maxRecDepth 100000 in
theorem qok.calls (a0 : Nat) (r : Int) (w : World) (h : qok.f a0 = some r) :
  Calls Try.prog 80 #[.float .f64 a0] w fun e w' => e = .returned (.int .u64 r) ∧ Drawn0 w w' := by
 have H : (if ((FloatKind.format .f64).order a0 a0 != some .eq) = true then (some 18437736874454810625) else (if ((a0 : Int) / 9223372036854775808) = 0 then (some (IntKind.u64.wrap (9218868437227405312 + (a0 : Int)))) else (some (IntKind.u64.wrap (9218868437227405312 - (Go.bits .andNot .u64 (a0 : Int) 9223372036854775808)))))) = some r := h
 clear h
 by_cases c2 : ((FloatKind.format .f64).order a0 a0 != some .eq) = true
 ·rw [if_pos c2] at H
  have c2b0 : ((FloatKind.format .f64).order a0 a0 != some .eq) = true := c2
  (try (have c2b1 : decide ((FloatKind.format .f64).order a0 a0 = some .eq) = false := by simpa using c2))
  (try (have c2b2 : ((FloatKind.format .f64).order a0 a0 == some .eq) = false := by simpa using c2))
  (try (have c2b3 : ¬ ((FloatKind.format .f64).order a0 a0 = some .eq) := by simpa using c2))
  clear c2
  obtain rfl := Option.some.inj H
  go_enter Try.func80, Try.ntmps80
  go_wp2
  go_ret
  exact ⟨by first | rfl | (simp; done) | (simp [*]; done), by repeat (first | exact Drawn0.refl _ | apply Drawn0.step)⟩
 ·rw [if_neg c2] at H
  have c2b0 : ((FloatKind.format .f64).order a0 a0 != some .eq) = false := by simpa using c2
  (try (have c2b1 : decide ((FloatKind.format .f64).order a0 a0 = some .eq) = true := by simpa using c2))
  (try (have c2b2 : ((FloatKind.format .f64).order a0 a0 == some .eq) = true := by simpa using c2))
  clear c2
  by_cases c3 : ((a0 : Int) / 9223372036854775808) = 0
  ·rw [if_pos c3] at H
   have c3b0 : (((a0 : Int) / 9223372036854775808) == 0) = true := beq_iff_eq.mpr c3
   have c3b1 : (((a0 : Int) / 9223372036854775808) != 0) = false := bne_eq_false_iff_eq.mpr c3
   clear c3
   obtain rfl := Option.some.inj H
   go_enter Try.func80, Try.ntmps80
   go_wp2
   go_ret
   exact ⟨by first | rfl | (simp; done) | (simp [*]; done), by repeat (first | exact Drawn0.refl _ | apply Drawn0.step)⟩
  ·rw [if_neg c3] at H
   have c3b0 : (((a0 : Int) / 9223372036854775808) == 0) = false := beq_eq_false_iff_ne.mpr c3
   have c3b1 : (((a0 : Int) / 9223372036854775808) != 0) = true := bne_iff_ne.mpr c3
   obtain rfl := Option.some.inj H
   go_enter Try.func80, Try.ntmps80
   go_wp2
   go_ret
   exact ⟨by first | rfl | (simp; done) | (simp [*]; done), by repeat (first | exact Drawn0.refl _ | apply Drawn0.step)⟩
def qcinnu6.f (a0 : Int) : Option (Bool) := some (a0 != a0)
set_option maxHeartbeats 8000000 in
set_option maxRecDepth 100000 in
theorem qcinnu6.calls (a0 : Int) (r : Bool) (w : World) (h : qcinnu6.f a0 = some r) :
  Calls Try.prog 143 #[.int .u64 a0] w fun e w' => e = .returned (.bool r) ∧ Drawn0 w w' := by
 have H : (some (a0 != a0)) = some r := h
 clear h
 obtain rfl := Option.some.inj H
 go_enter Try.func143, Try.ntmps143
 go_wp2
 go_ret
 exact ⟨by first | rfl | (simp; done) | (simp [*]; done), by repeat (first | exact Drawn0.refl _ | apply Drawn0.step)⟩
def qccu6.f (a0 : Int) (a1 : Int) : Option (Int) := (qcinnu6.f a0).bind fun t101 => ((qcinnu6.f a1).bind fun t102 => (if t101 = true then (if t102 = true then (some 0) else (some (-1))) else (if t102 = true then (some 1) else (if a0 < a1 then (some (-1)) else (if a0 > a1 then (some 1) else (some 0))))))
set_option maxHeartbeats 8000000 in
set_option maxRecDepth 100000 in
theorem qccu6.calls (a0 : Int) (a1 : Int) (r : Int) (w : World) (h : qccu6.f a0 a1 = some r) :
  Calls Try.prog 102 #[.int .u64 a0, .int .u64 a1] w fun e w' => e = .returned (.int .i64 r) ∧ Drawn0 w w' := by
 have H : ((qcinnu6.f a0).bind fun t101 => ((qcinnu6.f a1).bind fun t102 => (if t101 = true then (if t102 = true then (some 0) else (some (-1))) else (if t102 = true then (some 1) else (if a0 < a1 then (some (-1)) else (if a0 > a1 then (some 1) else (some 0))))))) = some r := h
 clear h
 replace H := Option.bind_eq_some_iff.mp H
 obtain ⟨t101, A30, H⟩ := H
 replace H : ((qcinnu6.f a1).bind fun t102 => (if t101 = true then (if t102 = true then (some 0) else (some (-1))) else (if t102 = true then (some 1) else (if a0 < a1 then (some (-1)) else (if a0 > a1 then (some 1) else (some 0)))))) = some r := H
 have A3 := Zs.mk A30
 clear A30
 replace H := Option.bind_eq_some_iff.mp H
 obtain ⟨t102, A40, H⟩ := H
 replace H : (if t101 = true then (if t102 = true then (some 0) else (some (-1))) else (if t102 = true then (some 1) else (if a0 < a1 then (some (-1)) else (if a0 > a1 then (some 1) else (some 0))))) = some r := H
 have A4 := Zs.mk A40
 clear A40
 by_cases c5 : t101 = true
 ·subst c5
  have H1 : (if t102 = true then (some 0) else (some (-1))) = some r := by rw [if_pos rfl] at H; exact H
  clear H
  have H := H1
  clear H1
  by_cases c6 : t102 = true
  ·subst c6
   have H1 : (some 0) = some r := by rw [if_pos rfl] at H; exact H
   clear H
   have H := H1
   clear H1
   obtain rfl := Option.some.inj H
   go_enter Try.func102, Try.ntmps102
   go_wp2_with (first | ((with_reducible refine gate_callee (f := 143) rfl ?_); refine goesL_ (some 8) rfl rfl Try.func143 (by kernel_rfl) rfl #[.int .u64 a0] rfl (by (try simp only [List.map_toArray, List.map_cons, List.map_nil]); first | done | rfl | (simp only [List.length_drop, List.length_take]; rfl)) ?_; (with_reducible refine (qcinnu6.calls a0 true _ A3.out).mono ?_); rintro e w' ⟨rfl, ⟨nd, rfl⟩⟩; refine ⟨_, rfl, ?_⟩) | ((with_reducible refine gate_callee (f := 143) rfl ?_); refine goesL_ (some 10) rfl rfl Try.func143 (by kernel_rfl) rfl #[.int .u64 a1] rfl (by (try simp only [List.map_toArray, List.map_cons, List.map_nil]); first | done | rfl | (simp only [List.length_drop, List.length_take]; rfl)) ?_; (with_reducible refine (qcinnu6.calls a1 true _ A4.out).mono ?_); rintro e w' ⟨rfl, ⟨nd, rfl⟩⟩; refine ⟨_, rfl, ?_⟩))
   go_ret
   exact ⟨by first | rfl | (simp; done) | (simp [*]; done), by repeat (first | exact Drawn0.refl _ | apply Drawn0.step)⟩
  ·replace c6 := Bool.eq_false_iff.mpr c6
   subst c6
   have H1 : (some (-1)) = some r := by rw [if_neg (show ¬ (false = true) by decide)] at H; exact H
   clear H
   have H := H1
   clear H1
   obtain rfl := Option.some.inj H
   go_enter Try.func102, Try.ntmps102
   go_wp2_with (first | ((with_reducible refine gate_callee (f := 143) rfl ?_); refine goesL_ (some 8) rfl rfl Try.func143 (by kernel_rfl) rfl #[.int .u64 a0] rfl (by (try simp only [List.map_toArray, List.map_cons, List.map_nil]); first | done | rfl | (simp only [List.length_drop, List.length_take]; rfl)) ?_; (with_reducible refine (qcinnu6.calls a0 true _ A3.out).mono ?_); rintro e w' ⟨rfl, ⟨nd, rfl⟩⟩; refine ⟨_, rfl, ?_⟩) | ((with_reducible refine gate_callee (f := 143) rfl ?_); refine goesL_ (some 10) rfl rfl Try.func143 (by kernel_rfl) rfl #[.int .u64 a1] rfl (by (try simp only [List.map_toArray, List.map_cons, List.map_nil]); first | done | rfl | (simp only [List.length_drop, List.length_take]; rfl)) ?_; (with_reducible refine (qcinnu6.calls a1 false _ A4.out).mono ?_); rintro e w' ⟨rfl, ⟨nd, rfl⟩⟩; refine ⟨_, rfl, ?_⟩))
   go_ret
   exact ⟨by first | rfl | (simp; done) | (simp [*]; done), by repeat (first | exact Drawn0.refl _ | apply Drawn0.step)⟩
 ·replace c5 := Bool.eq_false_iff.mpr c5
  subst c5
  have H1 : (if t102 = true then (some 1) else (if a0 < a1 then (some (-1)) else (if a0 > a1 then (some 1) else (some 0)))) = some r := by rw [if_neg (show ¬ (false = true) by decide)] at H; exact H
  clear H
  have H := H1
  clear H1
  by_cases c7 : t102 = true
  ·subst c7
   have H1 : (some 1) = some r := by rw [if_pos rfl] at H; exact H
   clear H
   have H := H1
   clear H1
   obtain rfl := Option.some.inj H
   go_enter Try.func102, Try.ntmps102
   go_wp2_with (first | ((with_reducible refine gate_callee (f := 143) rfl ?_); refine goesL_ (some 8) rfl rfl Try.func143 (by kernel_rfl) rfl #[.int .u64 a0] rfl (by (try simp only [List.map_toArray, List.map_cons, List.map_nil]); first | done | rfl | (simp only [List.length_drop, List.length_take]; rfl)) ?_; (with_reducible refine (qcinnu6.calls a0 false _ A3.out).mono ?_); rintro e w' ⟨rfl, ⟨nd, rfl⟩⟩; refine ⟨_, rfl, ?_⟩) | ((with_reducible refine gate_callee (f := 143) rfl ?_); refine goesL_ (some 10) rfl rfl Try.func143 (by kernel_rfl) rfl #[.int .u64 a1] rfl (by (try simp only [List.map_toArray, List.map_cons, List.map_nil]); first | done | rfl | (simp only [List.length_drop, List.length_take]; rfl)) ?_; (with_reducible refine (qcinnu6.calls a1 true _ A4.out).mono ?_); rintro e w' ⟨rfl, ⟨nd, rfl⟩⟩; refine ⟨_, rfl, ?_⟩))
   go_ret
   exact ⟨by first | rfl | (simp; done) | (simp [*]; done), by repeat (first | exact Drawn0.refl _ | apply Drawn0.step)⟩
  ·replace c7 := Bool.eq_false_iff.mpr c7
   subst c7
   have H1 : (if a0 < a1 then (some (-1)) else (if a0 > a1 then (some 1) else (some 0))) = some r := by rw [if_neg (show ¬ (false = true) by decide)] at H; exact H
   clear H
   have H := H1
   clear H1
   by_cases c8 : a0 < a1
   ·rw [if_pos c8] at H
    have c8b0 : decide (a0 < a1) = true := decide_eq_true c8
    clear c8
    obtain rfl := Option.some.inj H
    go_enter Try.func102, Try.ntmps102
    go_wp2_with (first | ((with_reducible refine gate_callee (f := 143) rfl ?_); refine goesL_ (some 8) rfl rfl Try.func143 (by kernel_rfl) rfl #[.int .u64 a0] rfl (by (try simp only [List.map_toArray, List.map_cons, List.map_nil]); first | done | rfl | (simp only [List.length_drop, List.length_take]; rfl)) ?_; (with_reducible refine (qcinnu6.calls a0 false _ A3.out).mono ?_); rintro e w' ⟨rfl, ⟨nd, rfl⟩⟩; refine ⟨_, rfl, ?_⟩) | ((with_reducible refine gate_callee (f := 143) rfl ?_); refine goesL_ (some 10) rfl rfl Try.func143 (by kernel_rfl) rfl #[.int .u64 a1] rfl (by (try simp only [List.map_toArray, List.map_cons, List.map_nil]); first | done | rfl | (simp only [List.length_drop, List.length_take]; rfl)) ?_; (with_reducible refine (qcinnu6.calls a1 false _ A4.out).mono ?_); rintro e w' ⟨rfl, ⟨nd, rfl⟩⟩; refine ⟨_, rfl, ?_⟩))
    go_ret
    exact ⟨by first | rfl | (simp; done) | (simp [*]; done), by repeat (first | exact Drawn0.refl _ | apply Drawn0.step)⟩
   ·rw [if_neg c8] at H
    have c8b0 : decide (a0 < a1) = false := decide_eq_false c8
    clear c8
    by_cases c9 : a0 > a1
    ·rw [if_pos c9] at H
     have c9b0 : decide (a1 < a0) = true := decide_eq_true c9
     clear c9
     obtain rfl := Option.some.inj H
     go_enter Try.func102, Try.ntmps102
     go_wp2_with (first | ((with_reducible refine gate_callee (f := 143) rfl ?_); refine goesL_ (some 8) rfl rfl Try.func143 (by kernel_rfl) rfl #[.int .u64 a0] rfl (by (try simp only [List.map_toArray, List.map_cons, List.map_nil]); first | done | rfl | (simp only [List.length_drop, List.length_take]; rfl)) ?_; (with_reducible refine (qcinnu6.calls a0 false _ A3.out).mono ?_); rintro e w' ⟨rfl, ⟨nd, rfl⟩⟩; refine ⟨_, rfl, ?_⟩) | ((with_reducible refine gate_callee (f := 143) rfl ?_); refine goesL_ (some 10) rfl rfl Try.func143 (by kernel_rfl) rfl #[.int .u64 a1] rfl (by (try simp only [List.map_toArray, List.map_cons, List.map_nil]); first | done | rfl | (simp only [List.length_drop, List.length_take]; rfl)) ?_; (with_reducible refine (qcinnu6.calls a1 false _ A4.out).mono ?_); rintro e w' ⟨rfl, ⟨nd, rfl⟩⟩; refine ⟨_, rfl, ?_⟩))
     go_ret
     exact ⟨by first | rfl | (simp; done) | (simp [*]; done), by repeat (first | exact Drawn0.refl _ | apply Drawn0.step)⟩
    ·rw [if_neg c9] at H
     have c9b0 : decide (a1 < a0) = false := decide_eq_false c9
     clear c9
     obtain rfl := Option.some.inj H
     go_enter Try.func102, Try.ntmps102
     go_wp2_with (first | ((with_reducible refine gate_callee (f := 143) rfl ?_); refine goesL_ (some 8) rfl rfl Try.func143 (by kernel_rfl) rfl #[.int .u64 a0] rfl (by (try simp only [List.map_toArray, List.map_cons, List.map_nil]); first | done | rfl | (simp only [List.length_drop, List.length_take]; rfl)) ?_; (with_reducible refine (qcinnu6.calls a0 false _ A3.out).mono ?_); rintro e w' ⟨rfl, ⟨nd, rfl⟩⟩; refine ⟨_, rfl, ?_⟩) | ((with_reducible refine gate_callee (f := 143) rfl ?_); refine goesL_ (some 10) rfl rfl Try.func143 (by kernel_rfl) rfl #[.int .u64 a1] rfl (by (try simp only [List.map_toArray, List.map_cons, List.map_nil]); first | done | rfl | (simp only [List.length_drop, List.length_take]; rfl)) ?_; (with_reducible refine (qcinnu6.calls a1 false _ A4.out).mono ?_); rintro e w' ⟨rfl, ⟨nd, rfl⟩⟩; refine ⟨_, rfl, ?_⟩))
     go_ret
     exact ⟨by first | rfl | (simp; done) | (simp [*]; done), by repeat (first | exact Drawn0.refl _ | apply Drawn0.step)⟩
def qoc.f (a0 : Nat) (a1 : Nat) : Option (Int) := (qok.f a0).bind fun t101 => ((qok.f a1).bind fun t102 => ((qccu6.f t101 t102).bind fun t103 => (some t103)))
set_option maxHeartbeats 8000000 in
set_option maxRecDepth 100000 in
theorem qoc.calls (a0 : Nat) (a1 : Nat) (r : Int) (w : World) (h : qoc.f a0 a1 = some r) :
  Calls Try.prog 52 #[.float .f64 a0, .float .f64 a1] w fun e w' => e = .returned (.int .i64 r) ∧ Drawn0 w w' := by
 have H : ((qok.f a0).bind fun t101 => ((qok.f a1).bind fun t102 => ((qccu6.f t101 t102).bind fun t103 => (some t103)))) = some r := h
 clear h
 replace H := Option.bind_eq_some_iff.mp H
 obtain ⟨t101, A30, H⟩ := H
 replace H : ((qok.f a1).bind fun t102 => ((qccu6.f t101 t102).bind fun t103 => (some t103))) = some r := H
 have A3 := Zs.mk A30
 clear A30
 replace H := Option.bind_eq_some_iff.mp H
 obtain ⟨t102, A40, H⟩ := H
 replace H : ((qccu6.f t101 t102).bind fun t103 => (some t103)) = some r := H
 have A4 := Zs.mk A40
 clear A40
 replace H := Option.bind_eq_some_iff.mp H
 obtain ⟨t103, A50, H⟩ := H
 replace H : (some t103) = some r := H
 have A5 := Zs.mk A50
 clear A50
 obtain rfl := Option.some.inj H
 go_enter Try.func52, Try.ntmps52
 go_wp2_with (first | ((with_reducible refine gate_callee (f := 80) rfl ?_); refine goesL_ (some 6) rfl rfl Try.func80 (by kernel_rfl) rfl #[.float .f64 a0] rfl (by (try simp only [List.map_toArray, List.map_cons, List.map_nil]); first | done | rfl | (simp only [List.length_drop, List.length_take]; rfl)) ?_; (with_reducible refine (qok.calls a0 t101 _ A3.out).mono ?_); rintro e w' ⟨rfl, ⟨nd, rfl⟩⟩; refine ⟨_, rfl, ?_⟩) | ((with_reducible refine gate_callee (f := 80) rfl ?_); refine goesL_ (some 8) rfl rfl Try.func80 (by kernel_rfl) rfl #[.float .f64 a1] rfl (by (try simp only [List.map_toArray, List.map_cons, List.map_nil]); first | done | rfl | (simp only [List.length_drop, List.length_take]; rfl)) ?_; (with_reducible refine (qok.calls a1 t102 _ A4.out).mono ?_); rintro e w' ⟨rfl, ⟨nd, rfl⟩⟩; refine ⟨_, rfl, ?_⟩) | ((with_reducible refine gate_callee (f := 102) rfl ?_); refine goesL_ (some 9) rfl rfl Try.func102 (by kernel_rfl) rfl #[.int .u64 t101, .int .u64 t102] rfl (by (try simp only [List.map_toArray, List.map_cons, List.map_nil]); first | done | rfl | (simp only [List.length_drop, List.length_take]; rfl)) ?_; (with_reducible refine (qccu6.calls t101 t102 t103 _ A5.out).mono ?_); rintro e w' ⟨rfl, ⟨nd, rfl⟩⟩; refine ⟨_, rfl, ?_⟩))
 go_ret
 exact ⟨by first | rfl | (simp; done) | (simp [*]; done), by repeat (first | exact Drawn0.refl _ | apply Drawn0.step)⟩
mutual
def qsiscff6.l0 : Nat → List Nat → Int → Int → Int → Option (List Nat)
 | 0, _, _, _, _ => none
 | k + 1, x0, x1, x2, x8 => if x8 < x2 then (qsiscff6.l1 k x0 x1 x2 x8 x8) else (some x0)
def qsiscff6.l1 : Nat → List Nat → Int → Int → Int → Int → Option (List Nat)
 | 0, _, _, _, _, _ => none
 | k + 1, x0, x1, x2, x8, x9 => if x9 > x1 then (if 0 ≤ x9 then (if x9 < (x0.length : Int) then (if 0 ≤ (wrap64 (x9 - 1)) then (if (wrap64 (x9 - 1)) < (x0.length : Int) then ((qoc.f (rdOf (0 : Nat) x0 x9) (rdOf (0 : Nat) x0 (wrap64 (x9 - 1)))).bind fun t103 => (if t103 < 0 then (qsiscff6.l1 k ((x0.set (x9 : Int).toNat (rdOf (0 : Nat) x0 (wrap64 (x9 - 1)))).set ((wrap64 (x9 - 1)) : Int).toNat (rdOf (0 : Nat) x0 x9)) x1 x2 x8 (wrap64 (x9 - 1))) else (qsiscff6.l0 k x0 x1 x2 (wrap64 (x8 + 1))))) else (none)) else (none)) else (none)) else (none)) else (qsiscff6.l0 k x0 x1 x2 (wrap64 (x8 + 1)))
end
def qsiscff6.f (k : Nat) (l0 : List Nat) (a1 : Int) (a2 : Int)  : Option (List Nat) := qsiscff6.l0 k l0 a1 a2 (wrap64 (a1 + 1))
def qsiscff6.T4 : Bool × List (List Nat × List Nat) := (true, [([], []), ([], []), ([0, 1], [0, 1]), ([2], [2]), ([3], [3]), ([3], [3]), ([3], [3]), ([5, 6, 3], [3, 5, 6]), ([7, 3], [3, 7]), ([3], [3]), ([3], [3]), ([10, 3], [3, 10]), ([9, 11, 3], [3, 9, 11]), ([12, 3], [3, 12]), ([4, 8, 13, 3, 3], [3, 4, 8, 13]), ([14, 3], [3, 14]), ([3, 15], [3, 15])])
def qsiscff6.B4 : List Nat := [0, 0, 3, 7, 15, 15, 15, 111, 239, 15, 15, 1039, 3599, 7695, 16383, 32767, 65535]
theorem qsiscff6.tab4 : rtab .any (opsOf Try.f163 4) = qsiscff6.T4 := by kernel_rfl
theorem qsiscff6.bits4 : waitsOk qsiscff6.T4.2 qsiscff6.B4 = true := by kernel_rfl
def qsiscff6.T6 : Bool × List (List Nat × List Nat) := (true, [([], []), ([], []), ([], []), ([], []), ([3], [3]), ([], []), ([], []), ([6], [6]), ([5, 7], [5, 7]), ([8], [8]), ([], []), ([], []), ([10, 11], [10, 11]), ([12], [12]), ([0, 1, 0, 1, 5, 6, 7, 8, 9, 13], [0, 1]), ([14, 9, 0, 1, 5, 6, 7, 8, 9, 13], [9, 14]), ([2, 4, 0, 1, 2, 3, 4, 5, 6, 7, 8, 9, 10, 11, 12, 13, 14, 15], [2, 4]), ([16, 13, 15, 0, 1, 2, 3, 4, 5, 6, 7, 8, 9, 10, 11, 12, 13, 14, 15], [13, 16])])
def qsiscff6.B6 : List Nat := [0, 0, 0, 0, 8, 0, 0, 64, 224, 480, 0, 0, 3072, 7168, 16355, 32739, 65535, 131071]
theorem qsiscff6.tab6 : rtab .any (opsOf Try.f163 6) = qsiscff6.T6 := by kernel_rfl
theorem qsiscff6.bits6 : waitsOk qsiscff6.T6.2 qsiscff6.B6 = true := by kernel_rfl
set_option maxHeartbeats 8000000 in
set_option maxRecDepth 100000 in
theorem qsiscff6.calls (k : Nat) (P0_ : Nat → Prop) (u9000_ : Value) (l0 : List Nat) (a1 : Int) (a2 : Int)  (r : List Nat) (w0 w : World) (hB : Below w0.heap.size w0 w) (ho0 : Kd.R (Kd.scalar (Value.float .f64) (fun _ => rfl)) 23 w w0.heap.size P0_ u9000_ l0) (h : qsiscff6.f k l0 a1 a2 = some r) :
  Calls Try.prog 163 #[u9000_, .int .i64 a1, .int .i64 a2, .func (.func 52) #[] #[]] w fun e w' => e = .returned (.tuple #[]) ∧ Kd.R (Kd.scalar (Value.float .f64) (fun _ => rfl)) 23 w' w0.heap.size (fun k_ => (P0_ k_ ∨ w.heap.size ≤ k_)) u9000_ r ∧ Below w0.heap.size w0 w' ∧ Kept w w' (fun k_ => P0_ k_) := by
 have HO0 := Zs.mk (show Kd.R (Kd.scalar (Value.float .f64) (fun _ => rfl)) 23 w w0.heap.size (fun k_ => (P0_ k_ ∨ w.heap.size ≤ k_)) u9000_ l0 from Kd.R_mono ho0 (fun k_ hk => (.inl hk)))
 have HK := Zs.mk (Kept.refl w (fun k_ => P0_ k_))
 have HW0 := Zs.mk hB.size
 have HB := Zs.mk hB
 clear hB
 have H : (qsiscff6.l0 k l0 a1 a2 (wrap64 (a1 + 1))) = some r := h
 clear h
 have H' := Zs.mk H
 clear H
 go_enter Try.func163, Try.ntmps163
 go_wp2
 go_loopg [8] k (fun kq v8 w' => ∃ (x0_1 : List Nat) (x8_1 : Int), v8 = .int .i64 x8_1 ∧ Zs (qsiscff6.l0 kq x0_1 a1 a2 x8_1 = some r) ∧ Zs (kq ≤ k) ∧ Zs (Kd.R (Kd.scalar (Value.float .f64) (fun _ => rfl)) 23 w' w0.heap.size (fun k_ => (P0_ k_ ∨ w.heap.size ≤ k_)) u9000_ x0_1) ∧ Zs (Kept w w' (fun k_ => P0_ k_)) ∧ Zs (Below w0.heap.size w0 w'))
 case atStart => exact ⟨(l0), (wrap64 (a1 + 1)), (by first | rfl | (simp; done) | (simp [*]; done)), H', ⟨Nat.le_refl _⟩, ⟨by (with_reducible repeat (first | apply Kd.R_alloc | apply Kd.R_drewN | apply Kd.R_drew)); exact HO0.out⟩, ⟨by repeat (first | (with_reducible first | exact HK.out | apply Kept.alloc | apply Kept.drewN | apply Kept.drew) | exact HK.out)⟩, ⟨by repeat (first | (with_reducible first | exact HB.out | apply zA | apply zB | apply zC) | exact HB.out)⟩⟩
 case round =>
  clear H'
  obtain ⟨x0_1, x8_1, rfl, HA, HK1, HO_0, HK, HB⟩ := hrel
  cases gk with
  | zero => exact absurd HA.out (by simp [qsiscff6.l0])
  | succ k1 =>
   have H := HA.out
   clear HA
   simp only [qsiscff6.l0] at H
   by_cases c5 : x8_1 < a2
   ·rw [if_pos c5] at H
    have c5b0 : decide (x8_1 < a2) = true := decide_eq_true c5
    clear c5
    have H' := Zs.mk H
    clear H
    go_wp2
    go_loopg [9] k1 (fun kq v9 w' => ∃ (x0_2 : List Nat) (x9_2 : Int), v9 = .int .i64 x9_2 ∧ Zs (qsiscff6.l1 kq x0_2 a1 a2 x8_1 x9_2 = some r) ∧ Zs (kq ≤ k1) ∧ Zs (Kd.R (Kd.scalar (Value.float .f64) (fun _ => rfl)) 23 w' w0.heap.size (fun k_ => (P0_ k_ ∨ w.heap.size ≤ k_)) u9000_ x0_2) ∧ Zs (Kept w w' (fun k_ => P0_ k_)) ∧ Zs (Below w0.heap.size w0 w'))
    case atStart => exact ⟨(x0_1), (x8_1), (by first | rfl | (simp; done) | (simp [*]; done)), H', ⟨Nat.le_refl _⟩, ⟨by (with_reducible repeat (first | apply Kd.R_alloc | apply Kd.R_drewN | apply Kd.R_drew)); exact HO_0.out⟩, ⟨by repeat (first | (with_reducible first | exact HK.out | apply Kept.alloc | apply Kept.drewN | apply Kept.drew) | exact HK.out)⟩, ⟨by repeat (first | (with_reducible first | exact HB.out | apply zA | apply zB | apply zC) | exact HB.out)⟩⟩
    case round =>
     clear H'
     try clear c5; try clear c5b0
     obtain ⟨x0_2, x9_2, rfl, HA, HK2, HO_0, HK, HB⟩ := hrel
     cases gk with
     | zero => exact absurd HA.out (by simp [qsiscff6.l1])
     | succ k2 =>
      have H := HA.out
      clear HA
      simp only [qsiscff6.l1] at H
      by_cases c6 : x9_2 > a1
      ·rw [if_pos c6] at H
       have c6b0 : decide (a1 < x9_2) = true := decide_eq_true c6
       clear c6
       by_cases c7 : 0 ≤ x9_2
       ·rw [if_pos c7] at H
        have c7b0 : decide (0 ≤ x9_2) = true := decide_eq_true c7
        clear c7
        by_cases c8 : x9_2 < (x0_2.length : Int)
        ·rw [if_pos c8] at H
         have c8b0 : decide (x9_2 < (x0_2.length : Int)) = true := decide_eq_true c8
         clear c8
         obtain ⟨ji9, hji9⟩ : ∃ j_ : Int, (wrap64 (x9_2 - 1)) = j_ := ⟨_, rfl⟩
         replace H : (if 0 ≤ (ji9) then (if (ji9) < (x0_2.length : Int) then ((qoc.f (rdOf (0 : Nat) x0_2 x9_2) (rdOf (0 : Nat) x0_2 (ji9))).bind fun t103 => (if t103 < 0 then (qsiscff6.l1 k2 ((x0_2.set (x9_2 : Int).toNat (rdOf (0 : Nat) x0_2 (ji9))).set ((ji9) : Int).toNat (rdOf (0 : Nat) x0_2 x9_2)) a1 a2 x8_1 ji9) else (qsiscff6.l0 k2 x0_2 a1 a2 (wrap64 (x8_1 + 1))))) else (none)) else (none)) = some r := by first | (rw [hji9] at H; exact H) | (simp only [hji9] at H ⊢; exact H)
         have hji9w : (IntKind.i64.wrap (x9_2 - 1)) = ji9 := (i64_w _).trans hji9
         by_cases c10 : 0 ≤ (ji9)
         ·rw [if_pos c10] at H
          have c10b0 : decide (0 ≤ (ji9)) = true := decide_eq_true c10
          clear c10
          by_cases c11 : (ji9) < (x0_2.length : Int)
          ·rw [if_pos c11] at H
           have c11b0 : decide ((ji9) < (x0_2.length : Int)) = true := decide_eq_true c11
           clear c11
           replace H := Option.bind_eq_some_iff.mp H
           obtain ⟨t103, A120, H⟩ := H
           replace H : (if t103 < 0 then (qsiscff6.l1 k2 ((x0_2.set (x9_2 : Int).toNat (rdOf (0 : Nat) x0_2 (ji9))).set ((ji9) : Int).toNat (rdOf (0 : Nat) x0_2 x9_2)) a1 a2 x8_1 ji9) else (qsiscff6.l0 k2 x0_2 a1 a2 (wrap64 (x8_1 + 1)))) = some r := H
           have A12 := Zs.mk A120
           clear A120
           by_cases c13 : t103 < 0
           ·rw [if_pos c13] at H
            have c13b0 : decide (t103 < 0) = true := decide_eq_true c13
            clear c13
            obtain ⟨y106, hy106⟩ : ∃ y_ : List Nat, y_ = (x0_2.set (x9_2 : Int).toNat (rdOf (0 : Nat) x0_2 (ji9))) := ⟨_, rfl⟩
            replace H : (qsiscff6.l1 k2 (y106.set ((ji9) : Int).toNat (rdOf (0 : Nat) x0_2 x9_2)) a1 a2 x8_1 ji9) = some r := by first | (rw [hy106]; with_reducible exact H) | (have H2_ := (Option.bind_some _ _).symm.trans H; rw [hy106]; with_reducible exact H2_) | (have H2_ := (Option.bind_some _ _).symm.trans H; with_reducible exact H2_) | with_reducible exact H | (rw [hy106]; exact H) | exact H
            have Ny106 := Zs.mk hy106
            clear hy106
            obtain ⟨y107, hy107⟩ : ∃ y_ : List Nat, y_ = (y106.set ((ji9) : Int).toNat (rdOf (0 : Nat) x0_2 x9_2)) := ⟨_, rfl⟩
            replace H : (qsiscff6.l1 k2 y107 a1 a2 x8_1 ji9) = some r := by first | (rw [hy107]; with_reducible exact H) | (have H2_ := (Option.bind_some _ _).symm.trans H; rw [hy107]; with_reducible exact H2_) | (have H2_ := (Option.bind_some _ _).symm.trans H; with_reducible exact H2_) | with_reducible exact H | (rw [hy107]; exact H) | exact H
            have Ny107 := Zs.mk hy107
            clear hy107
            have H' := Zs.mk H
            clear H
            try go_wp2
            have n0_ := Zs.mk (Kd.R_drew HO_0.out)
            have n1_ := Zs.mk (Kept.drew HK.out)
            have n2_ := Zs.mk (zC HB.out)
            clear HO_0
            clear HK
            clear HB
            have HO_0 := n0_
            have HK := n1_
            have HB := n2_
            clear n0_ n1_ n2_
            obtain ⟨Ao17, co17, eo17⟩ := Kd.R_slice HO_0.out
            (first | subst eo17 | (injection eo17 with f1_ f2_ f3_; have f4_ := f1_.symm; have f5_ := f3_.symm; clear f1_ f2_ f3_; subst f4_; subst f5_))
            have p101 : 0 ≤ (x9_2 : Int) := of_decide_eq_true (by first | (with_reducible assumption) | assumption)
            have q101 : x9_2 < (x0_2.length : Int) := of_decide_eq_true (by first | (with_reducible assumption) | assumption)
            obtain ⟨ad101, e101, hx101_0⟩ := Kd.at_flo (Kd.R_reads' HO_0.out).2.2 x9_2 p101 q101
            cases e101
            replace p101 := eq_true p101
            replace q101 := eq_true q101
            have p102 : 0 ≤ ((ji9) : Int) := of_decide_eq_true (by first | (with_reducible assumption) | assumption)
            have q102 : (ji9) < (x0_2.length : Int) := of_decide_eq_true (by first | (with_reducible assumption) | assumption)
            obtain ⟨ad102, e102, hx102_0⟩ := Kd.at_flo (Kd.R_reads' HO_0.out).2.2 (ji9) p102 q102
            obtain rfl : ad101 = ad102 := (by injection e102)
            replace p102 := eq_true p102
            replace q102 := eq_true q102
            refine start_ (n := 17) (S := fun w' => w'.cell? (ad101.add (x9_2).toNat) = some (.float .f64 (rdOf (0 : Nat) x0_2 x9_2)) ∧ w'.cell? (ad101.add ((ji9)).toNat) = some (.float .f64 (rdOf (0 : Nat) x0_2 (ji9)))) (ds := []) (ba 17 0) (by kernel_rfl) rfl rfl ⟨hx101_0, hx102_0⟩ (fun hHeld => ?_); refine zT qsiscff6.tab4 qsiscff6.bits4 (fun HT_ HW_ => ?_)
            generalize wr.drew = w16 at HO_0 HK HB hx101_0 hx102_0 hHeld ⊢
            refine' pu 0 (some 18) (ba 17 1) HT_ rfl rfl (by kernel_rfl) (fun _ _ _ => id) ?_ ?_ ?_ <| pu 1 (some 19) (ba 17 3) HT_ rfl rfl (by kernel_rfl) (fun _ _ _ => id) ?_ ?_ ?_ <| pu 2 (some 20) (ba 17 7) HT_ rfl rfl (by kernel_rfl) (fun _ _ _ => id) ?_ ?_ ?_ <| pu 3 (some 21) (ba 17 15) HT_ rfl rfl (by kernel_rfl) (fun _ _ _ => id) ?_ ?_ ?_ <| pu 4 (some 22) (ba 17 31) HT_ rfl rfl (by kernel_rfl) (fun _ _ _ => id) ?_ ?_ ?_ <| pu 5 (some 23) (ba 17 63) HT_ rfl rfl (by kernel_rfl) (fun _ _ _ => id) ?_ ?_ ?_ <| pu 6 (some 24) (ba 17 127) HT_ rfl rfl (by kernel_rfl) (fun _ _ _ => id) ?_ ?_ ?_ <| pu 7 (some 25) (ba 17 255) HT_ rfl rfl (by kernel_rfl) (fun _ _ _ => id) ?_ ?_ ?_ <| pu 9 (some 27) (ba 17 767) HT_ rfl rfl (by kernel_rfl) (fun _ _ _ => id) ?_ ?_ ?_ <| pu 10 (some 28) (ba 17 1791) HT_ rfl rfl (by kernel_rfl) (fun _ _ _ => id) ?_ ?_ ?_ <| pu 11 (some 29) (ba 17 3839) HT_ rfl rfl (by kernel_rfl) (fun _ _ _ => id) ?_ ?_ ?_ <| pu 12 (some 30) (ba 17 7935) HT_ rfl rfl (by kernel_rfl) (fun _ _ _ => id) ?_ ?_ ?_ <| ta 8 (some 26) (ba 17 8191) HT_ HW_ rfl rfl (by kernel_rfl) (fun _ _ _ => id) ?_ ?_ hHeld ?_ <| ta 13 (some 31) (ba 17 16383) HT_ HW_ rfl rfl (by kernel_rfl) (fun _ _ _ => id) ?_ ?_ hHeld ?_ <| ?_
            any_goals (first | (show Region.wanted _ _ = _; rfl) | (rintro w' ⟨s0, s1⟩; go_simp; with_reducible rfl) | (intro w'; go_simp; with_reducible rfl) | (simp only [Act.put, List.setIfInBounds_toArray, List.set_cons_zero, List.set_cons_succ, i64_w, i32_w]; rfl))
            refine one_ (i := 14) (N := some 32) (ba 17 32767) rfl rfl (one_of HT_.out (by kernel_rfl)) (by decide) (fun K hK => ?_)
            refine goesD_ Try.func52 (by kernel_rfl) rfl #[.float .f64 (rdOf (0 : Nat) x0_2 x9_2), .float .f64 (rdOf (0 : Nat) x0_2 (ji9))] (by rfl) rfl rfl rfl (by (try simp only [List.map_toArray, List.map_cons, List.map_nil]); first | done | (simp only [hji9]; rfl) | rfl | (simp only [List.length_drop, List.length_take]; rfl)) ?_
            with_reducible refine (qoc.calls (rdOf (0 : Nat) x0_2 x9_2) (rdOf (0 : Nat) x0_2 (ji9)) t103 _ A12.out).mono ?_
            rintro e w' ⟨rfl, ⟨nd, rfl⟩⟩
            refine ⟨_, rfl, ?_⟩
            refine hK.out _ _ ⟨hHeld.1, hHeld.2⟩ (fun hHeld => ?_)
            clear hK K
            refine norm_ (a' := ?_) ?_ ?_
            rotate_left
            ·show Act.put _ (some 32) _ = _
             simp only [Act.put, List.setIfInBounds_toArray, List.set_cons_zero, List.set_cons_succ, i64_w, i32_w]
             rfl
            refine' pu 15 (some 33) (ba 17 65535) HT_ rfl rfl (by kernel_rfl) (fun _ _ _ => id) ?_ ?_ ?_ <| pu 16 (some 34) (ba 17 131071) HT_ rfl rfl (by kernel_rfl) (fun _ _ _ => id) ?_ ?_ ?_ <| ?_
            any_goals (first | (show Region.wanted _ _ = _; rfl) | (intro w'; go_simp; with_reducible rfl) | (simp only [Act.put, List.setIfInBounds_toArray, List.set_cons_zero, List.set_cons_succ, i64_w, i32_w]; rfl))
            refine done_ (done_of HT_.out (by kernel_rfl)) ?_
            try go_wp2
            (try (rw [drewN_self w16]; generalize hq_ : World.drewN w16 _ = w16; have n0_ : Zs (Kd.R (Kd.scalar (Value.float .f64) (fun _ => rfl)) 23 w16 w0.heap.size (fun k_ => (P0_ k_ ∨ w.heap.size ≤ k_)) (.slice (some ad101) x0_2.length co17) x0_2) := ⟨by rw [← hq_]; exact (by (with_reducible repeat (first | apply Kd.R_alloc | apply Kd.R_drewN | apply Kd.R_drew)); exact HO_0.out)⟩; have n1_ : Zs (Kept w w16 (fun k_ => P0_ k_)) := ⟨by rw [← hq_]; exact (by repeat (first | (with_reducible first | exact HK.out | apply Kept.alloc | apply Kept.drewN | apply Kept.drew) | exact HK.out))⟩; have n2_ : Zs (Below w0.heap.size w0 w16) := ⟨by rw [← hq_]; exact (by repeat (first | (with_reducible first | exact HB.out | apply zA | apply zB | apply zC) | exact HB.out))⟩; clear HO_0 HK HB hq_; have HO_0 := n0_; have HK := n1_; have HB := n2_; clear n0_ n1_ n2_))
            have n0_ := Zs.mk (Kd.R_drew HO_0.out)
            have n1_ := Zs.mk (Kept.drew HK.out)
            have n2_ := Zs.mk (zC HB.out)
            clear HO_0
            clear HK
            clear HB
            have HO_0 := n0_
            have HK := n1_
            have HB := n2_
            clear n0_ n1_ n2_
            have p104 : 0 ≤ ((ji9) : Int) := of_decide_eq_true (by first | (with_reducible assumption) | assumption)
            have q104 : (ji9) < (x0_2.length : Int) := of_decide_eq_true (by first | (with_reducible assumption) | assumption)
            obtain ⟨ad104, e104, hx104_0⟩ := Kd.at_flo (Kd.R_reads' HO_0.out).2.2 (ji9) p104 q104
            obtain rfl : ad101 = ad104 := (by injection e104)
            replace p104 := eq_true p104
            replace q104 := eq_true q104
            have p105 : 0 ≤ (x9_2 : Int) := of_decide_eq_true (by first | (with_reducible assumption) | assumption)
            have q105 : x9_2 < (x0_2.length : Int) := of_decide_eq_true (by first | (with_reducible assumption) | assumption)
            obtain ⟨ad105, e105, hx105_0⟩ := Kd.at_flo (Kd.R_reads' HO_0.out).2.2 x9_2 p105 q105
            obtain rfl : ad101 = ad105 := (by injection e105)
            replace p105 := eq_true p105
            replace q105 := eq_true q105
            have p14 : 0 ≤ (x9_2 : Int) := of_decide_eq_true (by first | (with_reducible assumption) | assumption)
            have q14 : (x9_2 : Int) < ((x0_2.length : Int) : Int) := of_decide_eq_true (by first | (with_reducible assumption) | assumption)
            obtain ⟨go14, co14, eo14, gb14, gl14, cl14, HG14⟩ := Kd.R_form HO_0.out (by omega)
            (first | cases eo14 | (injection eo14 with ea_ en_ ec_; (first | subst ea_ | (injection ea_ with ea_; subst ea_)); subst ec_; clear en_))
            have GB14 := Zs.mk gb14
            have GG14 := Zs.mk HG14
            clear gb14 gl14 HG14
            have HMgo14 := Zs.mk (show (P0_ go14 ∨ w.heap.size ≤ go14) from (HO_0.out.1 _ rfl))
            (first | simp only [add_plain] at hx101_0 | skip)
            (first | simp only [add_plain] at hx102_0 | skip)
            (first | simp only [add_plain] at hx104_0 | skip)
            (first | simp only [add_plain] at hx105_0 | skip)
            obtain ⟨hx14_0, hf14_0⟩ := Kd.R_celln 0 HO_0.out (x9_2 : Int) p14 q14
            replace p14 := eq_true p14
            replace q14 := eq_true q14
            have HP19 := Kd.R_putn HO_0.out (x9_2 : Int) (rdOf (0 : Nat) x0_2 (ji9))
            rw [← Ny106.out] at HP19
            have HQ19 := Zs.mk HP19
            clear HP19
            have p15 : 0 ≤ ((ji9) : Int) := of_decide_eq_true (by first | (with_reducible assumption) | assumption)
            have q15 : ((ji9) : Int) < ((x0_2.length : Int) : Int) := of_decide_eq_true (by first | (with_reducible assumption) | assumption)
            obtain ⟨hx15_0, hf15_0⟩ := Kd.R_celln 0 HQ19.out ((ji9) : Int) p15 q15
            replace p15 := eq_true p15
            replace q15 := eq_true q15
            have HP20 := Kd.R_putn HQ19.out ((ji9) : Int) (rdOf (0 : Nat) x0_2 x9_2)
            rw [← Ny107.out] at HP20
            have HQ20 := Zs.mk HP20
            clear HP20
            refine start_ (n := 18) (S := fun w' => w'.cell? ⟨go14, ((ji9)).toNat, none⟩ = some (.float .f64 (rdOf (0 : Nat) x0_2 (ji9))) ∧ w'.cell? ⟨go14, (x9_2).toNat, none⟩ = some (.float .f64 (rdOf (0 : Nat) x0_2 x9_2))) (ds := [15, 17]) (ba 18 0) (by kernel_rfl) rfl rfl ⟨hx104_0, hx105_0⟩ (fun hHeld => ?_); refine zT qsiscff6.tab6 qsiscff6.bits6 (fun HT_ HW_ => ?_)
            generalize w16.drew = w18 at HO_0 HK HB GG14 HQ19 HQ20 hf14_0 hf15_0 hx101_0 hx102_0 hx104_0 hx105_0 hx14_0 hx15_0 hHeld ⊢
            refine' pu 0 (some 37) (ba 18 1) HT_ rfl rfl (by kernel_rfl) (fun _ _ _ => id) ?_ ?_ ?_ <| pu 1 (some 38) (ba 18 3) HT_ rfl rfl (by kernel_rfl) (fun _ _ _ => id) ?_ ?_ ?_ <| pu 2 (some 39) (ba 18 7) HT_ rfl rfl (by kernel_rfl) (fun _ _ _ => id) ?_ ?_ ?_ <| pu 3 (some 40) (ba 18 15) HT_ rfl rfl (by kernel_rfl) (fun _ _ _ => id) ?_ ?_ ?_ <| pu 4 (some 41) (ba 18 31) HT_ rfl rfl (by kernel_rfl) (fun _ _ _ => id) ?_ ?_ ?_ <| pu 5 (some 42) (ba 18 63) HT_ rfl rfl (by kernel_rfl) (fun _ _ _ => id) ?_ ?_ ?_ <| pu 6 (some 43) (ba 18 127) HT_ rfl rfl (by kernel_rfl) (fun _ _ _ => id) ?_ ?_ ?_ <| pu 7 (some 44) (ba 18 255) HT_ rfl rfl (by kernel_rfl) (fun _ _ _ => id) ?_ ?_ ?_ <| pu 8 (some 45) (ba 18 511) HT_ rfl rfl (by kernel_rfl) (fun _ _ _ => id) ?_ ?_ ?_ <| pu 10 (some 47) (ba 18 1535) HT_ rfl rfl (by kernel_rfl) (fun _ _ _ => id) ?_ ?_ ?_ <| pu 11 (some 48) (ba 18 3583) HT_ rfl rfl (by kernel_rfl) (fun _ _ _ => id) ?_ ?_ ?_ <| pu 12 (some 49) (ba 18 7679) HT_ rfl rfl (by kernel_rfl) (fun _ _ _ => id) ?_ ?_ ?_ <| ta 9 (some 46) (ba 18 8191) HT_ HW_ rfl rfl (by kernel_rfl) (fun _ _ _ => id) ?_ ?_ hHeld ?_ <| ta 13 (some 50) (ba 18 16383) HT_ HW_ rfl rfl (by kernel_rfl) (fun _ _ _ => id) ?_ ?_ hHeld ?_ <| pu 14 (some 51) (ba 18 32767) HT_ rfl rfl (by kernel_rfl) (fun _ _ _ => id) ?_ ?_ ?_ <| ?_
            any_goals (first | (show Region.wanted _ _ = _; rfl) | (rintro w' ⟨s0, s1⟩; go_simp; with_reducible rfl) | (intro w'; go_simp; with_reducible rfl) | (simp only [Act.put, List.setIfInBounds_toArray, List.set_cons_zero, List.set_cons_succ, i64_w, i32_w]; rfl))
            refine last_ (i := 15) (N := none) (ba 18 65535) rfl rfl (one_of HT_.out (by kernel_rfl)) (by decide) (fun K hK => ?_)
            refine skip_ (w1 := ?_) (by rfl) rfl ?_ ?_
            rotate_left
            ·go_simp
             rfl
            refine hK.out _ _ ?_
            clear hK K
            refine' pu 16 (some 52) (ba 18 131071) HT_ rfl rfl (by kernel_rfl) (fun _ _ _ => id) ?_ ?_ ?_ <| ?_
            any_goals (first | (show Region.wanted _ _ = _; rfl) | (intro w'; go_simp; with_reducible rfl) | (simp only [Act.put, List.setIfInBounds_toArray, List.set_cons_zero, List.set_cons_succ, i64_w, i32_w]; rfl))
            refine last_ (i := 17) (N := none) (ba 18 262143) rfl rfl (one_of HT_.out (by kernel_rfl)) (by decide) (fun K hK => ?_)
            refine skip_ (w1 := ?_) (by rfl) rfl ?_ ?_
            rotate_left
            ·go_simp
             rfl
            refine hK.out _ _ ?_
            clear hK K
            refine done_ (done_of HT_.out (by kernel_rfl)) ?_
            try go_wp2
            go_roundg k2
            case measure => have := HK1.out; have := HK2.out; omega
            case rel => exact ⟨(y107), (ji9), (by first | rfl | (simp; done) | (simp only [← hji9] <;> (first | rfl | simp)) | (simp [*]; done)), H', ⟨by have := HK1.out; have := HK2.out; omega⟩, ⟨by (with_reducible repeat (first | apply Kd.R_alloc | apply Kd.R_drewN | apply Kd.R_drew)); exact HQ20.out⟩, ⟨by repeat (first | (with_reducible first | exact HK.out | apply Kept.alloc | apply Kept.drewN | apply Kept.drew | refine Kept.setCell ?_ HMgo14.out _ | refine Kept.setCell ?_ HMgo14.out _) | exact HK.out)⟩, ⟨by repeat (first | (with_reducible first | exact HB.out | apply zA | apply zB | apply zC | refine below_set ?_ GB14.out | refine below_set ?_ GB14.out) | exact HB.out)⟩⟩
           ·rw [if_neg c13] at H
            have c13b0 : decide (t103 < 0) = false := decide_eq_false c13
            clear c13
            have H' := Zs.mk H
            clear H
            try go_wp2
            have n0_ := Zs.mk (Kd.R_drew HO_0.out)
            have n1_ := Zs.mk (Kept.drew HK.out)
            have n2_ := Zs.mk (zC HB.out)
            clear HO_0
            clear HK
            clear HB
            have HO_0 := n0_
            have HK := n1_
            have HB := n2_
            clear n0_ n1_ n2_
            obtain ⟨Ao22, co22, eo22⟩ := Kd.R_slice HO_0.out
            (first | subst eo22 | (injection eo22 with f1_ f2_ f3_; have f4_ := f1_.symm; have f5_ := f3_.symm; clear f1_ f2_ f3_; subst f4_; subst f5_))
            have p101 : 0 ≤ (x9_2 : Int) := of_decide_eq_true (by first | (with_reducible assumption) | assumption)
            have q101 : x9_2 < (x0_2.length : Int) := of_decide_eq_true (by first | (with_reducible assumption) | assumption)
            obtain ⟨ad101, e101, hx101_0⟩ := Kd.at_flo (Kd.R_reads' HO_0.out).2.2 x9_2 p101 q101
            cases e101
            replace p101 := eq_true p101
            replace q101 := eq_true q101
            have p102 : 0 ≤ ((ji9) : Int) := of_decide_eq_true (by first | (with_reducible assumption) | assumption)
            have q102 : (ji9) < (x0_2.length : Int) := of_decide_eq_true (by first | (with_reducible assumption) | assumption)
            obtain ⟨ad102, e102, hx102_0⟩ := Kd.at_flo (Kd.R_reads' HO_0.out).2.2 (ji9) p102 q102
            obtain rfl : ad101 = ad102 := (by injection e102)
            replace p102 := eq_true p102
            replace q102 := eq_true q102
            refine start_ (n := 17) (S := fun w' => w'.cell? (ad101.add (x9_2).toNat) = some (.float .f64 (rdOf (0 : Nat) x0_2 x9_2)) ∧ w'.cell? (ad101.add ((ji9)).toNat) = some (.float .f64 (rdOf (0 : Nat) x0_2 (ji9)))) (ds := []) (ba 17 0) (by kernel_rfl) rfl rfl ⟨hx101_0, hx102_0⟩ (fun hHeld => ?_); refine zT qsiscff6.tab4 qsiscff6.bits4 (fun HT_ HW_ => ?_)
            generalize wr.drew = w21 at HO_0 HK HB hx101_0 hx102_0 hHeld ⊢
            refine' pu 0 (some 18) (ba 17 1) HT_ rfl rfl (by kernel_rfl) (fun _ _ _ => id) ?_ ?_ ?_ <| pu 1 (some 19) (ba 17 3) HT_ rfl rfl (by kernel_rfl) (fun _ _ _ => id) ?_ ?_ ?_ <| pu 2 (some 20) (ba 17 7) HT_ rfl rfl (by kernel_rfl) (fun _ _ _ => id) ?_ ?_ ?_ <| pu 3 (some 21) (ba 17 15) HT_ rfl rfl (by kernel_rfl) (fun _ _ _ => id) ?_ ?_ ?_ <| pu 4 (some 22) (ba 17 31) HT_ rfl rfl (by kernel_rfl) (fun _ _ _ => id) ?_ ?_ ?_ <| pu 5 (some 23) (ba 17 63) HT_ rfl rfl (by kernel_rfl) (fun _ _ _ => id) ?_ ?_ ?_ <| pu 6 (some 24) (ba 17 127) HT_ rfl rfl (by kernel_rfl) (fun _ _ _ => id) ?_ ?_ ?_ <| pu 7 (some 25) (ba 17 255) HT_ rfl rfl (by kernel_rfl) (fun _ _ _ => id) ?_ ?_ ?_ <| pu 9 (some 27) (ba 17 767) HT_ rfl rfl (by kernel_rfl) (fun _ _ _ => id) ?_ ?_ ?_ <| pu 10 (some 28) (ba 17 1791) HT_ rfl rfl (by kernel_rfl) (fun _ _ _ => id) ?_ ?_ ?_ <| pu 11 (some 29) (ba 17 3839) HT_ rfl rfl (by kernel_rfl) (fun _ _ _ => id) ?_ ?_ ?_ <| pu 12 (some 30) (ba 17 7935) HT_ rfl rfl (by kernel_rfl) (fun _ _ _ => id) ?_ ?_ ?_ <| ta 8 (some 26) (ba 17 8191) HT_ HW_ rfl rfl (by kernel_rfl) (fun _ _ _ => id) ?_ ?_ hHeld ?_ <| ta 13 (some 31) (ba 17 16383) HT_ HW_ rfl rfl (by kernel_rfl) (fun _ _ _ => id) ?_ ?_ hHeld ?_ <| ?_
            any_goals (first | (show Region.wanted _ _ = _; rfl) | (rintro w' ⟨s0, s1⟩; go_simp; with_reducible rfl) | (intro w'; go_simp; with_reducible rfl) | (simp only [Act.put, List.setIfInBounds_toArray, List.set_cons_zero, List.set_cons_succ, i64_w, i32_w]; rfl))
            refine one_ (i := 14) (N := some 32) (ba 17 32767) rfl rfl (one_of HT_.out (by kernel_rfl)) (by decide) (fun K hK => ?_)
            refine goesD_ Try.func52 (by kernel_rfl) rfl #[.float .f64 (rdOf (0 : Nat) x0_2 x9_2), .float .f64 (rdOf (0 : Nat) x0_2 (ji9))] (by rfl) rfl rfl rfl (by (try simp only [List.map_toArray, List.map_cons, List.map_nil]); first | done | (simp only [hji9]; rfl) | rfl | (simp only [List.length_drop, List.length_take]; rfl)) ?_
            with_reducible refine (qoc.calls (rdOf (0 : Nat) x0_2 x9_2) (rdOf (0 : Nat) x0_2 (ji9)) t103 _ A12.out).mono ?_
            rintro e w' ⟨rfl, ⟨nd, rfl⟩⟩
            refine ⟨_, rfl, ?_⟩
            refine hK.out _ _ ⟨hHeld.1, hHeld.2⟩ (fun hHeld => ?_)
            clear hK K
            refine norm_ (a' := ?_) ?_ ?_
            rotate_left
            ·show Act.put _ (some 32) _ = _
             simp only [Act.put, List.setIfInBounds_toArray, List.set_cons_zero, List.set_cons_succ, i64_w, i32_w]
             rfl
            refine' pu 15 (some 33) (ba 17 65535) HT_ rfl rfl (by kernel_rfl) (fun _ _ _ => id) ?_ ?_ ?_ <| pu 16 (some 34) (ba 17 131071) HT_ rfl rfl (by kernel_rfl) (fun _ _ _ => id) ?_ ?_ ?_ <| ?_
            any_goals (first | (show Region.wanted _ _ = _; rfl) | (intro w'; go_simp; with_reducible rfl) | (simp only [Act.put, List.setIfInBounds_toArray, List.set_cons_zero, List.set_cons_succ, i64_w, i32_w]; rfl))
            refine done_ (done_of HT_.out (by kernel_rfl)) ?_
            try go_wp2
            go_roundg k2
            case measure => have := HK1.out; have := HK2.out; omega
            case rel => exact ⟨(x0_2), (wrap64 (x8_1 + 1)), (by first | rfl | (simp; done) | (simp [*]; done)), H', ⟨by have := HK1.out; have := HK2.out; omega⟩, ⟨by (with_reducible repeat (first | apply Kd.R_alloc | apply Kd.R_drewN | apply Kd.R_drew)); exact HO_0.out⟩, ⟨by repeat (first | (with_reducible first | exact HK.out | apply Kept.alloc | apply Kept.drewN | apply Kept.drew) | exact HK.out)⟩, ⟨by repeat (first | (with_reducible first | exact HB.out | apply zA | apply zB | apply zC) | exact HB.out)⟩⟩
          ·rw [if_neg c11] at H
           exact absurd H (by simp)
         ·rw [if_neg c10] at H
          exact absurd H (by simp)
        ·rw [if_neg c8] at H
         exact absurd H (by simp)
       ·rw [if_neg c7] at H
        exact absurd H (by simp)
      ·rw [if_neg c6] at H
       have c6b0 : decide (a1 < x9_2) = false := decide_eq_false c6
       clear c6
       have H' := Zs.mk H
       clear H
       try go_wp2
       have n0_ := Zs.mk (Kd.R_drew HO_0.out)
       have n1_ := Zs.mk (Kept.drew HK.out)
       have n2_ := Zs.mk (zC HB.out)
       clear HO_0
       clear HK
       clear HB
       have HO_0 := n0_
       have HK := n1_
       have HB := n2_
       clear n0_ n1_ n2_
       refine start_ (n := 17) (S := fun w' => True) (ds := []) (ba 17 0) (by kernel_rfl) rfl rfl trivial (fun hHeld => ?_); refine zT qsiscff6.tab4 qsiscff6.bits4 (fun HT_ HW_ => ?_)
       generalize wr.drew = w23 at HO_0 HK HB hHeld ⊢
       refine' pu 0 (some 18) (ba 17 1) HT_ rfl rfl (by kernel_rfl) (fun _ _ _ => id) ?_ ?_ ?_ <| pu 1 (some 19) (ba 17 3) HT_ rfl rfl (by kernel_rfl) (fun _ _ _ => id) ?_ ?_ ?_ <| pu 2 (some 20) (ba 17 7) HT_ rfl rfl (by kernel_rfl) (fun _ _ _ => id) ?_ ?_ ?_ <| pu 3 (some 21) (ba 17 15) HT_ rfl rfl (by kernel_rfl) (fun _ _ _ => id) ?_ ?_ ?_ <| un 4 (some 22) (ba 17 31) HT_ rfl rfl (by kernel_rfl) (fun _ _ _ => id) ?_ ?_ <| un 5 (some 23) (ba 17 63) HT_ rfl rfl (by kernel_rfl) (fun _ _ _ => id) ?_ ?_ <| un 6 (some 24) (ba 17 127) HT_ rfl rfl (by kernel_rfl) (fun _ _ _ => id) ?_ ?_ <| un 7 (some 25) (ba 17 255) HT_ rfl rfl (by kernel_rfl) (fun _ _ _ => id) ?_ ?_ <| un 8 (some 26) (ba 17 511) HT_ rfl rfl (by kernel_rfl) (fun _ _ _ => id) ?_ ?_ <| un 9 (some 27) (ba 17 1023) HT_ rfl rfl (by kernel_rfl) (fun _ _ _ => id) ?_ ?_ <| un 10 (some 28) (ba 17 2047) HT_ rfl rfl (by kernel_rfl) (fun _ _ _ => id) ?_ ?_ <| un 11 (some 29) (ba 17 4095) HT_ rfl rfl (by kernel_rfl) (fun _ _ _ => id) ?_ ?_ <| un 12 (some 30) (ba 17 8191) HT_ rfl rfl (by kernel_rfl) (fun _ _ _ => id) ?_ ?_ <| un 13 (some 31) (ba 17 16383) HT_ rfl rfl (by kernel_rfl) (fun _ _ _ => id) ?_ ?_ <| un 14 (some 32) (ba 17 32767) HT_ rfl rfl (by kernel_rfl) (fun _ _ _ => id) ?_ ?_ <| un 15 (some 33) (ba 17 65535) HT_ rfl rfl (by kernel_rfl) (fun _ _ _ => id) ?_ ?_ <| pu 16 (some 34) (ba 17 131071) HT_ rfl rfl (by kernel_rfl) (fun _ _ _ => id) ?_ ?_ ?_ <| ?_
       any_goals (first | (show Region.wanted _ _ = _; rfl) | (intro w'; go_simp; with_reducible rfl) | (simp only [Act.put, List.setIfInBounds_toArray, List.set_cons_zero, List.set_cons_succ, i64_w, i32_w]; rfl))
       refine done_ (done_of HT_.out (by kernel_rfl)) ?_
       try go_wp2
       go_roundg k2
       case measure => have := HK1.out; have := HK2.out; omega
       case rel => exact ⟨(x0_2), (wrap64 (x8_1 + 1)), (by first | rfl | (simp; done) | (simp [*]; done)), H', ⟨by have := HK1.out; have := HK2.out; omega⟩, ⟨by (with_reducible repeat (first | apply Kd.R_alloc | apply Kd.R_drewN | apply Kd.R_drew)); exact HO_0.out⟩, ⟨by repeat (first | (with_reducible first | exact HK.out | apply Kept.alloc | apply Kept.drewN | apply Kept.drew) | exact HK.out)⟩, ⟨by repeat (first | (with_reducible first | exact HB.out | apply zA | apply zB | apply zC) | exact HB.out)⟩⟩
   ·rw [if_neg c5] at H
    have c5b0 : decide (x8_1 < a2) = false := decide_eq_false c5
    clear c5
    obtain rfl := Option.some.inj H
    go_wp2
    first | go_end0 | ((try simp only [Exit.inBlock, Exit.then]); refine bodyPost_ret (results_none rfl _ _ _) rfl ?_)
    exact ⟨by first | rfl | (simp [zE, zF] <;> rfl) | (simp [*, zE, zF] <;> rfl), by (with_reducible repeat (first | apply Kd.R_alloc | apply Kd.R_drewN | apply Kd.R_drew)); exact HO_0.out, by repeat (first | (with_reducible first | exact HB.out | apply zA | apply zB | apply zC) | exact HB.out), by repeat (first | (with_reducible first | exact HK.out | apply Kept.alloc | apply Kept.drewN | apply Kept.drew) | exact HK.out)⟩
def qssrcff6.l0 : Nat → List Nat → Int → Int → Int → Int → Option (List Nat)
 | 0, _, _, _, _, _ => none
 | k + 1, x0, x1, x2, x3, x10 => if x10 < x3 then (if 0 ≤ (wrap64 (x2 + x10)) then (if (wrap64 (x2 + x10)) < (x0.length : Int) then (if 0 ≤ (wrap64 (x1 + x10)) then (if (wrap64 (x1 + x10)) < (x0.length : Int) then (qssrcff6.l0 k ((x0.set ((wrap64 (x1 + x10)) : Int).toNat (rdOf (0 : Nat) x0 (wrap64 (x2 + x10)))).set ((wrap64 (x2 + x10)) : Int).toNat (rdOf (0 : Nat) x0 (wrap64 (x1 + x10)))) x1 x2 x3 (wrap64 (x10 + 1))) else (none)) else (none)) else (none)) else (none)) else (some x0)
def qssrcff6.f (k : Nat) (l0 : List Nat) (a1 : Int) (a2 : Int) (a3 : Int)  : Option (List Nat) := qssrcff6.l0 k l0 a1 a2 a3 0
def qssrcff6.T3 : Bool × List (List Nat × List Nat) := (true, [([], []), ([], []), ([], []), ([1, 2], [1, 2]), ([], []), ([], []), ([], []), ([5, 6], [5, 6]), ([], []), ([], []), ([], []), ([9, 10], [9, 10]), ([8, 11], [8, 11]), ([12], [12]), ([], []), ([], []), ([], []), ([15, 16], [15, 16]), ([14, 17], [14, 17]), ([18], [18]), ([0, 3, 0, 1, 2, 3, 8, 9, 10, 11, 12, 13, 19], [0, 3]), ([20, 13, 0, 1, 2, 3, 8, 9, 10, 11, 12, 13, 19], [13, 20]), ([4, 7, 0, 1, 2, 3, 4, 5, 6, 7, 8, 9, 10, 11, 12, 13, 14, 15, 16, 17, 18, 19, 20, 21], [4, 7]), ([22, 19, 21, 0, 1, 2, 3, 4, 5, 6, 7, 8, 9, 10, 11, 12, 13, 14, 15, 16, 17, 18, 19, 20, 21], [19, 22])])
def qssrcff6.B3 : List Nat := [0, 0, 0, 6, 0, 0, 0, 96, 0, 0, 0, 1536, 3840, 7936, 0, 0, 0, 98304, 245760, 507904, 1048335, 2096911, 4194303, 8388607]
theorem qssrcff6.tab3 : rtab .any (opsOf Try.f204 3) = qssrcff6.T3 := by kernel_rfl
theorem qssrcff6.bits3 : waitsOk qssrcff6.T3.2 qssrcff6.B3 = true := by kernel_rfl
set_option maxHeartbeats 8000000 in
set_option maxRecDepth 100000 in
theorem qssrcff6.calls (k : Nat) (P0_ : Nat → Prop) (u9000_ : Value) (l0 : List Nat) (a1 : Int) (a2 : Int) (a3 : Int)  (r : List Nat) (w0 w : World) (hB : Below w0.heap.size w0 w) (ho0 : Kd.R (Kd.scalar (Value.float .f64) (fun _ => rfl)) 23 w w0.heap.size P0_ u9000_ l0) (h : qssrcff6.f k l0 a1 a2 a3 = some r) :
  Calls Try.prog 204 #[u9000_, .int .i64 a1, .int .i64 a2, .int .i64 a3, .func (.func 52) #[] #[]] w fun e w' => e = .returned (.tuple #[]) ∧ Kd.R (Kd.scalar (Value.float .f64) (fun _ => rfl)) 23 w' w0.heap.size (fun k_ => (P0_ k_ ∨ w.heap.size ≤ k_)) u9000_ r ∧ Below w0.heap.size w0 w' ∧ Kept w w' (fun k_ => P0_ k_) := by
 have HO0 := Zs.mk (show Kd.R (Kd.scalar (Value.float .f64) (fun _ => rfl)) 23 w w0.heap.size (fun k_ => (P0_ k_ ∨ w.heap.size ≤ k_)) u9000_ l0 from Kd.R_mono ho0 (fun k_ hk => (.inl hk)))
 have HK := Zs.mk (Kept.refl w (fun k_ => P0_ k_))
 have HW0 := Zs.mk hB.size
 have HB := Zs.mk hB
 clear hB
 have H : (qssrcff6.l0 k l0 a1 a2 a3 0) = some r := h
 clear h
 have H' := Zs.mk H
 clear H
 go_enter Try.func204, Try.ntmps204
 go_wp2
 go_loopg [10] k (fun kq v10 w' => ∃ (x0_1 : List Nat) (x10_1 : Int), v10 = .int .i64 x10_1 ∧ Zs (qssrcff6.l0 kq x0_1 a1 a2 a3 x10_1 = some r) ∧ Zs (kq ≤ k) ∧ Zs (Kd.R (Kd.scalar (Value.float .f64) (fun _ => rfl)) 23 w' w0.heap.size (fun k_ => (P0_ k_ ∨ w.heap.size ≤ k_)) u9000_ x0_1) ∧ Zs (Kept w w' (fun k_ => P0_ k_)) ∧ Zs (Below w0.heap.size w0 w'))
 case atStart => exact ⟨(l0), (0), (by first | rfl | (simp; done) | (simp [*]; done)), H', ⟨Nat.le_refl _⟩, ⟨by (with_reducible repeat (first | apply Kd.R_alloc | apply Kd.R_drewN | apply Kd.R_drew)); exact HO0.out⟩, ⟨by repeat (first | (with_reducible first | exact HK.out | apply Kept.alloc | apply Kept.drewN | apply Kept.drew) | exact HK.out)⟩, ⟨by repeat (first | (with_reducible first | exact HB.out | apply zA | apply zB | apply zC) | exact HB.out)⟩⟩
 case round =>
  clear H'
  obtain ⟨x0_1, x10_1, rfl, HA, HK1, HO_0, HK, HB⟩ := hrel
  cases gk with
  | zero => exact absurd HA.out (by simp [qssrcff6.l0])
  | succ k1 =>
   have H := HA.out
   clear HA
   simp only [qssrcff6.l0] at H
   by_cases c6 : x10_1 < a3
   ·rw [if_pos c6] at H
    have c6b0 : decide (x10_1 < a3) = true := decide_eq_true c6
    clear c6
    obtain ⟨ji7, hji7⟩ : ∃ j_ : Int, (wrap64 (a2 + x10_1)) = j_ := ⟨_, rfl⟩
    replace H : (if 0 ≤ (ji7) then (if (ji7) < (x0_1.length : Int) then (if 0 ≤ (wrap64 (a1 + x10_1)) then (if (wrap64 (a1 + x10_1)) < (x0_1.length : Int) then (qssrcff6.l0 k1 ((x0_1.set ((wrap64 (a1 + x10_1)) : Int).toNat (rdOf (0 : Nat) x0_1 (ji7))).set ((ji7) : Int).toNat (rdOf (0 : Nat) x0_1 (wrap64 (a1 + x10_1)))) a1 a2 a3 (wrap64 (x10_1 + 1))) else (none)) else (none)) else (none)) else (none)) = some r := by first | (rw [hji7] at H; exact H) | (simp only [hji7] at H ⊢; exact H)
    have hji7w : (IntKind.i64.wrap (a2 + x10_1)) = ji7 := (i64_w _).trans hji7
    by_cases c8 : 0 ≤ (ji7)
    ·rw [if_pos c8] at H
     have c8b0 : decide (0 ≤ (ji7)) = true := decide_eq_true c8
     clear c8
     by_cases c9 : (ji7) < (x0_1.length : Int)
     ·rw [if_pos c9] at H
      have c9b0 : decide ((ji7) < (x0_1.length : Int)) = true := decide_eq_true c9
      clear c9
      obtain ⟨ji10, hji10⟩ : ∃ j_ : Int, (wrap64 (a1 + x10_1)) = j_ := ⟨_, rfl⟩
      replace H : (if 0 ≤ (ji10) then (if (ji10) < (x0_1.length : Int) then (qssrcff6.l0 k1 ((x0_1.set ((ji10) : Int).toNat (rdOf (0 : Nat) x0_1 (ji7))).set ((ji7) : Int).toNat (rdOf (0 : Nat) x0_1 (ji10))) a1 a2 a3 (wrap64 (x10_1 + 1))) else (none)) else (none)) = some r := by first | (rw [hji10] at H; exact H) | (simp only [hji10] at H ⊢; exact H)
      have hji10w : (IntKind.i64.wrap (a1 + x10_1)) = ji10 := (i64_w _).trans hji10
      by_cases c11 : 0 ≤ (ji10)
      ·rw [if_pos c11] at H
       have c11b0 : decide (0 ≤ (ji10)) = true := decide_eq_true c11
       clear c11
       by_cases c12 : (ji10) < (x0_1.length : Int)
       ·rw [if_pos c12] at H
        have c12b0 : decide ((ji10) < (x0_1.length : Int)) = true := decide_eq_true c12
        clear c12
        obtain ⟨y103, hy103⟩ : ∃ y_ : List Nat, y_ = (x0_1.set ((ji10) : Int).toNat (rdOf (0 : Nat) x0_1 (ji7))) := ⟨_, rfl⟩
        replace H : (qssrcff6.l0 k1 (y103.set ((ji7) : Int).toNat (rdOf (0 : Nat) x0_1 (ji10))) a1 a2 a3 (wrap64 (x10_1 + 1))) = some r := by first | (rw [hy103]; with_reducible exact H) | (have H2_ := (Option.bind_some _ _).symm.trans H; rw [hy103]; with_reducible exact H2_) | (have H2_ := (Option.bind_some _ _).symm.trans H; with_reducible exact H2_) | with_reducible exact H | (rw [hy103]; exact H) | exact H
        have Ny103 := Zs.mk hy103
        clear hy103
        obtain ⟨y104, hy104⟩ : ∃ y_ : List Nat, y_ = (y103.set ((ji7) : Int).toNat (rdOf (0 : Nat) x0_1 (ji10))) := ⟨_, rfl⟩
        replace H : (qssrcff6.l0 k1 y104 a1 a2 a3 (wrap64 (x10_1 + 1))) = some r := by first | (rw [hy104]; with_reducible exact H) | (have H2_ := (Option.bind_some _ _).symm.trans H; rw [hy104]; with_reducible exact H2_) | (have H2_ := (Option.bind_some _ _).symm.trans H; with_reducible exact H2_) | with_reducible exact H | (rw [hy104]; exact H) | exact H
        have Ny104 := Zs.mk hy104
        clear hy104
        have H' := Zs.mk H
        clear H
        try go_wp2
        have n0_ := Zs.mk (Kd.R_drew HO_0.out)
        have n1_ := Zs.mk (Kept.drew HK.out)
        have n2_ := Zs.mk (zC HB.out)
        clear HO_0
        clear HK
        clear HB
        have HO_0 := n0_
        have HK := n1_
        have HB := n2_
        clear n0_ n1_ n2_
        obtain ⟨Ao16, co16, eo16⟩ := Kd.R_slice HO_0.out
        (first | subst eo16 | (injection eo16 with f1_ f2_ f3_; have f4_ := f1_.symm; have f5_ := f3_.symm; clear f1_ f2_ f3_; subst f4_; subst f5_))
        have p101 : 0 ≤ ((ji7) : Int) := of_decide_eq_true (by first | (with_reducible assumption) | assumption)
        have q101 : (ji7) < (x0_1.length : Int) := of_decide_eq_true (by first | (with_reducible assumption) | assumption)
        obtain ⟨ad101, e101, hx101_0⟩ := Kd.at_flo (Kd.R_reads' HO_0.out).2.2 (ji7) p101 q101
        cases e101
        replace p101 := eq_true p101
        replace q101 := eq_true q101
        have p102 : 0 ≤ ((ji10) : Int) := of_decide_eq_true (by first | (with_reducible assumption) | assumption)
        have q102 : (ji10) < (x0_1.length : Int) := of_decide_eq_true (by first | (with_reducible assumption) | assumption)
        obtain ⟨ad102, e102, hx102_0⟩ := Kd.at_flo (Kd.R_reads' HO_0.out).2.2 (ji10) p102 q102
        obtain rfl : ad101 = ad102 := (by injection e102)
        replace p102 := eq_true p102
        replace q102 := eq_true q102
        have p13 : 0 ≤ ((ji10) : Int) := of_decide_eq_true (by first | (with_reducible assumption) | assumption)
        have q13 : ((ji10) : Int) < ((x0_1.length : Int) : Int) := of_decide_eq_true (by first | (with_reducible assumption) | assumption)
        obtain ⟨go13, co13, eo13, gb13, gl13, cl13, HG13⟩ := Kd.R_form HO_0.out (by omega)
        (first | cases eo13 | (injection eo13 with ea_ en_ ec_; (first | subst ea_ | (injection ea_ with ea_; subst ea_)); subst ec_; clear en_))
        have GB13 := Zs.mk gb13
        have GG13 := Zs.mk HG13
        clear gb13 gl13 HG13
        have HMgo13 := Zs.mk (show (P0_ go13 ∨ w.heap.size ≤ go13) from (HO_0.out.1 _ rfl))
        (first | simp only [add_plain] at hx101_0 | skip)
        (first | simp only [add_plain] at hx102_0 | skip)
        obtain ⟨hx13_0, hf13_0⟩ := Kd.R_celln 0 HO_0.out ((ji10) : Int) p13 q13
        replace p13 := eq_true p13
        replace q13 := eq_true q13
        have HP17 := Kd.R_putn HO_0.out ((ji10) : Int) (rdOf (0 : Nat) x0_1 (ji7))
        rw [← Ny103.out] at HP17
        have HQ17 := Zs.mk HP17
        clear HP17
        have p14 : 0 ≤ ((ji7) : Int) := of_decide_eq_true (by first | (with_reducible assumption) | assumption)
        have q14 : ((ji7) : Int) < ((x0_1.length : Int) : Int) := of_decide_eq_true (by first | (with_reducible assumption) | assumption)
        obtain ⟨hx14_0, hf14_0⟩ := Kd.R_celln 0 HQ17.out ((ji7) : Int) p14 q14
        replace p14 := eq_true p14
        replace q14 := eq_true q14
        have HP18 := Kd.R_putn HQ17.out ((ji7) : Int) (rdOf (0 : Nat) x0_1 (ji10))
        rw [← Ny104.out] at HP18
        have HQ18 := Zs.mk HP18
        clear HP18
        refine start_ (n := 24) (S := fun w' => w'.cell? ⟨go13, ((ji7)).toNat, none⟩ = some (.float .f64 (rdOf (0 : Nat) x0_1 (ji7))) ∧ w'.cell? ⟨go13, ((ji10)).toNat, none⟩ = some (.float .f64 (rdOf (0 : Nat) x0_1 (ji10)))) (ds := [21, 23]) (ba 24 0) (by kernel_rfl) rfl rfl ⟨hx101_0, hx102_0⟩ (fun hHeld => ?_); refine zT qssrcff6.tab3 qssrcff6.bits3 (fun HT_ HW_ => ?_)
        generalize wr.drew = w15 at HO_0 HK HB GG13 HQ17 HQ18 hf13_0 hf14_0 hx101_0 hx102_0 hx13_0 hx14_0 hHeld ⊢
        refine' pu 0 (some 16) (ba 24 1) HT_ rfl rfl (by kernel_rfl) (fun _ _ _ => id) ?_ ?_ ?_ <| pu 1 (some 17) (ba 24 3) HT_ rfl rfl (by kernel_rfl) (fun _ _ _ => id) ?_ ?_ ?_ <| pu 2 (some 18) (ba 24 7) HT_ rfl rfl (by kernel_rfl) (fun _ _ _ => id) ?_ ?_ ?_ <| pu 3 (some 19) (ba 24 15) HT_ rfl rfl (by kernel_rfl) (fun _ _ _ => id) ?_ ?_ ?_ <| pu 4 (some 20) (ba 24 31) HT_ rfl rfl (by kernel_rfl) (fun _ _ _ => id) ?_ ?_ ?_ <| pu 5 (some 21) (ba 24 63) HT_ rfl rfl (by kernel_rfl) (fun _ _ _ => id) ?_ ?_ ?_ <| pu 6 (some 22) (ba 24 127) HT_ rfl rfl (by kernel_rfl) (fun _ _ _ => id) ?_ ?_ ?_ <| pu 7 (some 23) (ba 24 255) HT_ rfl rfl (by kernel_rfl) (fun _ _ _ => id) ?_ ?_ ?_ <| pu 8 (some 24) (ba 24 511) HT_ rfl rfl (by kernel_rfl) (fun _ _ _ => id) ?_ ?_ ?_ <| pu 9 (some 25) (ba 24 1023) HT_ rfl rfl (by kernel_rfl) (fun _ _ _ => id) ?_ ?_ ?_ <| pu 10 (some 26) (ba 24 2047) HT_ rfl rfl (by kernel_rfl) (fun _ _ _ => id) ?_ ?_ ?_ <| pu 11 (some 27) (ba 24 4095) HT_ rfl rfl (by kernel_rfl) (fun _ _ _ => id) ?_ ?_ ?_ <| pu 12 (some 28) (ba 24 8191) HT_ rfl rfl (by kernel_rfl) (fun _ _ _ => id) ?_ ?_ ?_ <| pu 14 (some 30) (ba 24 24575) HT_ rfl rfl (by kernel_rfl) (fun _ _ _ => id) ?_ ?_ ?_ <| pu 15 (some 31) (ba 24 57343) HT_ rfl rfl (by kernel_rfl) (fun _ _ _ => id) ?_ ?_ ?_ <| pu 16 (some 32) (ba 24 122879) HT_ rfl rfl (by kernel_rfl) (fun _ _ _ => id) ?_ ?_ ?_ <| pu 17 (some 33) (ba 24 253951) HT_ rfl rfl (by kernel_rfl) (fun _ _ _ => id) ?_ ?_ ?_ <| pu 18 (some 34) (ba 24 516095) HT_ rfl rfl (by kernel_rfl) (fun _ _ _ => id) ?_ ?_ ?_ <| ta 13 (some 29) (ba 24 524287) HT_ HW_ rfl rfl (by kernel_rfl) (fun _ _ _ => id) ?_ ?_ hHeld ?_ <| ta 19 (some 35) (ba 24 1048575) HT_ HW_ rfl rfl (by kernel_rfl) (fun _ _ _ => id) ?_ ?_ hHeld ?_ <| pu 20 (some 36) (ba 24 2097151) HT_ rfl rfl (by kernel_rfl) (fun _ _ _ => id) ?_ ?_ ?_ <| ?_
        any_goals (first | (show Region.wanted _ _ = _; rfl) | (rintro w' ⟨s0, s1⟩; go_simp; with_reducible rfl) | (intro w'; go_simp; with_reducible rfl) | (simp only [Act.put, List.setIfInBounds_toArray, List.set_cons_zero, List.set_cons_succ, i64_w, i32_w]; rfl))
        refine last_ (i := 21) (N := none) (ba 24 4194303) rfl rfl (one_of HT_.out (by kernel_rfl)) (by decide) (fun K hK => ?_)
        refine skip_ (w1 := ?_) (by rfl) rfl ?_ ?_
        rotate_left
        ·go_simp
         rfl
        refine hK.out _ _ ?_
        clear hK K
        refine' pu 22 (some 37) (ba 24 8388607) HT_ rfl rfl (by kernel_rfl) (fun _ _ _ => id) ?_ ?_ ?_ <| ?_
        any_goals (first | (show Region.wanted _ _ = _; rfl) | (intro w'; go_simp; with_reducible rfl) | (simp only [Act.put, List.setIfInBounds_toArray, List.set_cons_zero, List.set_cons_succ, i64_w, i32_w]; rfl))
        refine last_ (i := 23) (N := none) (ba 24 16777215) rfl rfl (one_of HT_.out (by kernel_rfl)) (by decide) (fun K hK => ?_)
        refine skip_ (w1 := ?_) (by rfl) rfl ?_ ?_
        rotate_left
        ·go_simp
         rfl
        refine hK.out _ _ ?_
        clear hK K
        refine done_ (done_of HT_.out (by kernel_rfl)) ?_
        try go_wp2
        go_roundg k1
        case measure => have := HK1.out; omega
        case rel => exact ⟨(y104), (wrap64 (x10_1 + 1)), (by first | rfl | (simp; done) | (simp [*]; done)), H', ⟨by have := HK1.out; omega⟩, ⟨by (with_reducible repeat (first | apply Kd.R_alloc | apply Kd.R_drewN | apply Kd.R_drew)); exact HQ18.out⟩, ⟨by repeat (first | (with_reducible first | exact HK.out | apply Kept.alloc | apply Kept.drewN | apply Kept.drew | refine Kept.setCell ?_ HMgo13.out _ | refine Kept.setCell ?_ HMgo13.out _) | exact HK.out)⟩, ⟨by repeat (first | (with_reducible first | exact HB.out | apply zA | apply zB | apply zC | refine below_set ?_ GB13.out | refine below_set ?_ GB13.out) | exact HB.out)⟩⟩
       ·rw [if_neg c12] at H
        exact absurd H (by simp)
      ·rw [if_neg c11] at H
       exact absurd H (by simp)
     ·rw [if_neg c9] at H
      exact absurd H (by simp)
    ·rw [if_neg c8] at H
     exact absurd H (by simp)
   ·rw [if_neg c6] at H
    have c6b0 : decide (x10_1 < a3) = false := decide_eq_false c6
    clear c6
    obtain rfl := Option.some.inj H
    go_wp2
    first | go_end0 | ((try simp only [Exit.inBlock, Exit.then]); refine bodyPost_ret (results_none rfl _ _ _) rfl ?_)
    exact ⟨by first | rfl | (simp [zE, zF] <;> rfl) | (simp [*, zE, zF] <;> rfl), by (with_reducible repeat (first | apply Kd.R_alloc | apply Kd.R_drewN | apply Kd.R_drew)); exact HO_0.out, by repeat (first | (with_reducible first | exact HB.out | apply zA | apply zB | apply zC) | exact HB.out), by repeat (first | (with_reducible first | exact HK.out | apply Kept.alloc | apply Kept.drewN | apply Kept.drew) | exact HK.out)⟩
def qsrcff6.l0 : Nat → List Nat → Int → Int → Int → Option (List Nat)
 | 0, _, _, _, _ => none
 | k + 1, x0, x2, x10, x11 => if x10 = x11 then ((qssrcff6.f k x0 (wrap64 (x2 - x10)) x2 x10).bind fun t101 => (some t101)) else (if x10 > x11 then ((qssrcff6.f k x0 (wrap64 (x2 - x10)) x2 x11).bind fun t102 => (qsrcff6.l0 k t102 x2 (wrap64 (x10 - x11)) x11)) else ((qssrcff6.f k x0 (wrap64 (x2 - x10)) (wrap64 ((wrap64 (x2 + x11)) - x10)) x10).bind fun t103 => (qsrcff6.l0 k t103 x2 x10 (wrap64 (x11 - x10)))))
def qsrcff6.f (k : Nat) (l0 : List Nat) (a1 : Int) (a2 : Int) (a3 : Int)  : Option (List Nat) := qsrcff6.l0 k l0 a2 (wrap64 (a2 - a1)) (wrap64 (a3 - a2))
set_option maxHeartbeats 8000000 in
set_option maxRecDepth 100000 in
theorem qsrcff6.calls (k : Nat) (P0_ : Nat → Prop) (u9000_ : Value) (l0 : List Nat) (a1 : Int) (a2 : Int) (a3 : Int)  (r : List Nat) (w0 w : World) (hB : Below w0.heap.size w0 w) (ho0 : Kd.R (Kd.scalar (Value.float .f64) (fun _ => rfl)) 23 w w0.heap.size P0_ u9000_ l0) (h : qsrcff6.f k l0 a1 a2 a3 = some r) :
  Calls Try.prog 191 #[u9000_, .int .i64 a1, .int .i64 a2, .int .i64 a3, .func (.func 52) #[] #[]] w fun e w' => e = .returned (.tuple #[]) ∧ Kd.R (Kd.scalar (Value.float .f64) (fun _ => rfl)) 23 w' w0.heap.size (fun k_ => (P0_ k_ ∨ w.heap.size ≤ k_)) u9000_ r ∧ Below w0.heap.size w0 w' ∧ Kept w w' (fun k_ => P0_ k_) := by
 have HO0 := Zs.mk (show Kd.R (Kd.scalar (Value.float .f64) (fun _ => rfl)) 23 w w0.heap.size (fun k_ => (P0_ k_ ∨ w.heap.size ≤ k_)) u9000_ l0 from Kd.R_mono ho0 (fun k_ hk => (.inl hk)))
 have HK := Zs.mk (Kept.refl w (fun k_ => P0_ k_))
 have HW0 := Zs.mk hB.size
 have HB := Zs.mk hB
 clear hB
 have H : (qsrcff6.l0 k l0 a2 (wrap64 (a2 - a1)) (wrap64 (a3 - a2))) = some r := h
 clear h
 have H' := Zs.mk H
 clear H
 go_enter Try.func191, Try.ntmps191
 go_wp2
 go_loopg [10, 11] k (fun kq v10 v11 w' => ∃ (x0_1 : List Nat) (x10_1 : Int) (x11_1 : Int), v10 = .int .i64 x10_1 ∧ v11 = .int .i64 x11_1 ∧ Zs (qsrcff6.l0 kq x0_1 a2 x10_1 x11_1 = some r) ∧ Zs (kq ≤ k) ∧ Zs (Kd.R (Kd.scalar (Value.float .f64) (fun _ => rfl)) 23 w' w0.heap.size (fun k_ => (P0_ k_ ∨ w.heap.size ≤ k_)) u9000_ x0_1) ∧ Zs (Kept w w' (fun k_ => P0_ k_)) ∧ Zs (Below w0.heap.size w0 w'))
 case atStart => exact ⟨(l0), (wrap64 (a2 - a1)), (wrap64 (a3 - a2)), (by first | rfl | (simp; done) | (simp [*]; done)), (by first | rfl | (simp; done) | (simp [*]; done)), H', ⟨Nat.le_refl _⟩, ⟨by (with_reducible repeat (first | apply Kd.R_alloc | apply Kd.R_drewN | apply Kd.R_drew)); exact HO0.out⟩, ⟨by repeat (first | (with_reducible first | exact HK.out | apply Kept.alloc | apply Kept.drewN | apply Kept.drew) | exact HK.out)⟩, ⟨by repeat (first | (with_reducible first | exact HB.out | apply zA | apply zB | apply zC) | exact HB.out)⟩⟩
 case round =>
  clear H'
  obtain ⟨x0_1, x10_1, x11_1, rfl, rfl, HA, HK1, HO_0, HK, HB⟩ := hrel
  cases gk with
  | zero => exact absurd HA.out (by simp [qsrcff6.l0])
  | succ k1 =>
   have H := HA.out
   clear HA
   simp only [qsrcff6.l0] at H
   by_cases c6 : x10_1 = x11_1
   ·rw [if_pos c6] at H
    have c6b0 : (x10_1 == x11_1) = true := beq_iff_eq.mpr c6
    have c6b1 : (x10_1 != x11_1) = false := bne_eq_false_iff_eq.mpr c6
    clear c6
    replace H := Option.bind_eq_some_iff.mp H
    obtain ⟨t101, A70, H⟩ := H
    replace H : (some t101) = some r := H
    have A7 := Zs.mk A70
    clear A70
    obtain rfl := Option.some.inj H
    obtain ⟨Ao8, co8, eo8⟩ := Kd.R_slice HO_0.out
    subst eo8
    go_wp2_with (first | (go_at_call 204; (with_reducible refine (qssrcff6.calls k1 (fun k_ => some k_ = (.slice Ao8 x0_1.length co8 : Value).ownBlock) (.slice Ao8 x0_1.length co8) x0_1 (wrap64 (a2 - x10_1)) a2 x10_1  t101 w0 _ ?side1 ?side2 A7.out).mono ?_); (case side1 => repeat (first | (with_reducible first | exact HB.out | apply zA | apply zB | apply zC) | exact HB.out)); (case side2 => exact Kd.R_tight rfl HO_0.out); rintro e w9 ⟨rfl, hy0, hb, hkp⟩; have n0_ := Zs.mk (Kd.R_reok rfl hy0 (fun k_ e_ => HO_0.out.1 k_ e_)); have n1_ := Zs.mk (Kept.then_ (S := (fun k_ => P0_ k_)) (by repeat (first | (with_reducible first | exact HK.out | apply Kept.alloc | apply Kept.drewN | apply Kept.drew) | exact HK.out)) hkp (fun k_ hs_ => (fun e_ => (HO_0.out.1 k_ e_.symm)) hs_)); have n2_ := Zs.mk (hb); clear HO_0; clear HK; clear HB; have HO_0 := n0_; have HK := n1_; have HB := n2_; clear n0_ n1_ n2_; (try clear hb); (try clear hkp); (try clear hy0)))
    first | go_end0 | ((try simp only [Exit.inBlock, Exit.then]); refine bodyPost_ret (results_none rfl _ _ _) rfl ?_)
    exact ⟨by first | rfl | (simp [zE, zF] <;> rfl) | (simp [*, zE, zF] <;> rfl), by (with_reducible repeat (first | apply Kd.R_alloc | apply Kd.R_drewN | apply Kd.R_drew)); exact HO_0.out, by repeat (first | (with_reducible first | exact HB.out | apply zA | apply zB | apply zC) | exact HB.out), by repeat (first | (with_reducible first | exact HK.out | apply Kept.alloc | apply Kept.drewN | apply Kept.drew) | exact HK.out)⟩
   ·rw [if_neg c6] at H
    have c6b0 : (x10_1 == x11_1) = false := beq_eq_false_iff_ne.mpr c6
    have c6b1 : (x10_1 != x11_1) = true := bne_iff_ne.mpr c6
    by_cases c10 : x10_1 > x11_1
    ·rw [if_pos c10] at H
     have c10b0 : decide (x11_1 < x10_1) = true := decide_eq_true c10
     clear c10
     replace H := Option.bind_eq_some_iff.mp H
     obtain ⟨t102, A110, H⟩ := H
     replace H : (qsrcff6.l0 k1 t102 a2 (wrap64 (x10_1 - x11_1)) x11_1) = some r := H
     have A11 := Zs.mk A110
     clear A110
     have H' := Zs.mk H
     clear H
     obtain ⟨Ao12, co12, eo12⟩ := Kd.R_slice HO_0.out
     subst eo12
     go_wp2_with (first | (go_at_call 204; (with_reducible refine (qssrcff6.calls k1 (fun k_ => some k_ = (.slice Ao12 x0_1.length co12 : Value).ownBlock) (.slice Ao12 x0_1.length co12) x0_1 (wrap64 (a2 - x10_1)) a2 x11_1  t102 w0 _ ?side1 ?side2 A11.out).mono ?_); (case side1 => repeat (first | (with_reducible first | exact HB.out | apply zA | apply zB | apply zC) | exact HB.out)); (case side2 => exact Kd.R_tight rfl HO_0.out); rintro e w13 ⟨rfl, hy0, hb, hkp⟩; have n0_ := Zs.mk (Kd.R_reok rfl hy0 (fun k_ e_ => HO_0.out.1 k_ e_)); have n1_ := Zs.mk (Kept.then_ (S := (fun k_ => P0_ k_)) (by repeat (first | (with_reducible first | exact HK.out | apply Kept.alloc | apply Kept.drewN | apply Kept.drew) | exact HK.out)) hkp (fun k_ hs_ => (fun e_ => (HO_0.out.1 k_ e_.symm)) hs_)); have n2_ := Zs.mk (hb); clear HO_0; clear HK; clear HB; have HO_0 := n0_; have HK := n1_; have HB := n2_; clear n0_ n1_ n2_; (try clear hb); (try clear hkp); (try clear hy0)))
     go_roundg k1
     case measure => have := HK1.out; omega
     case rel => exact ⟨(t102), (wrap64 (x10_1 - x11_1)), (x11_1), (by first | rfl | (simp; done) | (simp [*]; done)), (by first | rfl | (simp; done) | (simp [*]; done)), H', ⟨by have := HK1.out; omega⟩, ⟨by (with_reducible repeat (first | apply Kd.R_alloc | apply Kd.R_drewN | apply Kd.R_drew)); exact HO_0.out⟩, ⟨by repeat (first | (with_reducible first | exact HK.out | apply Kept.alloc | apply Kept.drewN | apply Kept.drew) | exact HK.out)⟩, ⟨by repeat (first | (with_reducible first | exact HB.out | apply zA | apply zB | apply zC) | exact HB.out)⟩⟩
    ·rw [if_neg c10] at H
     have c10b0 : decide (x11_1 < x10_1) = false := decide_eq_false c10
     clear c10
     replace H := Option.bind_eq_some_iff.mp H
     obtain ⟨t103, A140, H⟩ := H
     replace H : (qsrcff6.l0 k1 t103 a2 x10_1 (wrap64 (x11_1 - x10_1))) = some r := H
     have A14 := Zs.mk A140
     clear A140
     have H' := Zs.mk H
     clear H
     obtain ⟨Ao15, co15, eo15⟩ := Kd.R_slice HO_0.out
     subst eo15
     go_wp2_with (first | (go_at_call 204; (with_reducible refine (qssrcff6.calls k1 (fun k_ => some k_ = (.slice Ao15 x0_1.length co15 : Value).ownBlock) (.slice Ao15 x0_1.length co15) x0_1 (wrap64 (a2 - x10_1)) (wrap64 ((wrap64 (a2 + x11_1)) - x10_1)) x10_1  t103 w0 _ ?side1 ?side2 A14.out).mono ?_); (case side1 => repeat (first | (with_reducible first | exact HB.out | apply zA | apply zB | apply zC) | exact HB.out)); (case side2 => exact Kd.R_tight rfl HO_0.out); rintro e w16 ⟨rfl, hy0, hb, hkp⟩; have n0_ := Zs.mk (Kd.R_reok rfl hy0 (fun k_ e_ => HO_0.out.1 k_ e_)); have n1_ := Zs.mk (Kept.then_ (S := (fun k_ => P0_ k_)) (by repeat (first | (with_reducible first | exact HK.out | apply Kept.alloc | apply Kept.drewN | apply Kept.drew) | exact HK.out)) hkp (fun k_ hs_ => (fun e_ => (HO_0.out.1 k_ e_.symm)) hs_)); have n2_ := Zs.mk (hb); clear HO_0; clear HK; clear HB; have HO_0 := n0_; have HK := n1_; have HB := n2_; clear n0_ n1_ n2_; (try clear hb); (try clear hkp); (try clear hy0)))
     go_roundg k1
     case measure => have := HK1.out; omega
     case rel => exact ⟨(t103), (x10_1), (wrap64 (x11_1 - x10_1)), (by first | rfl | (simp; done) | (simp [*]; done)), (by first | rfl | (simp; done) | (simp [*]; done)), H', ⟨by have := HK1.out; omega⟩, ⟨by (with_reducible repeat (first | apply Kd.R_alloc | apply Kd.R_drewN | apply Kd.R_drew)); exact HO_0.out⟩, ⟨by repeat (first | (with_reducible first | exact HK.out | apply Kept.alloc | apply Kept.drewN | apply Kept.drew) | exact HK.out)⟩, ⟨by repeat (first | (with_reducible first | exact HB.out | apply zA | apply zB | apply zC) | exact HB.out)⟩⟩
mutual
def qssmcff6.l0 : Nat → List Nat → Int → Int → Int → Option (List Nat)
 | 0, _, _, _, _ => none
 | k + 1, x0, x1, x10, x11 => if x10 < x11 then (if 0 ≤ (wrap64 ((IntKind.u64.wrap (wrap64 (x10 + x11))) / 2)) then (if (wrap64 ((IntKind.u64.wrap (wrap64 (x10 + x11))) / 2)) < (x0.length : Int) then (if 0 ≤ x1 then (if x1 < (x0.length : Int) then ((qoc.f (rdOf (0 : Nat) x0 (wrap64 ((IntKind.u64.wrap (wrap64 (x10 + x11))) / 2))) (rdOf (0 : Nat) x0 x1)).bind fun t103 => (if t103 < 0 then (qssmcff6.l0 k x0 x1 (wrap64 ((wrap64 ((IntKind.u64.wrap (wrap64 (x10 + x11))) / 2)) + 1)) x11) else (qssmcff6.l0 k x0 x1 x10 (wrap64 ((IntKind.u64.wrap (wrap64 (x10 + x11))) / 2))))) else (none)) else (none)) else (none)) else (none)) else (qssmcff6.l1 k x0 x10 x1)
def qssmcff6.l1 : Nat → List Nat → Int → Int → Option (List Nat)
 | 0, _, _, _ => none
 | k + 1, x0, x10, x13 => if x13 < (wrap64 (x10 - 1)) then (if 0 ≤ (wrap64 (x13 + 1)) then (if (wrap64 (x13 + 1)) < (x0.length : Int) then (if 0 ≤ x13 then (if x13 < (x0.length : Int) then (qssmcff6.l1 k ((x0.set (x13 : Int).toNat (rdOf (0 : Nat) x0 (wrap64 (x13 + 1)))).set ((wrap64 (x13 + 1)) : Int).toNat (rdOf (0 : Nat) x0 x13)) x10 (wrap64 (x13 + 1))) else (none)) else (none)) else (none)) else (none)) else (some x0)
def qssmcff6.l2 : Nat → List Nat → Int → Int → Int → Option (List Nat)
 | 0, _, _, _, _ => none
 | k + 1, x0, x2, x14, x15 => if x14 < x15 then (if 0 ≤ x2 then (if x2 < (x0.length : Int) then (if 0 ≤ (wrap64 ((IntKind.u64.wrap (wrap64 (x14 + x15))) / 2)) then (if (wrap64 ((IntKind.u64.wrap (wrap64 (x14 + x15))) / 2)) < (x0.length : Int) then ((qoc.f (rdOf (0 : Nat) x0 x2) (rdOf (0 : Nat) x0 (wrap64 ((IntKind.u64.wrap (wrap64 (x14 + x15))) / 2)))).bind fun t110 => (if t110 < 0 then (qssmcff6.l2 k x0 x2 x14 (wrap64 ((IntKind.u64.wrap (wrap64 (x14 + x15))) / 2))) else (qssmcff6.l2 k x0 x2 (wrap64 ((wrap64 ((IntKind.u64.wrap (wrap64 (x14 + x15))) / 2)) + 1)) x15))) else (none)) else (none)) else (none)) else (none)) else (qssmcff6.l3 k x0 x14 x2)
def qssmcff6.l3 : Nat → List Nat → Int → Int → Option (List Nat)
 | 0, _, _, _ => none
 | k + 1, x0, x14, x17 => if x17 > x14 then (if 0 ≤ (wrap64 (x17 - 1)) then (if (wrap64 (x17 - 1)) < (x0.length : Int) then (if 0 ≤ x17 then (if x17 < (x0.length : Int) then (qssmcff6.l3 k ((x0.set (x17 : Int).toNat (rdOf (0 : Nat) x0 (wrap64 (x17 - 1)))).set ((wrap64 (x17 - 1)) : Int).toNat (rdOf (0 : Nat) x0 x17)) x14 (wrap64 (x17 - 1))) else (none)) else (none)) else (none)) else (none)) else (some x0)
def qssmcff6.j4 : Nat → List Nat → Int → Int → Int → Int → Int → Int → Int → Option (List Nat)
 | 0, _, _, _, _, _, _, _, _ => none
 | k + 1, x0, x1, x2, x3, x18, x19, x20, x21 => qssmcff6.l4 k x0 x1 x2 x3 x18 x19 x20 x21 (wrap64 (x19 - 1))
def qssmcff6.l4 : Nat → List Nat → Int → Int → Int → Int → Int → Int → Int → Int → Option (List Nat)
 | 0, _, _, _, _, _, _, _, _, _ => none
 | k + 1, x0, x1, x2, x3, x18, x19, x20, x21, x22 => if x20 < x21 then (if 0 ≤ (wrap64 (x22 - (wrap64 ((IntKind.u64.wrap (wrap64 (x20 + x21))) / 2)))) then (if (wrap64 (x22 - (wrap64 ((IntKind.u64.wrap (wrap64 (x20 + x21))) / 2)))) < (x0.length : Int) then (if 0 ≤ (wrap64 ((IntKind.u64.wrap (wrap64 (x20 + x21))) / 2)) then (if (wrap64 ((IntKind.u64.wrap (wrap64 (x20 + x21))) / 2)) < (x0.length : Int) then ((qoc.f (rdOf (0 : Nat) x0 (wrap64 (x22 - (wrap64 ((IntKind.u64.wrap (wrap64 (x20 + x21))) / 2))))) (rdOf (0 : Nat) x0 (wrap64 ((IntKind.u64.wrap (wrap64 (x20 + x21))) / 2)))).bind fun t117 => (if t117 < 0 then (qssmcff6.l4 k x0 x1 x2 x3 x18 x19 x20 (wrap64 ((IntKind.u64.wrap (wrap64 (x20 + x21))) / 2)) x22) else (qssmcff6.l4 k x0 x1 x2 x3 x18 x19 (wrap64 ((wrap64 ((IntKind.u64.wrap (wrap64 (x20 + x21))) / 2)) + 1)) x21 x22))) else (none)) else (none)) else (none)) else (none)) else (if x20 < x2 then (qssmcff6.j6 k x0 x1 x2 x3 x18 x20 (wrap64 (x19 - x20)) (decide (x2 < (wrap64 (x19 - x20))))) else (qssmcff6.j6 k x0 x1 x2 x3 x18 x20 (wrap64 (x19 - x20)) false))
def qssmcff6.j6 : Nat → List Nat → Int → Int → Int → Int → Int → Int → Bool → Option (List Nat)
 | 0, _, _, _, _, _, _, _, _ => none
 | k + 1, x0, x1, x2, x3, x18, x20, x24, x185 => if x185 = true then ((qsrcff6.f k x0 x20 x2 x24).bind fun t118 => (qssmcff6.j7 k t118 x1 x3 x18 x20 x24)) else (qssmcff6.j7 k x0 x1 x3 x18 x20 x24)
def qssmcff6.j7 : Nat → List Nat → Int → Int → Int → Int → Int → Option (List Nat)
 | 0, _, _, _, _, _, _ => none
 | k + 1, x0, x1, x3, x18, x20, x24 => if x1 < x20 then (qssmcff6.j8 k x0 x1 x3 x18 x20 x24 (decide (x20 < x18))) else (qssmcff6.j8 k x0 x1 x3 x18 x20 x24 false)
def qssmcff6.j8 : Nat → List Nat → Int → Int → Int → Int → Int → Bool → Option (List Nat)
 | 0, _, _, _, _, _, _, _ => none
 | k + 1, x0, x1, x3, x18, x20, x24, x199 => if x199 = true then ((qssmcff6.f k x0 x1 x20 x18).bind fun t119 => (if x18 < x24 then (if x24 < x3 then ((qssmcff6.f k t119 x18 x24 x3).bind fun t120 => (some t120)) else (some t119)) else (some t119))) else (if x18 < x24 then (if x24 < x3 then ((qssmcff6.f k x0 x18 x24 x3).bind fun t121 => (some t121)) else (some x0)) else (some x0))
def qssmcff6.f : Nat → List Nat → Int → Int → Int → Option (List Nat)
 | 0, _, _, _, _ => none
 | k + 1, l0, a1, a2, a3 => if (wrap64 (a2 - a1)) = 1 then (qssmcff6.l0 k l0 a1 a2 a3) else (if (wrap64 (a3 - a2)) = 1 then (qssmcff6.l2 k l0 a2 a1 a2) else (if a2 > (wrap64 ((IntKind.u64.wrap (wrap64 (a1 + a3))) / 2)) then (qssmcff6.j4 k l0 a1 a2 a3 (wrap64 ((IntKind.u64.wrap (wrap64 (a1 + a3))) / 2)) (wrap64 ((wrap64 ((IntKind.u64.wrap (wrap64 (a1 + a3))) / 2)) + a2)) (wrap64 ((wrap64 ((wrap64 ((IntKind.u64.wrap (wrap64 (a1 + a3))) / 2)) + a2)) - a3)) (wrap64 ((IntKind.u64.wrap (wrap64 (a1 + a3))) / 2))) else (qssmcff6.j4 k l0 a1 a2 a3 (wrap64 ((IntKind.u64.wrap (wrap64 (a1 + a3))) / 2)) (wrap64 ((wrap64 ((IntKind.u64.wrap (wrap64 (a1 + a3))) / 2)) + a2)) a1 a2)))
end
end Go.Proofs.Ytkmbgfhkdopigaa.P
