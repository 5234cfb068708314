/- Texts that the statement's proof leans on, part 23. -/
import Derived.Test.YtkmbgfhkdopigaaOS4
import Derived.Test.YtkmbgfhkdopigaaOS7
import Derived.Test.YtkmbgfhkdopigaaOS8
import Derived.Test.YtkmbgfhkdopigaaOS9
import Derived.Test.YtkmbgfhkdopigaaOS22
namespace Go.Proofs.Ytkmbgfhkdopigaa.P
open Go.RowKit Go.Proofs.YtkmbgfhkdopigaaW.PrintWords Go.Proofs.YtkmbgfhkdopigaaW.PrintLast Go.Proofs.YtkmbgfhkdopigaaW.PrintMore
attribute [local go_sem] max2_int min2_int max_two min_two max_three min_three max_four min_four
attribute [local go_sem] Go.Proofs.Ytkmbgfhkdopigaa.Fl.store_float Go.Proofs.Ytkmbgfhkdopigaa.Fl.call54 Go.Proofs.Ytkmbgfhkdopigaa.Fl.call22 Go.Proofs.Ytkmbgfhkdopigaa.Fl.call14 Go.Proofs.Ytkmbgfhkdopigaa.Fl.call28
set_option linter.unusedVariables false
set_option linter.unusedSimpArgs false
mutual
def qt0os.l0 : Nat → Int → List Nat → List Nat → Int → Option (Bool)
 | 0, _, _, _, _ => none
 | k + 1, x1, x5, x6, x7 => if x7 < (x6.length : Int) then (if 0 ≤ (wrap64 (x7 - 1)) then (if (wrap64 (x7 - 1)) < (x6.length : Int) then (if 0 ≤ x7 then ((qoc.f (rdOf (0 : Nat) x6 (wrap64 (x7 - 1))) (rdOf (0 : Nat) x6 x7)).bind fun t111 => (if t111 > 0 then (some false) else (qt0os.l0 k x1 x5 x6 (wrap64 (x7 + 1))))) else (none)) else (none)) else (none)) else ((qod.f x5).bind fun t112 => (qt0os.l1 k x1 x5 x6 t112 0 0))
def qt0os.l1 : Nat → Int → List Nat → List Nat → List Nat → Int → Int → Option (Bool)
 | 0, _, _, _, _, _, _ => none
 | k + 1, x1, x5, x6, x8, x9, x10 => if x10 < (x6.length : Int) then (if 0 ≤ x10 then (if ((FloatKind.format .f64).order (rdOf (0 : Nat) x6 x10) (rdOf (0 : Nat) x6 x10) != some .eq) = true then (qt0os.j2 k x1 x5 x6 x8 x9 x10 true) else (if x10 > 0 then (if 0 ≤ (wrap64 (x10 - 1)) then (if (wrap64 (x10 - 1)) < (x6.length : Int) then (qt0os.j2 k x1 x5 x6 x8 x9 x10 ((FloatKind.format .f64).order (rdOf (0 : Nat) x6 x10) (rdOf (0 : Nat) x6 (wrap64 (x10 - 1))) == some .eq)) else (none)) else (none)) else (qt0os.j2 k x1 x5 x6 x8 x9 x10 false))) else (none)) else ((qob.f k x6 x1.toNat).bind fun t124 => (if x9 = (x8.length : Int) then (if t124 < 0 then (qt0os.j3 k x6 x1.toNat t124 true) else (if t124 > (x6.length : Int) then (qt0os.j3 k x6 x1.toNat t124 true) else ((qob.f k x5 x1.toNat).bind fun t125 => (qt0os.j3 k x6 x1.toNat t124 (t125 != t124))))) else (qt0os.j3 k x6 x1.toNat t124 true)))
def qt0os.j2 : Nat → Int → List Nat → List Nat → List Nat → Int → Int → Bool → Option (Bool)
 | 0, _, _, _, _, _, _, _ => none
 | k + 1, x1, x5, x6, x8, x9, x10, x73 => if x73 = true then (qt0os.l1 k x1 x5 x6 x8 x9 (wrap64 (x10 + 1))) else (if x9 = (x8.length : Int) then (some false) else (if 0 ≤ x9 then (if x9 < (x8.length : Int) then (if 0 ≤ x10 then (if x10 < (x6.length : Int) then (if ((FloatKind.format .f64).order (rdOf (0 : Nat) x8 x9) (rdOf (0 : Nat) x6 x10) != some .eq) = true then (some false) else (if ((FloatKind.format .f64).order (rdOf (0 : Nat) x8 x9) 0 == some .eq) = true then ((qms.f (rdOf (0 : Nat) x8 x9)).bind fun t123 => (if t123 = true then (some false) else (qt0os.l1 k x1 x5 x6 x8 (wrap64 (x9 + 1)) (wrap64 (x10 + 1))))) else (qt0os.l1 k x1 x5 x6 x8 (wrap64 (x9 + 1)) (wrap64 (x10 + 1))))) else (none)) else (none)) else (none)) else (none)))
def qt0os.j3 : Nat → List Nat → Nat → Int → Bool → Option (Bool)
 | 0, _, _, _, _ => none
 | k + 1, x6, x11, x12, x130 => if x130 = true then (some false) else (qt0os.l2 k x6 x11 x12 0)
def qt0os.l2 : Nat → List Nat → Nat → Int → Int → Option (Bool)
 | 0, _, _, _, _ => none
 | k + 1, x6, x11, x12, x13 => if x13 < (x6.length : Int) then (if 0 ≤ x13 then ((qoc.f (rdOf (0 : Nat) x6 x13) x11).bind fun t127 => (if ((decide (t127 < 0)) != (decide (x13 < x12))) = true then (some false) else (qt0os.l2 k x6 x11 x12 (wrap64 (x13 + 1))))) else (none)) else (some true)
end
def qt0os.f (k : Nat) (l0 : List Int) (a1 : Int) : Option (Bool) := (qt0b.f).bind fun t101 => (if t101 = true then ((qt0l.f k l0).bind fun t102 => ((qos.f k t102).bind fun t105 => ((qt0c.f k t102 t105).bind fun t108 => (if t108 = true then (qt0os.l0 k a1 t102 t105 1) else (some false))))) else (some false))
set_option maxHeartbeats 8000000 in
set_option maxRecDepth 100000 in
theorem qt0os.calls (k : Nat) (A0 : Option Addr) (c0 : Nat) (l0 : List Int) (a1 : Int) (r : Bool) (w : World) (hr0 : Kd.C (Kd.int .u64) w A0 l0.length l0) (hc0 : l0.length ≤ c0) (h : qt0os.f k l0 a1 = some r) (hrt : ¬ r = false) :
  Calls Try.prog 10 #[.slice A0 l0.length c0, .int .u64 a1] w fun e w' => e = .returned (.bool r) ∧ Below w.heap.size w w' := by
 have HR0 := Zs.mk hr0
 have HC0 := Zs.mk hc0
 clear hr0 hc0
 have HB := Zs.mk (Below.refl w.heap.size w)
 have H : ((qt0b.f).bind fun t101 => (if t101 = true then ((qt0l.f k l0).bind fun t102 => ((qos.f k t102).bind fun t105 => ((qt0c.f k t102 t105).bind fun t108 => (if t108 = true then (qt0os.l0 k a1 t102 t105 1) else (some false))))) else (some false))) = some r := h
 clear h
 replace H := Option.bind_eq_some_iff.mp H
 obtain ⟨t101, A30, H⟩ := H
 replace H : (if t101 = true then ((qt0l.f k l0).bind fun t102 => ((qos.f k t102).bind fun t105 => ((qt0c.f k t102 t105).bind fun t108 => (if t108 = true then (qt0os.l0 k a1 t102 t105 1) else (some false))))) else (some false)) = some r := H
 have A3 := Zs.mk A30
 clear A30
 by_cases c4 : t101 = true
 ·subst c4
  have H1 : ((qt0l.f k l0).bind fun t102 => ((qos.f k t102).bind fun t105 => ((qt0c.f k t102 t105).bind fun t108 => (if t108 = true then (qt0os.l0 k a1 t102 t105 1) else (some false))))) = some r := by rw [if_pos rfl] at H; exact H
  clear H
  have H := H1
  clear H1
  replace H := Option.bind_eq_some_iff.mp H
  obtain ⟨t102, A50, H⟩ := H
  replace H : ((qos.f k t102).bind fun t105 => ((qt0c.f k t102 t105).bind fun t108 => (if t108 = true then (qt0os.l0 k a1 t102 t105 1) else (some false)))) = some r := H
  have A5 := Zs.mk A50
  clear A50
  replace H := Option.bind_eq_some_iff.mp H
  obtain ⟨t105, A60, H⟩ := H
  replace H : ((qt0c.f k t102 t105).bind fun t108 => (if t108 = true then (qt0os.l0 k a1 t102 t105 1) else (some false))) = some r := H
  have A6 := Zs.mk A60
  clear A60
  replace H := Option.bind_eq_some_iff.mp H
  obtain ⟨t108, A70, H⟩ := H
  replace H : (if t108 = true then (qt0os.l0 k a1 t102 t105 1) else (some false)) = some r := H
  have A7 := Zs.mk A70
  clear A70
  by_cases c8 : t108 = true
  ·subst c8
   have H1 : (qt0os.l0 k a1 t102 t105 1) = some r := by rw [if_pos rfl] at H; exact H
   clear H
   have H := H1
   clear H1
   have H' := Zs.mk H
   clear H
   go_enter Try.func10, Try.ntmps10
   go_wp2_with (first | (go_at_call 27; (with_reducible refine (qt0b.calls  true _ A3.out).mono ?_); rintro e w' ⟨rfl, ⟨nd, rfl⟩⟩; (try first | exact ⟨rfl, _, World.drewN_drewN _ _ _⟩ | exact ⟨rfl, _, Eq.trans (World.drewN_drewN _ _ _) (congrArg (World.drewN _) (Nat.add_assoc _ _ _))⟩)) | (go_at_call 43; (with_reducible refine (qt0l.calls k _ _ l0 t102 _ ?side1 ?side2 A5.out).mono ?_); (case side1 => repeat (first | exact HR0.out | (with_reducible refine Kd.C_alloc ?_ _) | (with_reducible refine Kd.C_drewN ?_ _) | (with_reducible refine Kd.C_drew ?_))); (case side2 => exact HC0.out); rintro e w9 ⟨v103, rfl, ho0, hb⟩; have n0_ := Zs.mk (Kd.R_lower ho0 (below_size (by repeat (first | (with_reducible first | exact HB.out | apply zA | apply zB | apply zC) | exact HB.out)))); have n1_ := Zs.mk (below_step (by repeat (first | (with_reducible first | exact HB.out | apply zA | apply zB | apply zC) | exact HB.out)) hb); clear HB; have HO104 := n0_; have HB := n1_; clear n0_ n1_; (try clear hb); (try clear hb2); (try clear hk); (try clear hi); (try clear ho0); obtain ⟨Ao10, co10, eo10⟩ := Kd.R_slice HO104.out; subst eo10) | (go_at_call 45; (with_reducible refine (qos.calls k _ _ t102 t105 _ ?side1 ?side2 A6.out).mono ?_); (case side1 => repeat (first | exact (Kd.R_reads' HO104.out).2.2 | (with_reducible refine Kd.C_alloc ?_ _) | (with_reducible refine Kd.C_drewN ?_ _) | (with_reducible refine Kd.C_drew ?_))); (case side2 => exact (Kd.R_reads' HO104.out).2.1); rintro e w11 ⟨v106, rfl, ho0, hb⟩; have n0_ := Zs.mk (Kd.R_elder' (by (with_reducible repeat (first | apply Kd.R_alloc | apply Kd.R_drewN | apply Kd.R_drew)); exact HO104.out) (Kd.R_base ho0) hb); have n1_ := Zs.mk (Kd.R_lower (Kd.R_new' ho0 (Kd.R_lt (by (with_reducible repeat (first | apply Kd.R_alloc | apply Kd.R_drewN | apply Kd.R_drew)); exact HO104.out))) (below_size (by repeat (first | (with_reducible first | exact HB.out | apply zA | apply zB | apply zC) | exact HB.out)))); have n2_ := Zs.mk (below_step (by repeat (first | (with_reducible first | exact HB.out | apply zA | apply zB | apply zC) | exact HB.out)) hb); clear HO104; clear HB; have HO104 := n0_; have HO107 := n1_; have HB := n2_; clear n0_ n1_ n2_; (try clear hb); (try clear hb2); (try clear hk); (try clear hi); (try clear ho0); obtain ⟨Ao12, co12, eo12⟩ := Kd.R_slice HO107.out; subst eo12) | (go_at_call 51; (with_reducible refine (qt0c.calls k _ _ t102 _ _ t105 true _ ?side1 ?side2 ?side3 ?side4 A7.out).mono ?_); (case side1 => repeat (first | exact (Kd.R_reads' HO104.out).2.2 | (with_reducible refine Kd.C_alloc ?_ _) | (with_reducible refine Kd.C_drewN ?_ _) | (with_reducible refine Kd.C_drew ?_))); (case side2 => exact (Kd.R_reads' HO104.out).2.1); (case side3 => repeat (first | exact (Kd.R_reads' HO107.out).2.2 | (with_reducible refine Kd.C_alloc ?_ _) | (with_reducible refine Kd.C_drewN ?_ _) | (with_reducible refine Kd.C_drew ?_))); (case side4 => exact (Kd.R_reads' HO107.out).2.1); rintro e w13 ⟨rfl, hb⟩; have n0_ := Zs.mk (Kd.R_below (by (with_reducible repeat (first | apply Kd.R_alloc | apply Kd.R_drewN | apply Kd.R_drew)); exact HO104.out) hb); have n1_ := Zs.mk (Kd.R_below (by (with_reducible repeat (first | apply Kd.R_alloc | apply Kd.R_drewN | apply Kd.R_drew)); exact HO107.out) hb); have n2_ := Zs.mk (below_step (by repeat (first | (with_reducible first | exact HB.out | apply zA | apply zB | apply zC) | exact HB.out)) hb); clear HO104; clear HO107; clear HB; have HO104 := n0_; have HO107 := n1_; have HB := n2_; clear n0_ n1_ n2_; (try clear hb); (try clear hb2); (try clear hk); (try clear hi)))
   repeat (go_quiet (first | (go_at_call 27; (with_reducible refine (qt0b.calls  true _ A3.out).mono ?_); rintro e w' ⟨rfl, ⟨nd, rfl⟩⟩; (try first | exact ⟨rfl, _, World.drewN_drewN _ _ _⟩ | exact ⟨rfl, _, Eq.trans (World.drewN_drewN _ _ _) (congrArg (World.drewN _) (Nat.add_assoc _ _ _))⟩)) | (go_at_call 43; (with_reducible refine (qt0l.calls k _ _ l0 t102 _ ?side1 ?side2 A5.out).mono ?_); (case side1 => repeat (first | exact HR0.out | (with_reducible refine Kd.C_alloc ?_ _) | (with_reducible refine Kd.C_drewN ?_ _) | (with_reducible refine Kd.C_drew ?_))); (case side2 => exact HC0.out); rintro e w9 ⟨v103, rfl, ho0, hb⟩; have n0_ := Zs.mk (Kd.R_lower ho0 (below_size (by repeat (first | (with_reducible first | exact HB.out | apply zA | apply zB | apply zC) | exact HB.out)))); have n1_ := Zs.mk (below_step (by repeat (first | (with_reducible first | exact HB.out | apply zA | apply zB | apply zC) | exact HB.out)) hb); clear HB; have HO104 := n0_; have HB := n1_; clear n0_ n1_; (try clear hb); (try clear hb2); (try clear hk); (try clear hi); (try clear ho0); obtain ⟨Ao10, co10, eo10⟩ := Kd.R_slice HO104.out; subst eo10) | (go_at_call 45; (with_reducible refine (qos.calls k _ _ t102 t105 _ ?side1 ?side2 A6.out).mono ?_); (case side1 => repeat (first | exact (Kd.R_reads' HO104.out).2.2 | (with_reducible refine Kd.C_alloc ?_ _) | (with_reducible refine Kd.C_drewN ?_ _) | (with_reducible refine Kd.C_drew ?_))); (case side2 => exact (Kd.R_reads' HO104.out).2.1); rintro e w11 ⟨v106, rfl, ho0, hb⟩; have n0_ := Zs.mk (Kd.R_elder' (by (with_reducible repeat (first | apply Kd.R_alloc | apply Kd.R_drewN | apply Kd.R_drew)); exact HO104.out) (Kd.R_base ho0) hb); have n1_ := Zs.mk (Kd.R_lower (Kd.R_new' ho0 (Kd.R_lt (by (with_reducible repeat (first | apply Kd.R_alloc | apply Kd.R_drewN | apply Kd.R_drew)); exact HO104.out))) (below_size (by repeat (first | (with_reducible first | exact HB.out | apply zA | apply zB | apply zC) | exact HB.out)))); have n2_ := Zs.mk (below_step (by repeat (first | (with_reducible first | exact HB.out | apply zA | apply zB | apply zC) | exact HB.out)) hb); clear HO104; clear HB; have HO104 := n0_; have HO107 := n1_; have HB := n2_; clear n0_ n1_ n2_; (try clear hb); (try clear hb2); (try clear hk); (try clear hi); (try clear ho0); obtain ⟨Ao12, co12, eo12⟩ := Kd.R_slice HO107.out; subst eo12) | (go_at_call 51; (with_reducible refine (qt0c.calls k _ _ t102 _ _ t105 true _ ?side1 ?side2 ?side3 ?side4 A7.out).mono ?_); (case side1 => repeat (first | exact (Kd.R_reads' HO104.out).2.2 | (with_reducible refine Kd.C_alloc ?_ _) | (with_reducible refine Kd.C_drewN ?_ _) | (with_reducible refine Kd.C_drew ?_))); (case side2 => exact (Kd.R_reads' HO104.out).2.1); (case side3 => repeat (first | exact (Kd.R_reads' HO107.out).2.2 | (with_reducible refine Kd.C_alloc ?_ _) | (with_reducible refine Kd.C_drewN ?_ _) | (with_reducible refine Kd.C_drew ?_))); (case side4 => exact (Kd.R_reads' HO107.out).2.1); rintro e w13 ⟨rfl, hb⟩; have n0_ := Zs.mk (Kd.R_below (by (with_reducible repeat (first | apply Kd.R_alloc | apply Kd.R_drewN | apply Kd.R_drew)); exact HO104.out) hb); have n1_ := Zs.mk (Kd.R_below (by (with_reducible repeat (first | apply Kd.R_alloc | apply Kd.R_drewN | apply Kd.R_drew)); exact HO107.out) hb); have n2_ := Zs.mk (below_step (by repeat (first | (with_reducible first | exact HB.out | apply zA | apply zB | apply zC) | exact HB.out)) hb); clear HO104; clear HO107; clear HB; have HO104 := n0_; have HO107 := n1_; have HB := n2_; clear n0_ n1_ n2_; (try clear hb); (try clear hb2); (try clear hk); (try clear hi))); try go_wp2_with (first | (go_at_call 27; (with_reducible refine (qt0b.calls  true _ A3.out).mono ?_); rintro e w' ⟨rfl, ⟨nd, rfl⟩⟩; (try first | exact ⟨rfl, _, World.drewN_drewN _ _ _⟩ | exact ⟨rfl, _, Eq.trans (World.drewN_drewN _ _ _) (congrArg (World.drewN _) (Nat.add_assoc _ _ _))⟩)) | (go_at_call 43; (with_reducible refine (qt0l.calls k _ _ l0 t102 _ ?side1 ?side2 A5.out).mono ?_); (case side1 => repeat (first | exact HR0.out | (with_reducible refine Kd.C_alloc ?_ _) | (with_reducible refine Kd.C_drewN ?_ _) | (with_reducible refine Kd.C_drew ?_))); (case side2 => exact HC0.out); rintro e w9 ⟨v103, rfl, ho0, hb⟩; have n0_ := Zs.mk (Kd.R_lower ho0 (below_size (by repeat (first | (with_reducible first | exact HB.out | apply zA | apply zB | apply zC) | exact HB.out)))); have n1_ := Zs.mk (below_step (by repeat (first | (with_reducible first | exact HB.out | apply zA | apply zB | apply zC) | exact HB.out)) hb); clear HB; have HO104 := n0_; have HB := n1_; clear n0_ n1_; (try clear hb); (try clear hb2); (try clear hk); (try clear hi); (try clear ho0); obtain ⟨Ao10, co10, eo10⟩ := Kd.R_slice HO104.out; subst eo10) | (go_at_call 45; (with_reducible refine (qos.calls k _ _ t102 t105 _ ?side1 ?side2 A6.out).mono ?_); (case side1 => repeat (first | exact (Kd.R_reads' HO104.out).2.2 | (with_reducible refine Kd.C_alloc ?_ _) | (with_reducible refine Kd.C_drewN ?_ _) | (with_reducible refine Kd.C_drew ?_))); (case side2 => exact (Kd.R_reads' HO104.out).2.1); rintro e w11 ⟨v106, rfl, ho0, hb⟩; have n0_ := Zs.mk (Kd.R_elder' (by (with_reducible repeat (first | apply Kd.R_alloc | apply Kd.R_drewN | apply Kd.R_drew)); exact HO104.out) (Kd.R_base ho0) hb); have n1_ := Zs.mk (Kd.R_lower (Kd.R_new' ho0 (Kd.R_lt (by (with_reducible repeat (first | apply Kd.R_alloc | apply Kd.R_drewN | apply Kd.R_drew)); exact HO104.out))) (below_size (by repeat (first | (with_reducible first | exact HB.out | apply zA | apply zB | apply zC) | exact HB.out)))); have n2_ := Zs.mk (below_step (by repeat (first | (with_reducible first | exact HB.out | apply zA | apply zB | apply zC) | exact HB.out)) hb); clear HO104; clear HB; have HO104 := n0_; have HO107 := n1_; have HB := n2_; clear n0_ n1_ n2_; (try clear hb); (try clear hb2); (try clear hk); (try clear hi); (try clear ho0); obtain ⟨Ao12, co12, eo12⟩ := Kd.R_slice HO107.out; subst eo12) | (go_at_call 51; (with_reducible refine (qt0c.calls k _ _ t102 _ _ t105 true _ ?side1 ?side2 ?side3 ?side4 A7.out).mono ?_); (case side1 => repeat (first | exact (Kd.R_reads' HO104.out).2.2 | (with_reducible refine Kd.C_alloc ?_ _) | (with_reducible refine Kd.C_drewN ?_ _) | (with_reducible refine Kd.C_drew ?_))); (case side2 => exact (Kd.R_reads' HO104.out).2.1); (case side3 => repeat (first | exact (Kd.R_reads' HO107.out).2.2 | (with_reducible refine Kd.C_alloc ?_ _) | (with_reducible refine Kd.C_drewN ?_ _) | (with_reducible refine Kd.C_drew ?_))); (case side4 => exact (Kd.R_reads' HO107.out).2.1); rintro e w13 ⟨rfl, hb⟩; have n0_ := Zs.mk (Kd.R_below (by (with_reducible repeat (first | apply Kd.R_alloc | apply Kd.R_drewN | apply Kd.R_drew)); exact HO104.out) hb); have n1_ := Zs.mk (Kd.R_below (by (with_reducible repeat (first | apply Kd.R_alloc | apply Kd.R_drewN | apply Kd.R_drew)); exact HO107.out) hb); have n2_ := Zs.mk (below_step (by repeat (first | (with_reducible first | exact HB.out | apply zA | apply zB | apply zC) | exact HB.out)) hb); clear HO104; clear HO107; clear HB; have HO104 := n0_; have HO107 := n1_; have HB := n2_; clear n0_ n1_ n2_; (try clear hb); (try clear hb2); (try clear hk); (try clear hi))))
   go_loopg [7] k (fun kq v7 w' => ∃ (x7_1 : Int), v7 = .int .i64 x7_1 ∧ Zs (qt0os.l0 kq a1 t102 t105 x7_1 = some r) ∧ Zs (kq ≤ k) ∧ Zs (Kd.R (Kd.scalar (Value.float .f64) (fun _ => rfl)) 23 w' w.heap.size (fun k_ => some k_ ≠ ((.slice Ao12 t105.length co12) : Value).ownBlock) (.slice Ao10 t102.length co10) t102) ∧ Zs (Kd.R (Kd.scalar (Value.float .f64) (fun _ => rfl)) 23 w' w.heap.size (fun k_ => some k_ ≠ ((.slice Ao10 t102.length co10) : Value).ownBlock) (.slice Ao12 t105.length co12) t105) ∧ Zs (Below w.heap.size w w'))
   case atStart => exact ⟨(1), (by first | rfl | (simp; done) | (simp [*]; done)), H', ⟨Nat.le_refl _⟩, ⟨by (with_reducible repeat (first | apply Kd.R_alloc | apply Kd.R_drewN | apply Kd.R_drew)); exact Kd.R_mono HO104.out (fun _ hk => hk.2)⟩, ⟨by (with_reducible repeat (first | apply Kd.R_alloc | apply Kd.R_drewN | apply Kd.R_drew)); exact Kd.R_mono HO107.out (fun _ hk => hk.2)⟩, ⟨by repeat (first | (with_reducible first | exact HB.out | apply zA | apply zB | apply zC) | exact HB.out)⟩⟩
   case round =>
    clear H'
    try clear c4; try clear c8
    obtain ⟨x7_1, rfl, HA, HK1, HO_5, HO_6, HB⟩ := hrel
    cases gk with
    | zero => exact absurd HA.out (by simp [qt0os.l0])
    | succ k1 =>
     have H := HA.out
     clear HA
     simp only [qt0os.l0] at H
     by_cases c14 : x7_1 < (t105.length : Int)
     ·rw [if_pos c14] at H
      have c14b0 : decide (x7_1 < (t105.length : Int)) = true := decide_eq_true c14
      clear c14
      obtain ⟨ji15, hji15⟩ : ∃ j_ : Int, (wrap64 (x7_1 - 1)) = j_ := ⟨_, rfl⟩
      replace H : (if 0 ≤ (ji15) then (if (ji15) < (t105.length : Int) then (if 0 ≤ x7_1 then ((qoc.f (rdOf (0 : Nat) t105 (ji15)) (rdOf (0 : Nat) t105 x7_1)).bind fun t111 => (if t111 > 0 then (some false) else (qt0os.l0 k1 a1 t102 t105 (wrap64 (x7_1 + 1))))) else (none)) else (none)) else (none)) = some r := by first | (rw [hji15] at H; exact H) | (simp only [hji15] at H ⊢; exact H)
      have hji15w : (IntKind.i64.wrap (x7_1 - 1)) = ji15 := (i64_w _).trans hji15
      by_cases c16 : 0 ≤ (ji15)
      ·rw [if_pos c16] at H
       have c16b0 : decide (0 ≤ (ji15)) = true := decide_eq_true c16
       clear c16
       by_cases c17 : (ji15) < (t105.length : Int)
       ·rw [if_pos c17] at H
        have c17b0 : decide ((ji15) < (t105.length : Int)) = true := decide_eq_true c17
        clear c17
        by_cases c18 : 0 ≤ x7_1
        ·rw [if_pos c18] at H
         have c18b0 : decide (0 ≤ x7_1) = true := decide_eq_true c18
         clear c18
         replace H := Option.bind_eq_some_iff.mp H
         obtain ⟨t111, A190, H⟩ := H
         replace H : (if t111 > 0 then (some false) else (qt0os.l0 k1 a1 t102 t105 (wrap64 (x7_1 + 1)))) = some r := H
         have A19 := Zs.mk A190
         clear A190
         by_cases c20 : t111 > 0
         ·rw [if_pos c20] at H
          have c20b0 : decide (0 < t111) = true := decide_eq_true c20
          clear c20
          exact absurd (Option.some.inj H).symm hrt
         ·rw [if_neg c20] at H
          have c20b0 : decide (0 < t111) = false := decide_eq_false c20
          clear c20
          have H' := Zs.mk H
          clear H
          have p109 : 0 ≤ ((ji15) : Int) := of_decide_eq_true (by first | (with_reducible assumption) | assumption)
          have q109 : (ji15) < (t105.length : Int) := of_decide_eq_true (by first | (with_reducible assumption) | assumption)
          obtain ⟨ad109, e109, hx109_0⟩ := Kd.at_flo (Kd.R_reads' HO_6.out).2.2 (ji15) p109 q109
          cases e109
          replace p109 := eq_true p109
          replace q109 := eq_true q109
          have p110 : 0 ≤ (x7_1 : Int) := of_decide_eq_true (by first | (with_reducible assumption) | assumption)
          have q110 : x7_1 < (t105.length : Int) := of_decide_eq_true (by first | (with_reducible assumption) | assumption)
          obtain ⟨ad110, e110, hx110_0⟩ := Kd.at_flo (Kd.R_reads' HO_6.out).2.2 x7_1 p110 q110
          obtain rfl : ad109 = ad110 := (by injection e110)
          replace p110 := eq_true p110
          replace q110 := eq_true q110
          go_wp2_with (first | (go_at_call 52; (with_reducible refine (qoc.calls (rdOf (0 : Nat) t105 (ji15)) (rdOf (0 : Nat) t105 x7_1) t111 _ A19.out).mono ?_); rintro e w' ⟨rfl, ⟨nd, rfl⟩⟩; (try first | exact ⟨rfl, _, World.drewN_drewN _ _ _⟩ | exact ⟨rfl, _, Eq.trans (World.drewN_drewN _ _ _) (congrArg (World.drewN _) (Nat.add_assoc _ _ _))⟩)))
          repeat (go_quiet (first | (go_at_call 52; (with_reducible refine (qoc.calls (rdOf (0 : Nat) t105 (ji15)) (rdOf (0 : Nat) t105 x7_1) t111 _ A19.out).mono ?_); rintro e w' ⟨rfl, ⟨nd, rfl⟩⟩; (try first | exact ⟨rfl, _, World.drewN_drewN _ _ _⟩ | exact ⟨rfl, _, Eq.trans (World.drewN_drewN _ _ _) (congrArg (World.drewN _) (Nat.add_assoc _ _ _))⟩))); try go_wp2_with (first | (go_at_call 52; (with_reducible refine (qoc.calls (rdOf (0 : Nat) t105 (ji15)) (rdOf (0 : Nat) t105 x7_1) t111 _ A19.out).mono ?_); rintro e w' ⟨rfl, ⟨nd, rfl⟩⟩; (try first | exact ⟨rfl, _, World.drewN_drewN _ _ _⟩ | exact ⟨rfl, _, Eq.trans (World.drewN_drewN _ _ _) (congrArg (World.drewN _) (Nat.add_assoc _ _ _))⟩))))
          go_roundg k1
          case measure => have := HK1.out; omega
          case rel => exact ⟨(wrap64 (x7_1 + 1)), (by first | rfl | (simp; done) | (simp [*]; done)), H', ⟨by have := HK1.out; omega⟩, ⟨by (with_reducible repeat (first | apply Kd.R_alloc | apply Kd.R_drewN | apply Kd.R_drew)); exact HO_5.out⟩, ⟨by (with_reducible repeat (first | apply Kd.R_alloc | apply Kd.R_drewN | apply Kd.R_drew)); exact HO_6.out⟩, ⟨by repeat (first | (with_reducible first | exact HB.out | apply zA | apply zB | apply zC) | exact HB.out)⟩⟩
        ·rw [if_neg c18] at H
         exact absurd H (by simp)
       ·rw [if_neg c17] at H
        exact absurd H (by simp)
      ·rw [if_neg c16] at H
       exact absurd H (by simp)
     ·rw [if_neg c14] at H
      have c14b0 : decide (x7_1 < (t105.length : Int)) = false := decide_eq_false c14
      clear c14
      replace H := Option.bind_eq_some_iff.mp H
      obtain ⟨t112, A210, H⟩ := H
      replace H : (qt0os.l1 k1 a1 t102 t105 t112 0 0) = some r := H
      have A21 := Zs.mk A210
      clear A210
      have H' := Zs.mk H
      clear H
      go_wp2_with (first | (go_at_call 47; (with_reducible refine (qod.calls _ _ t102 t112 _ ?side1 ?side2 A21.out).mono ?_); (case side1 => repeat (first | exact (Kd.R_reads' HO_5.out).2.2 | (with_reducible refine Kd.C_alloc ?_ _) | (with_reducible refine Kd.C_drewN ?_ _) | (with_reducible refine Kd.C_drew ?_))); (case side2 => exact (Kd.R_reads' HO_5.out).2.1); rintro e w22 ⟨v113, rfl, ho0, hb⟩; have n0_ := Zs.mk (Kd.R_elder' (by (with_reducible repeat (first | apply Kd.R_alloc | apply Kd.R_drewN | apply Kd.R_drew)); exact HO_5.out) (Kd.R_base ho0) hb); have n1_ := Zs.mk (Kd.R_elder' (by (with_reducible repeat (first | apply Kd.R_alloc | apply Kd.R_drewN | apply Kd.R_drew)); exact HO_6.out) (Kd.R_base ho0) hb); have n2_ := Zs.mk (Kd.R_lower (Kd.R_new' (Kd.R_new' ho0 (Kd.R_lt (by (with_reducible repeat (first | apply Kd.R_alloc | apply Kd.R_drewN | apply Kd.R_drew)); exact HO_5.out))) (Kd.R_lt (by (with_reducible repeat (first | apply Kd.R_alloc | apply Kd.R_drewN | apply Kd.R_drew)); exact HO_6.out))) (below_size (by repeat (first | (with_reducible first | exact HB.out | apply zA | apply zB | apply zC) | exact HB.out)))); have n3_ := Zs.mk (below_step (by repeat (first | (with_reducible first | exact HB.out | apply zA | apply zB | apply zC) | exact HB.out)) hb); clear HO_5; clear HO_6; clear HB; have HO_5 := n0_; have HO_6 := n1_; have HO114 := n2_; have HB := n3_; clear n0_ n1_ n2_ n3_; (try clear hb); (try clear hb2); (try clear hk); (try clear hi); (try clear ho0)))
      repeat (go_quiet (first | (go_at_call 47; (with_reducible refine (qod.calls _ _ t102 t112 _ ?side1 ?side2 A21.out).mono ?_); (case side1 => repeat (first | exact (Kd.R_reads' HO_5.out).2.2 | (with_reducible refine Kd.C_alloc ?_ _) | (with_reducible refine Kd.C_drewN ?_ _) | (with_reducible refine Kd.C_drew ?_))); (case side2 => exact (Kd.R_reads' HO_5.out).2.1); rintro e w22 ⟨v113, rfl, ho0, hb⟩; have n0_ := Zs.mk (Kd.R_elder' (by (with_reducible repeat (first | apply Kd.R_alloc | apply Kd.R_drewN | apply Kd.R_drew)); exact HO_5.out) (Kd.R_base ho0) hb); have n1_ := Zs.mk (Kd.R_elder' (by (with_reducible repeat (first | apply Kd.R_alloc | apply Kd.R_drewN | apply Kd.R_drew)); exact HO_6.out) (Kd.R_base ho0) hb); have n2_ := Zs.mk (Kd.R_lower (Kd.R_new' (Kd.R_new' ho0 (Kd.R_lt (by (with_reducible repeat (first | apply Kd.R_alloc | apply Kd.R_drewN | apply Kd.R_drew)); exact HO_5.out))) (Kd.R_lt (by (with_reducible repeat (first | apply Kd.R_alloc | apply Kd.R_drewN | apply Kd.R_drew)); exact HO_6.out))) (below_size (by repeat (first | (with_reducible first | exact HB.out | apply zA | apply zB | apply zC) | exact HB.out)))); have n3_ := Zs.mk (below_step (by repeat (first | (with_reducible first | exact HB.out | apply zA | apply zB | apply zC) | exact HB.out)) hb); clear HO_5; clear HO_6; clear HB; have HO_5 := n0_; have HO_6 := n1_; have HO114 := n2_; have HB := n3_; clear n0_ n1_ n2_ n3_; (try clear hb); (try clear hb2); (try clear hk); (try clear hi); (try clear ho0))); try go_wp2_with (first | (go_at_call 47; (with_reducible refine (qod.calls _ _ t102 t112 _ ?side1 ?side2 A21.out).mono ?_); (case side1 => repeat (first | exact (Kd.R_reads' HO_5.out).2.2 | (with_reducible refine Kd.C_alloc ?_ _) | (with_reducible refine Kd.C_drewN ?_ _) | (with_reducible refine Kd.C_drew ?_))); (case side2 => exact (Kd.R_reads' HO_5.out).2.1); rintro e w22 ⟨v113, rfl, ho0, hb⟩; have n0_ := Zs.mk (Kd.R_elder' (by (with_reducible repeat (first | apply Kd.R_alloc | apply Kd.R_drewN | apply Kd.R_drew)); exact HO_5.out) (Kd.R_base ho0) hb); have n1_ := Zs.mk (Kd.R_elder' (by (with_reducible repeat (first | apply Kd.R_alloc | apply Kd.R_drewN | apply Kd.R_drew)); exact HO_6.out) (Kd.R_base ho0) hb); have n2_ := Zs.mk (Kd.R_lower (Kd.R_new' (Kd.R_new' ho0 (Kd.R_lt (by (with_reducible repeat (first | apply Kd.R_alloc | apply Kd.R_drewN | apply Kd.R_drew)); exact HO_5.out))) (Kd.R_lt (by (with_reducible repeat (first | apply Kd.R_alloc | apply Kd.R_drewN | apply Kd.R_drew)); exact HO_6.out))) (below_size (by repeat (first | (with_reducible first | exact HB.out | apply zA | apply zB | apply zC) | exact HB.out)))); have n3_ := Zs.mk (below_step (by repeat (first | (with_reducible first | exact HB.out | apply zA | apply zB | apply zC) | exact HB.out)) hb); clear HO_5; clear HO_6; clear HB; have HO_5 := n0_; have HO_6 := n1_; have HO114 := n2_; have HB := n3_; clear n0_ n1_ n2_ n3_; (try clear hb); (try clear hb2); (try clear hk); (try clear hi); (try clear ho0))))
      go_loopg [9, 10] k1 (fun kq v9 v10 w' => ∃ (x9_2 : Int) (x10_2 : Int), v9 = .int .i64 x9_2 ∧ v10 = .int .i64 x10_2 ∧ Zs (qt0os.l1 kq a1 t102 t105 t112 x9_2 x10_2 = some r) ∧ Zs (kq ≤ k1) ∧ Zs (Kd.R (Kd.scalar (Value.float .f64) (fun _ => rfl)) 23 w' w.heap.size (fun k_ => some k_ ≠ ((.slice Ao12 t105.length co12) : Value).ownBlock ∧ some k_ ≠ (v113 : Value).ownBlock) (.slice Ao10 t102.length co10) t102) ∧ Zs (Kd.R (Kd.scalar (Value.float .f64) (fun _ => rfl)) 23 w' w.heap.size (fun k_ => some k_ ≠ ((.slice Ao10 t102.length co10) : Value).ownBlock ∧ some k_ ≠ (v113 : Value).ownBlock) (.slice Ao12 t105.length co12) t105) ∧ Zs (Kd.R (Kd.scalar (Value.float .f64) (fun _ => rfl)) 23 w' w.heap.size (fun k_ => some k_ ≠ ((.slice Ao10 t102.length co10) : Value).ownBlock ∧ some k_ ≠ ((.slice Ao12 t105.length co12) : Value).ownBlock) v113 t112) ∧ Zs (Below w.heap.size w w'))
      case atStart => exact ⟨(0), (0), (by first | rfl | (simp; done) | (simp [*]; done)), (by first | rfl | (simp; done) | (simp [*]; done)), H', ⟨Nat.le_refl _⟩, ⟨by (with_reducible repeat (first | apply Kd.R_alloc | apply Kd.R_drewN | apply Kd.R_drew)); exact HO_5.out⟩, ⟨by (with_reducible repeat (first | apply Kd.R_alloc | apply Kd.R_drewN | apply Kd.R_drew)); exact HO_6.out⟩, ⟨by (with_reducible repeat (first | apply Kd.R_alloc | apply Kd.R_drewN | apply Kd.R_drew)); exact Kd.R_mono HO114.out (fun _ hk => ⟨hk.1.2, hk.2⟩)⟩, ⟨by repeat (first | (with_reducible first | exact HB.out | apply zA | apply zB | apply zC) | exact HB.out)⟩⟩
      case round =>
       clear H'
       try clear c4; try clear c8; try clear c14; try clear c14b0; try clear c16; try clear c16b0; try clear c17; try clear c17b0; try clear c18; try clear c18b0; try clear c20; try clear c20b0; try clear hx109_0; try clear hx110_0; try clear p109; try clear p110; try clear q109; try clear q110
       obtain ⟨x9_2, x10_2, rfl, rfl, HA, HK2, HO_5, HO_6, HO_8, HB⟩ := hrel
       cases gk with
       | zero => exact absurd HA.out (by simp [qt0os.l1])
       | succ k2 =>
        have H := HA.out
        clear HA
        simp only [qt0os.l1] at H
        by_cases c23 : x10_2 < (t105.length : Int)
        ·rw [if_pos c23] at H
         have c23b0 : decide (x10_2 < (t105.length : Int)) = true := decide_eq_true c23
         clear c23
         have HC24 := Zs.mk H
         clear H
         go_upto_region 17 with (fail)
         repeat (go_quiet (fail); go_upto_region 17 with (fail))
         go_cut [73] (fun v73 wc => ∃ (kq : Nat) (x73_23 : Bool), v73 = .bool x73_23 ∧ Zs (qt0os.j2 kq a1 t102 t105 t112 x9_2 x10_2 x73_23 = some r) ∧ Zs (kq ≤ k2) ∧ Zs (Kd.R (Kd.scalar (Value.float .f64) (fun _ => rfl)) 23 wc w.heap.size (fun k_ => some k_ ≠ ((.slice Ao12 t105.length co12) : Value).ownBlock ∧ some k_ ≠ (v113 : Value).ownBlock) (.slice Ao10 t102.length co10) t102) ∧ Zs (Kd.R (Kd.scalar (Value.float .f64) (fun _ => rfl)) 23 wc w.heap.size (fun k_ => some k_ ≠ ((.slice Ao10 t102.length co10) : Value).ownBlock ∧ some k_ ≠ (v113 : Value).ownBlock) (.slice Ao12 t105.length co12) t105) ∧ Zs (Kd.R (Kd.scalar (Value.float .f64) (fun _ => rfl)) 23 wc w.heap.size (fun k_ => some k_ ≠ ((.slice Ao10 t102.length co10) : Value).ownBlock ∧ some k_ ≠ ((.slice Ao12 t105.length co12) : Value).ownBlock) v113 t112) ∧ Zs (Below w.heap.size w wc))
         case first =>
          have H := HC24.out
          clear HC24
          by_cases c25 : 0 ≤ x10_2
          ·rw [if_pos c25] at H
           have c25b0 : decide (0 ≤ x10_2) = true := decide_eq_true c25
           clear c25
           (first | rw [c25b0] | (simp only [i64_w, i32_w]; rw [c25b0]) | skip)
           by_cases c26 : ((FloatKind.format .f64).order (rdOf (0 : Nat) t105 x10_2) (rdOf (0 : Nat) t105 x10_2) != some .eq) = true
           ·rw [if_pos c26] at H
            have c26b0 : ((FloatKind.format .f64).order (rdOf (0 : Nat) t105 x10_2) (rdOf (0 : Nat) t105 x10_2) != some .eq) = true := c26
            (try (have c26b1 : decide ((FloatKind.format .f64).order (rdOf (0 : Nat) t105 x10_2) (rdOf (0 : Nat) t105 x10_2) = some .eq) = false := by simpa using c26))
            (try (have c26b2 : ((FloatKind.format .f64).order (rdOf (0 : Nat) t105 x10_2) (rdOf (0 : Nat) t105 x10_2) == some .eq) = false := by simpa using c26))
            (try (have c26b3 : ¬ ((FloatKind.format .f64).order (rdOf (0 : Nat) t105 x10_2) (rdOf (0 : Nat) t105 x10_2) = some .eq) := by simpa using c26))
            clear c26
            have H' := Zs.mk H
            clear H
            have p115 : 0 ≤ (x10_2 : Int) := of_decide_eq_true (by first | (with_reducible assumption) | assumption)
            have q115 : x10_2 < (t105.length : Int) := of_decide_eq_true (by first | (with_reducible assumption) | assumption)
            obtain ⟨ad115, e115, hx115_0⟩ := Kd.at_flo (Kd.R_reads' HO_6.out).2.2 x10_2 p115 q115
            cases e115
            replace p115 := eq_true p115
            replace q115 := eq_true q115
            have p116 : 0 ≤ (x10_2 : Int) := of_decide_eq_true (by first | (with_reducible assumption) | assumption)
            have q116 : x10_2 < (t105.length : Int) := of_decide_eq_true (by first | (with_reducible assumption) | assumption)
            obtain ⟨ad116, e116, hx116_0⟩ := Kd.at_flo (Kd.R_reads' HO_6.out).2.2 x10_2 p116 q116
            obtain rfl : ad115 = ad116 := (by injection e116)
            replace p116 := eq_true p116
            replace q116 := eq_true q116
            go_wp2
            repeat (go_quiet (fail); try go_wp2)
            go_meet
            case rel => exact ⟨_, (true), (by first | rfl | (simp; done) | (simp [*]; done)), H', ⟨by have := HK1.out; have := HK2.out; first | omega | exact Nat.le_refl _⟩, ⟨by (with_reducible repeat (first | apply Kd.R_alloc | apply Kd.R_drewN | apply Kd.R_drew)); exact HO_5.out⟩, ⟨by (with_reducible repeat (first | apply Kd.R_alloc | apply Kd.R_drewN | apply Kd.R_drew)); exact HO_6.out⟩, ⟨by (with_reducible repeat (first | apply Kd.R_alloc | apply Kd.R_drewN | apply Kd.R_drew)); exact HO_8.out⟩, ⟨by repeat (first | (with_reducible first | exact HB.out | apply zA | apply zB | apply zC) | exact HB.out)⟩⟩
           ·rw [if_neg c26] at H
            have c26b0 : ((FloatKind.format .f64).order (rdOf (0 : Nat) t105 x10_2) (rdOf (0 : Nat) t105 x10_2) != some .eq) = false := by simpa using c26
            (try (have c26b1 : decide ((FloatKind.format .f64).order (rdOf (0 : Nat) t105 x10_2) (rdOf (0 : Nat) t105 x10_2) = some .eq) = true := by simpa using c26))
            (try (have c26b2 : ((FloatKind.format .f64).order (rdOf (0 : Nat) t105 x10_2) (rdOf (0 : Nat) t105 x10_2) == some .eq) = true := by simpa using c26))
            clear c26
            by_cases c27 : x10_2 > 0
            ·rw [if_pos c27] at H
             have c27b0 : decide (0 < x10_2) = true := decide_eq_true c27
             clear c27
             obtain ⟨ji28, hji28⟩ : ∃ j_ : Int, (wrap64 (x10_2 - 1)) = j_ := ⟨_, rfl⟩
             replace H : (if 0 ≤ (ji28) then (if (ji28) < (t105.length : Int) then (qt0os.j2 k2 a1 t102 t105 t112 x9_2 x10_2 ((FloatKind.format .f64).order (rdOf (0 : Nat) t105 x10_2) (rdOf (0 : Nat) t105 (ji28)) == some .eq)) else (none)) else (none)) = some r := by first | (rw [hji28] at H; exact H) | (simp only [hji28] at H ⊢; exact H)
             have hji28w : (IntKind.i64.wrap (x10_2 - 1)) = ji28 := (i64_w _).trans hji28
             by_cases c29 : 0 ≤ (ji28)
             ·rw [if_pos c29] at H
              have c29b0 : decide (0 ≤ (ji28)) = true := decide_eq_true c29
              clear c29
              by_cases c30 : (ji28) < (t105.length : Int)
              ·rw [if_pos c30] at H
               have c30b0 : decide ((ji28) < (t105.length : Int)) = true := decide_eq_true c30
               clear c30
               have H' := Zs.mk H
               clear H
               have p115 : 0 ≤ (x10_2 : Int) := of_decide_eq_true (by first | (with_reducible assumption) | assumption)
               have q115 : x10_2 < (t105.length : Int) := of_decide_eq_true (by first | (with_reducible assumption) | assumption)
               obtain ⟨ad115, e115, hx115_0⟩ := Kd.at_flo (Kd.R_reads' HO_6.out).2.2 x10_2 p115 q115
               cases e115
               replace p115 := eq_true p115
               replace q115 := eq_true q115
               have p116 : 0 ≤ (x10_2 : Int) := of_decide_eq_true (by first | (with_reducible assumption) | assumption)
               have q116 : x10_2 < (t105.length : Int) := of_decide_eq_true (by first | (with_reducible assumption) | assumption)
               obtain ⟨ad116, e116, hx116_0⟩ := Kd.at_flo (Kd.R_reads' HO_6.out).2.2 x10_2 p116 q116
               obtain rfl : ad115 = ad116 := (by injection e116)
               replace p116 := eq_true p116
               replace q116 := eq_true q116
               have p117 : 0 ≤ (x10_2 : Int) := of_decide_eq_true (by first | (with_reducible assumption) | assumption)
               have q117 : x10_2 < (t105.length : Int) := of_decide_eq_true (by first | (with_reducible assumption) | assumption)
               obtain ⟨ad117, e117, hx117_0⟩ := Kd.at_flo (Kd.R_reads' HO_6.out).2.2 x10_2 p117 q117
               obtain rfl : ad115 = ad117 := (by injection e117)
               replace p117 := eq_true p117
               replace q117 := eq_true q117
               have p118 : 0 ≤ ((ji28) : Int) := of_decide_eq_true (by first | (with_reducible assumption) | assumption)
               have q118 : (ji28) < (t105.length : Int) := of_decide_eq_true (by first | (with_reducible assumption) | assumption)
               obtain ⟨ad118, e118, hx118_0⟩ := Kd.at_flo (Kd.R_reads' HO_6.out).2.2 (ji28) p118 q118
               obtain rfl : ad115 = ad118 := (by injection e118)
               replace p118 := eq_true p118
               replace q118 := eq_true q118
               go_wp2
               repeat (go_quiet (fail); try go_wp2)
               go_meet
               case rel => exact ⟨_, (((FloatKind.format .f64).order (rdOf (0 : Nat) t105 x10_2) (rdOf (0 : Nat) t105 (ji28)) == some .eq)), (by first | rfl | (simp; done) | (simp only [← hji28] <;> (first | rfl | simp)) | (simp [*]; done)), H', ⟨by have := HK1.out; have := HK2.out; first | omega | exact Nat.le_refl _⟩, ⟨by (with_reducible repeat (first | apply Kd.R_alloc | apply Kd.R_drewN | apply Kd.R_drew)); exact HO_5.out⟩, ⟨by (with_reducible repeat (first | apply Kd.R_alloc | apply Kd.R_drewN | apply Kd.R_drew)); exact HO_6.out⟩, ⟨by (with_reducible repeat (first | apply Kd.R_alloc | apply Kd.R_drewN | apply Kd.R_drew)); exact HO_8.out⟩, ⟨by repeat (first | (with_reducible first | exact HB.out | apply zA | apply zB | apply zC) | exact HB.out)⟩⟩
              ·rw [if_neg c30] at H
               exact absurd H (by simp)
             ·rw [if_neg c29] at H
              exact absurd H (by simp)
            ·rw [if_neg c27] at H
             have c27b0 : decide (0 < x10_2) = false := decide_eq_false c27
             clear c27
             have H' := Zs.mk H
             clear H
             have p115 : 0 ≤ (x10_2 : Int) := of_decide_eq_true (by first | (with_reducible assumption) | assumption)
             have q115 : x10_2 < (t105.length : Int) := of_decide_eq_true (by first | (with_reducible assumption) | assumption)
             obtain ⟨ad115, e115, hx115_0⟩ := Kd.at_flo (Kd.R_reads' HO_6.out).2.2 x10_2 p115 q115
             cases e115
             replace p115 := eq_true p115
             replace q115 := eq_true q115
             have p116 : 0 ≤ (x10_2 : Int) := of_decide_eq_true (by first | (with_reducible assumption) | assumption)
             have q116 : x10_2 < (t105.length : Int) := of_decide_eq_true (by first | (with_reducible assumption) | assumption)
             obtain ⟨ad116, e116, hx116_0⟩ := Kd.at_flo (Kd.R_reads' HO_6.out).2.2 x10_2 p116 q116
             obtain rfl : ad115 = ad116 := (by injection e116)
             replace p116 := eq_true p116
             replace q116 := eq_true q116
             go_wp2
             repeat (go_quiet (fail); try go_wp2)
             go_meet
             case rel => exact ⟨_, (false), (by first | rfl | (simp; done) | (simp [*]; done)), H', ⟨by have := HK1.out; have := HK2.out; first | omega | exact Nat.le_refl _⟩, ⟨by (with_reducible repeat (first | apply Kd.R_alloc | apply Kd.R_drewN | apply Kd.R_drew)); exact HO_5.out⟩, ⟨by (with_reducible repeat (first | apply Kd.R_alloc | apply Kd.R_drewN | apply Kd.R_drew)); exact HO_6.out⟩, ⟨by (with_reducible repeat (first | apply Kd.R_alloc | apply Kd.R_drewN | apply Kd.R_drew)); exact HO_8.out⟩, ⟨by repeat (first | (with_reducible first | exact HB.out | apply zA | apply zB | apply zC) | exact HB.out)⟩⟩
          ·rw [if_neg c25] at H
           exact absurd H (by simp)
         case rest =>
          clear HC24
          try clear c4; try clear c8; try clear c14; try clear c14b0; try clear c16; try clear c16b0; try clear c17; try clear c17b0; try clear c18; try clear c18b0; try clear c20; try clear c20b0; try clear c23; try clear c23b0; try clear c25; try clear c25b0; try clear c26; try clear c26b0; try clear c26b1; try clear c26b2; try clear c27; try clear c27b0; try clear c29; try clear c29b0; try clear c30; try clear c30b0; try clear hx109_0; try clear hx110_0; try clear hx115_0; try clear hx116_0; try clear hx117_0; try clear hx118_0; try clear p109; try clear p110; try clear p115; try clear p116; try clear p117; try clear p118; try clear q109; try clear q110; try clear q115; try clear q116; try clear q117; try clear q118
          obtain ⟨kq, x73_23, rfl, HA, HJ23, HO_5, HO_6, HO_8, HB⟩ := hcut
          cases kq with
          | zero => exact absurd HA.out (by simp [qt0os.j2])
          | succ kj23 =>
           have H := HA.out
           clear HA
           simp only [qt0os.j2] at H
           by_cases c31 : x73_23 = true
           ·subst c31
            have H1 : (qt0os.l1 kj23 a1 t102 t105 t112 x9_2 (wrap64 (x10_2 + 1))) = some r := by rw [if_pos rfl] at H; exact H
            clear H
            have H := H1
            clear H1
            have H' := Zs.mk H
            clear H
            go_wp2
            repeat (go_quiet (fail); try go_wp2)
            go_roundg kj23
            case measure => have := HK1.out; have := HK2.out; have := HJ23.out; omega
            case rel => exact ⟨(x9_2), (wrap64 (x10_2 + 1)), (by first | rfl | (simp; done) | (simp [*]; done)), (by first | rfl | (simp; done) | (simp [*]; done)), H', ⟨by have := HK1.out; have := HK2.out; have := HJ23.out; omega⟩, ⟨by (with_reducible repeat (first | apply Kd.R_alloc | apply Kd.R_drewN | apply Kd.R_drew)); exact HO_5.out⟩, ⟨by (with_reducible repeat (first | apply Kd.R_alloc | apply Kd.R_drewN | apply Kd.R_drew)); exact HO_6.out⟩, ⟨by (with_reducible repeat (first | apply Kd.R_alloc | apply Kd.R_drewN | apply Kd.R_drew)); exact HO_8.out⟩, ⟨by repeat (first | (with_reducible first | exact HB.out | apply zA | apply zB | apply zC) | exact HB.out)⟩⟩
           ·replace c31 := Bool.eq_false_iff.mpr c31
            subst c31
            have H1 : (if x9_2 = (t112.length : Int) then (some false) else (if 0 ≤ x9_2 then (if x9_2 < (t112.length : Int) then (if 0 ≤ x10_2 then (if x10_2 < (t105.length : Int) then (if ((FloatKind.format .f64).order (rdOf (0 : Nat) t112 x9_2) (rdOf (0 : Nat) t105 x10_2) != some .eq) = true then (some false) else (if ((FloatKind.format .f64).order (rdOf (0 : Nat) t112 x9_2) 0 == some .eq) = true then ((qms.f (rdOf (0 : Nat) t112 x9_2)).bind fun t123 => (if t123 = true then (some false) else (qt0os.l1 kj23 a1 t102 t105 t112 (wrap64 (x9_2 + 1)) (wrap64 (x10_2 + 1))))) else (qt0os.l1 kj23 a1 t102 t105 t112 (wrap64 (x9_2 + 1)) (wrap64 (x10_2 + 1))))) else (none)) else (none)) else (none)) else (none))) = some r := by rw [if_neg (show ¬ (false = true) by decide)] at H; exact H
            clear H
            have H := H1
            clear H1
            by_cases c32 : x9_2 = (t112.length : Int)
            ·rw [if_pos c32] at H
             have c32b0 : (x9_2 == (t112.length : Int)) = true := beq_iff_eq.mpr c32
             have c32b1 : (x9_2 != (t112.length : Int)) = false := bne_eq_false_iff_eq.mpr c32
             clear c32
             exact absurd (Option.some.inj H).symm hrt
            ·rw [if_neg c32] at H
             have c32b0 : (x9_2 == (t112.length : Int)) = false := beq_eq_false_iff_ne.mpr c32
             have c32b1 : (x9_2 != (t112.length : Int)) = true := bne_iff_ne.mpr c32
             by_cases c34 : 0 ≤ x9_2
             ·rw [if_pos c34] at H
              have c34b0 : decide (0 ≤ x9_2) = true := decide_eq_true c34
              clear c34
              by_cases c35 : x9_2 < (t112.length : Int)
              ·rw [if_pos c35] at H
               have c35b0 : decide (x9_2 < (t112.length : Int)) = true := decide_eq_true c35
               clear c35
               by_cases c36 : 0 ≤ x10_2
               ·rw [if_pos c36] at H
                have c36b0 : decide (0 ≤ x10_2) = true := decide_eq_true c36
                clear c36
                by_cases c37 : x10_2 < (t105.length : Int)
                ·rw [if_pos c37] at H
                 have c37b0 : decide (x10_2 < (t105.length : Int)) = true := decide_eq_true c37
                 clear c37
                 by_cases c38 : ((FloatKind.format .f64).order (rdOf (0 : Nat) t112 x9_2) (rdOf (0 : Nat) t105 x10_2) != some .eq) = true
                 ·rw [if_pos c38] at H
                  have c38b0 : ((FloatKind.format .f64).order (rdOf (0 : Nat) t112 x9_2) (rdOf (0 : Nat) t105 x10_2) != some .eq) = true := c38
                  (try (have c38b1 : decide ((FloatKind.format .f64).order (rdOf (0 : Nat) t112 x9_2) (rdOf (0 : Nat) t105 x10_2) = some .eq) = false := by simpa using c38))
                  (try (have c38b2 : ((FloatKind.format .f64).order (rdOf (0 : Nat) t112 x9_2) (rdOf (0 : Nat) t105 x10_2) == some .eq) = false := by simpa using c38))
                  (try (have c38b3 : ¬ ((FloatKind.format .f64).order (rdOf (0 : Nat) t112 x9_2) (rdOf (0 : Nat) t105 x10_2) = some .eq) := by simpa using c38))
                  clear c38
                  exact absurd (Option.some.inj H).symm hrt
                 ·rw [if_neg c38] at H
                  have c38b0 : ((FloatKind.format .f64).order (rdOf (0 : Nat) t112 x9_2) (rdOf (0 : Nat) t105 x10_2) != some .eq) = false := by simpa using c38
                  (try (have c38b1 : decide ((FloatKind.format .f64).order (rdOf (0 : Nat) t112 x9_2) (rdOf (0 : Nat) t105 x10_2) = some .eq) = true := by simpa using c38))
                  (try (have c38b2 : ((FloatKind.format .f64).order (rdOf (0 : Nat) t112 x9_2) (rdOf (0 : Nat) t105 x10_2) == some .eq) = true := by simpa using c38))
                  clear c38
                  by_cases c40 : ((FloatKind.format .f64).order (rdOf (0 : Nat) t112 x9_2) 0 == some .eq) = true
                  ·rw [if_pos c40] at H
                   have c40b0 : ((FloatKind.format .f64).order (rdOf (0 : Nat) t112 x9_2) 0 == some .eq) = true := c40
                   (try (have c40b1 : decide ((FloatKind.format .f64).order (rdOf (0 : Nat) t112 x9_2) 0 = some .eq) = true := by simpa using c40))
                   (try (have c40b2 : ((FloatKind.format .f64).order (rdOf (0 : Nat) t112 x9_2) 0 == some .eq) = true := by simpa using c40))
                   clear c40
                   replace H := Option.bind_eq_some_iff.mp H
                   obtain ⟨t123, A410, H⟩ := H
                   replace H : (if t123 = true then (some false) else (qt0os.l1 kj23 a1 t102 t105 t112 (wrap64 (x9_2 + 1)) (wrap64 (x10_2 + 1)))) = some r := H
                   have A41 := Zs.mk A410
                   clear A410
                   by_cases c42 : t123 = true
                   ·subst c42
                    have H1 : (some false) = some r := by rw [if_pos rfl] at H; exact H
                    clear H
                    have H := H1
                    clear H1
                    exact absurd (Option.some.inj H).symm hrt
                   ·replace c42 := Bool.eq_false_iff.mpr c42
                    subst c42
                    have H1 : (qt0os.l1 kj23 a1 t102 t105 t112 (wrap64 (x9_2 + 1)) (wrap64 (x10_2 + 1))) = some r := by rw [if_neg (show ¬ (false = true) by decide)] at H; exact H
                    clear H
                    have H := H1
                    clear H1
                    have H' := Zs.mk H
                    clear H
                    obtain ⟨Ao44, co44, eo44⟩ := Kd.R_slice HO_8.out
                    subst eo44
                    have p119 : 0 ≤ (x9_2 : Int) := of_decide_eq_true (by first | (with_reducible assumption) | assumption)
                    have q119 : x9_2 < (t112.length : Int) := of_decide_eq_true (by first | (with_reducible assumption) | assumption)
                    obtain ⟨ad119, e119, hx119_0⟩ := Kd.at_flo (Kd.R_reads' HO_8.out).2.2 x9_2 p119 q119
                    cases e119
                    replace p119 := eq_true p119
                    replace q119 := eq_true q119
                    have p120 : 0 ≤ (x10_2 : Int) := of_decide_eq_true (by first | (with_reducible assumption) | assumption)
                    have q120 : x10_2 < (t105.length : Int) := of_decide_eq_true (by first | (with_reducible assumption) | assumption)
                    obtain ⟨ad120, e120, hx120_0⟩ := Kd.at_flo (Kd.R_reads' HO_6.out).2.2 x10_2 p120 q120
                    cases e120
                    replace p120 := eq_true p120
                    replace q120 := eq_true q120
                    have p121 : 0 ≤ (x9_2 : Int) := of_decide_eq_true (by first | (with_reducible assumption) | assumption)
                    have q121 : x9_2 < (t112.length : Int) := of_decide_eq_true (by first | (with_reducible assumption) | assumption)
                    obtain ⟨ad121, e121, hx121_0⟩ := Kd.at_flo (Kd.R_reads' HO_8.out).2.2 x9_2 p121 q121
                    obtain rfl : ad119 = ad121 := (by injection e121)
                    replace p121 := eq_true p121
                    replace q121 := eq_true q121
                    have p122 : 0 ≤ (x9_2 : Int) := of_decide_eq_true (by first | (with_reducible assumption) | assumption)
                    have q122 : x9_2 < (t112.length : Int) := of_decide_eq_true (by first | (with_reducible assumption) | assumption)
                    obtain ⟨ad122, e122, hx122_0⟩ := Kd.at_flo (Kd.R_reads' HO_8.out).2.2 x9_2 p122 q122
                    obtain rfl : ad119 = ad122 := (by injection e122)
                    replace p122 := eq_true p122
                    replace q122 := eq_true q122
                    go_wp2_with (first | (go_at_call 53; (with_reducible refine (qms.calls (rdOf (0 : Nat) t112 x9_2) false _ A41.out).mono ?_); rintro e w' ⟨rfl, ⟨nd, rfl⟩⟩; (try first | exact ⟨rfl, _, World.drewN_drewN _ _ _⟩ | exact ⟨rfl, _, Eq.trans (World.drewN_drewN _ _ _) (congrArg (World.drewN _) (Nat.add_assoc _ _ _))⟩)))
                    repeat (go_quiet (first | (go_at_call 53; (with_reducible refine (qms.calls (rdOf (0 : Nat) t112 x9_2) false _ A41.out).mono ?_); rintro e w' ⟨rfl, ⟨nd, rfl⟩⟩; (try first | exact ⟨rfl, _, World.drewN_drewN _ _ _⟩ | exact ⟨rfl, _, Eq.trans (World.drewN_drewN _ _ _) (congrArg (World.drewN _) (Nat.add_assoc _ _ _))⟩))); try go_wp2_with (first | (go_at_call 53; (with_reducible refine (qms.calls (rdOf (0 : Nat) t112 x9_2) false _ A41.out).mono ?_); rintro e w' ⟨rfl, ⟨nd, rfl⟩⟩; (try first | exact ⟨rfl, _, World.drewN_drewN _ _ _⟩ | exact ⟨rfl, _, Eq.trans (World.drewN_drewN _ _ _) (congrArg (World.drewN _) (Nat.add_assoc _ _ _))⟩))))
                    go_roundg kj23
                    case measure => have := HK1.out; have := HK2.out; have := HJ23.out; omega
                    case rel => exact ⟨(wrap64 (x9_2 + 1)), (wrap64 (x10_2 + 1)), (by first | rfl | (simp; done) | (simp [*]; done)), (by first | rfl | (simp; done) | (simp [*]; done)), H', ⟨by have := HK1.out; have := HK2.out; have := HJ23.out; omega⟩, ⟨by (with_reducible repeat (first | apply Kd.R_alloc | apply Kd.R_drewN | apply Kd.R_drew)); exact HO_5.out⟩, ⟨by (with_reducible repeat (first | apply Kd.R_alloc | apply Kd.R_drewN | apply Kd.R_drew)); exact HO_6.out⟩, ⟨by (with_reducible repeat (first | apply Kd.R_alloc | apply Kd.R_drewN | apply Kd.R_drew)); exact HO_8.out⟩, ⟨by repeat (first | (with_reducible first | exact HB.out | apply zA | apply zB | apply zC) | exact HB.out)⟩⟩
                  ·rw [if_neg c40] at H
                   have c40b0 : ((FloatKind.format .f64).order (rdOf (0 : Nat) t112 x9_2) 0 == some .eq) = false := by simpa using c40
                   (try (have c40b1 : decide ((FloatKind.format .f64).order (rdOf (0 : Nat) t112 x9_2) 0 = some .eq) = false := by simpa using c40))
                   (try (have c40b2 : ((FloatKind.format .f64).order (rdOf (0 : Nat) t112 x9_2) 0 == some .eq) = false := by simpa using c40))
                   (try (have c40b3 : ¬ ((FloatKind.format .f64).order (rdOf (0 : Nat) t112 x9_2) 0 = some .eq) := by simpa using c40))
                   clear c40
                   have H' := Zs.mk H
                   clear H
                   obtain ⟨Ao45, co45, eo45⟩ := Kd.R_slice HO_8.out
                   subst eo45
                   have p119 : 0 ≤ (x9_2 : Int) := of_decide_eq_true (by first | (with_reducible assumption) | assumption)
                   have q119 : x9_2 < (t112.length : Int) := of_decide_eq_true (by first | (with_reducible assumption) | assumption)
                   obtain ⟨ad119, e119, hx119_0⟩ := Kd.at_flo (Kd.R_reads' HO_8.out).2.2 x9_2 p119 q119
                   cases e119
                   replace p119 := eq_true p119
                   replace q119 := eq_true q119
                   have p120 : 0 ≤ (x10_2 : Int) := of_decide_eq_true (by first | (with_reducible assumption) | assumption)
                   have q120 : x10_2 < (t105.length : Int) := of_decide_eq_true (by first | (with_reducible assumption) | assumption)
                   obtain ⟨ad120, e120, hx120_0⟩ := Kd.at_flo (Kd.R_reads' HO_6.out).2.2 x10_2 p120 q120
                   cases e120
                   replace p120 := eq_true p120
                   replace q120 := eq_true q120
                   have p121 : 0 ≤ (x9_2 : Int) := of_decide_eq_true (by first | (with_reducible assumption) | assumption)
                   have q121 : x9_2 < (t112.length : Int) := of_decide_eq_true (by first | (with_reducible assumption) | assumption)
                   obtain ⟨ad121, e121, hx121_0⟩ := Kd.at_flo (Kd.R_reads' HO_8.out).2.2 x9_2 p121 q121
                   obtain rfl : ad119 = ad121 := (by injection e121)
                   replace p121 := eq_true p121
                   replace q121 := eq_true q121
                   go_wp2
                   repeat (go_quiet (fail); try go_wp2)
                   go_roundg kj23
                   case measure => have := HK1.out; have := HK2.out; have := HJ23.out; omega
                   case rel => exact ⟨(wrap64 (x9_2 + 1)), (wrap64 (x10_2 + 1)), (by first | rfl | (simp; done) | (simp [*]; done)), (by first | rfl | (simp; done) | (simp [*]; done)), H', ⟨by have := HK1.out; have := HK2.out; have := HJ23.out; omega⟩, ⟨by (with_reducible repeat (first | apply Kd.R_alloc | apply Kd.R_drewN | apply Kd.R_drew)); exact HO_5.out⟩, ⟨by (with_reducible repeat (first | apply Kd.R_alloc | apply Kd.R_drewN | apply Kd.R_drew)); exact HO_6.out⟩, ⟨by (with_reducible repeat (first | apply Kd.R_alloc | apply Kd.R_drewN | apply Kd.R_drew)); exact HO_8.out⟩, ⟨by repeat (first | (with_reducible first | exact HB.out | apply zA | apply zB | apply zC) | exact HB.out)⟩⟩
                ·rw [if_neg c37] at H
                 exact absurd H (by simp)
               ·rw [if_neg c36] at H
                exact absurd H (by simp)
              ·rw [if_neg c35] at H
               exact absurd H (by simp)
             ·rw [if_neg c34] at H
              exact absurd H (by simp)
        ·rw [if_neg c23] at H
         have c23b0 : decide (x10_2 < (t105.length : Int)) = false := decide_eq_false c23
         clear c23
         replace H := Option.bind_eq_some_iff.mp H
         obtain ⟨t124, A460, H⟩ := H
         replace H : (if x9_2 = (t112.length : Int) then (if t124 < 0 then (qt0os.j3 k2 t105 a1.toNat t124 true) else (if t124 > (t105.length : Int) then (qt0os.j3 k2 t105 a1.toNat t124 true) else ((qob.f k2 t102 a1.toNat).bind fun t125 => (qt0os.j3 k2 t105 a1.toNat t124 (t125 != t124))))) else (qt0os.j3 k2 t105 a1.toNat t124 true)) = some r := H
         have A46 := Zs.mk A460
         clear A460
         have HC47 := Zs.mk H
         clear H
         go_upto_region 23 with (first | (go_at_call 49; (with_reducible refine (qob.calls k2 _ _ t105 a1.toNat t124 _ ?side1 ?side2 A46.out).mono ?_); (case side1 => repeat (first | exact (Kd.R_reads' HO_6.out).2.2 | (with_reducible refine Kd.C_alloc ?_ _) | (with_reducible refine Kd.C_drewN ?_ _) | (with_reducible refine Kd.C_drew ?_))); (case side2 => exact (Kd.R_reads' HO_6.out).2.1); rintro e w' ⟨rfl, ⟨nd, rfl⟩⟩; (try first | exact ⟨rfl, _, World.drewN_drewN _ _ _⟩ | exact ⟨rfl, _, Eq.trans (World.drewN_drewN _ _ _) (congrArg (World.drewN _) (Nat.add_assoc _ _ _))⟩)))
         repeat (go_quiet (first | (go_at_call 49; (with_reducible refine (qob.calls k2 _ _ t105 a1.toNat t124 _ ?side1 ?side2 A46.out).mono ?_); (case side1 => repeat (first | exact (Kd.R_reads' HO_6.out).2.2 | (with_reducible refine Kd.C_alloc ?_ _) | (with_reducible refine Kd.C_drewN ?_ _) | (with_reducible refine Kd.C_drew ?_))); (case side2 => exact (Kd.R_reads' HO_6.out).2.1); rintro e w' ⟨rfl, ⟨nd, rfl⟩⟩; (try first | exact ⟨rfl, _, World.drewN_drewN _ _ _⟩ | exact ⟨rfl, _, Eq.trans (World.drewN_drewN _ _ _) (congrArg (World.drewN _) (Nat.add_assoc _ _ _))⟩))); go_upto_region 23 with (first | (go_at_call 49; (with_reducible refine (qob.calls k2 _ _ t105 a1.toNat t124 _ ?side1 ?side2 A46.out).mono ?_); (case side1 => repeat (first | exact (Kd.R_reads' HO_6.out).2.2 | (with_reducible refine Kd.C_alloc ?_ _) | (with_reducible refine Kd.C_drewN ?_ _) | (with_reducible refine Kd.C_drew ?_))); (case side2 => exact (Kd.R_reads' HO_6.out).2.1); rintro e w' ⟨rfl, ⟨nd, rfl⟩⟩; (try first | exact ⟨rfl, _, World.drewN_drewN _ _ _⟩ | exact ⟨rfl, _, Eq.trans (World.drewN_drewN _ _ _) (congrArg (World.drewN _) (Nat.add_assoc _ _ _))⟩))))
         (try simp only [Act.put, List.setIfInBounds_toArray, List.set_cons_zero, List.set_cons_succ])
         go_cut [130] (fun v130 wc => ∃ (kq : Nat) (x130_46 : Bool), v130 = .bool x130_46 ∧ Zs (qt0os.j3 kq t105 a1.toNat t124 x130_46 = some r) ∧ Zs (kq ≤ k2) ∧ Zs (Kd.R (Kd.scalar (Value.float .f64) (fun _ => rfl)) 23 wc w.heap.size (fun _ => True) (.slice Ao12 t105.length co12) t105) ∧ Zs (Below w.heap.size w wc))
         case first =>
          have H := HC47.out
          clear HC47
          by_cases c48 : x9_2 = (t112.length : Int)
          ·rw [if_pos c48] at H
           have c48b0 : (x9_2 == (t112.length : Int)) = true := beq_iff_eq.mpr c48
           have c48b1 : (x9_2 != (t112.length : Int)) = false := bne_eq_false_iff_eq.mpr c48
           clear c48
           (first | rw [c48b0] | (simp only [i64_w, i32_w]; rw [c48b0]) | skip)
           by_cases c49 : t124 < 0
           ·rw [if_pos c49] at H
            have c49b0 : decide (t124 < 0) = true := decide_eq_true c49
            clear c49
            have H' := Zs.mk H
            clear H
            obtain ⟨Ao50, co50, eo50⟩ := Kd.R_slice HO_8.out
            subst eo50
            go_wp2
            repeat (go_quiet (fail); try go_wp2)
            go_meet
            case rel => exact ⟨_, (true), (by first | rfl | (simp; done) | (simp [*]; done)), H', ⟨by have := HK1.out; have := HK2.out; first | omega | exact Nat.le_refl _⟩, ⟨by (with_reducible repeat (first | apply Kd.R_alloc | apply Kd.R_drewN | apply Kd.R_drew)); exact Kd.R_mono HO_6.out (fun _ hk => trivial)⟩, ⟨by repeat (first | (with_reducible first | exact HB.out | apply zA | apply zB | apply zC) | exact HB.out)⟩⟩
           ·rw [if_neg c49] at H
            have c49b0 : decide (t124 < 0) = false := decide_eq_false c49
            clear c49
            by_cases c51 : t124 > (t105.length : Int)
            ·rw [if_pos c51] at H
             have c51b0 : decide ((t105.length : Int) < t124) = true := decide_eq_true c51
             clear c51
             have H' := Zs.mk H
             clear H
             obtain ⟨Ao52, co52, eo52⟩ := Kd.R_slice HO_8.out
             subst eo52
             go_wp2
             repeat (go_quiet (fail); try go_wp2)
             go_meet
             case rel => exact ⟨_, (true), (by first | rfl | (simp; done) | (simp [*]; done)), H', ⟨by have := HK1.out; have := HK2.out; first | omega | exact Nat.le_refl _⟩, ⟨by (with_reducible repeat (first | apply Kd.R_alloc | apply Kd.R_drewN | apply Kd.R_drew)); exact Kd.R_mono HO_6.out (fun _ hk => trivial)⟩, ⟨by repeat (first | (with_reducible first | exact HB.out | apply zA | apply zB | apply zC) | exact HB.out)⟩⟩
            ·rw [if_neg c51] at H
             have c51b0 : decide ((t105.length : Int) < t124) = false := decide_eq_false c51
             clear c51
             replace H := Option.bind_eq_some_iff.mp H
             obtain ⟨t125, A530, H⟩ := H
             replace H : (qt0os.j3 k2 t105 a1.toNat t124 (t125 != t124)) = some r := H
             have A53 := Zs.mk A530
             clear A530
             have H' := Zs.mk H
             clear H
             obtain ⟨Ao54, co54, eo54⟩ := Kd.R_slice HO_8.out
             subst eo54
             go_wp2_with (first | (go_at_call 49; (with_reducible refine (qob.calls k2 _ _ t102 a1.toNat t125 _ ?side1 ?side2 A53.out).mono ?_); (case side1 => repeat (first | exact (Kd.R_reads' HO_5.out).2.2 | (with_reducible refine Kd.C_alloc ?_ _) | (with_reducible refine Kd.C_drewN ?_ _) | (with_reducible refine Kd.C_drew ?_))); (case side2 => exact (Kd.R_reads' HO_5.out).2.1); rintro e w' ⟨rfl, ⟨nd, rfl⟩⟩; (try first | exact ⟨rfl, _, World.drewN_drewN _ _ _⟩ | exact ⟨rfl, _, Eq.trans (World.drewN_drewN _ _ _) (congrArg (World.drewN _) (Nat.add_assoc _ _ _))⟩)))
             repeat (go_quiet (first | (go_at_call 49; (with_reducible refine (qob.calls k2 _ _ t102 a1.toNat t125 _ ?side1 ?side2 A53.out).mono ?_); (case side1 => repeat (first | exact (Kd.R_reads' HO_5.out).2.2 | (with_reducible refine Kd.C_alloc ?_ _) | (with_reducible refine Kd.C_drewN ?_ _) | (with_reducible refine Kd.C_drew ?_))); (case side2 => exact (Kd.R_reads' HO_5.out).2.1); rintro e w' ⟨rfl, ⟨nd, rfl⟩⟩; (try first | exact ⟨rfl, _, World.drewN_drewN _ _ _⟩ | exact ⟨rfl, _, Eq.trans (World.drewN_drewN _ _ _) (congrArg (World.drewN _) (Nat.add_assoc _ _ _))⟩))); try go_wp2_with (first | (go_at_call 49; (with_reducible refine (qob.calls k2 _ _ t102 a1.toNat t125 _ ?side1 ?side2 A53.out).mono ?_); (case side1 => repeat (first | exact (Kd.R_reads' HO_5.out).2.2 | (with_reducible refine Kd.C_alloc ?_ _) | (with_reducible refine Kd.C_drewN ?_ _) | (with_reducible refine Kd.C_drew ?_))); (case side2 => exact (Kd.R_reads' HO_5.out).2.1); rintro e w' ⟨rfl, ⟨nd, rfl⟩⟩; (try first | exact ⟨rfl, _, World.drewN_drewN _ _ _⟩ | exact ⟨rfl, _, Eq.trans (World.drewN_drewN _ _ _) (congrArg (World.drewN _) (Nat.add_assoc _ _ _))⟩))))
             go_meet
             case rel => exact ⟨_, ((t125 != t124)), (by first | rfl | (simp; done) | (simp [*]; done)), H', ⟨by have := HK1.out; have := HK2.out; first | omega | exact Nat.le_refl _⟩, ⟨by (with_reducible repeat (first | apply Kd.R_alloc | apply Kd.R_drewN | apply Kd.R_drew)); exact Kd.R_mono HO_6.out (fun _ hk => trivial)⟩, ⟨by repeat (first | (with_reducible first | exact HB.out | apply zA | apply zB | apply zC) | exact HB.out)⟩⟩
          ·rw [if_neg c48] at H
           have c48b0 : (x9_2 == (t112.length : Int)) = false := beq_eq_false_iff_ne.mpr c48
           have c48b1 : (x9_2 != (t112.length : Int)) = true := bne_iff_ne.mpr c48
           (first | rw [c48b0] | (simp only [i64_w, i32_w]; rw [c48b0]) | skip)
           have H' := Zs.mk H
           clear H
           obtain ⟨Ao55, co55, eo55⟩ := Kd.R_slice HO_8.out
           subst eo55
           go_wp2
           repeat (go_quiet (fail); try go_wp2)
           go_meet
           case rel => exact ⟨_, (true), (by first | rfl | (simp; done) | (simp [*]; done)), H', ⟨by have := HK1.out; have := HK2.out; first | omega | exact Nat.le_refl _⟩, ⟨by (with_reducible repeat (first | apply Kd.R_alloc | apply Kd.R_drewN | apply Kd.R_drew)); exact Kd.R_mono HO_6.out (fun _ hk => trivial)⟩, ⟨by repeat (first | (with_reducible first | exact HB.out | apply zA | apply zB | apply zC) | exact HB.out)⟩⟩
         case rest =>
          clear HC47
          try clear c4; try clear c8; try clear c14; try clear c14b0; try clear c16; try clear c16b0; try clear c17; try clear c17b0; try clear c18; try clear c18b0; try clear c20; try clear c20b0; try clear c23; try clear c23b0; try clear c25; try clear c25b0; try clear c26; try clear c26b0; try clear c26b1; try clear c26b2; try clear c27; try clear c27b0; try clear c29; try clear c29b0; try clear c30; try clear c30b0; try clear c31; try clear c32; try clear c32b0; try clear c32b1; try clear c34; try clear c34b0; try clear c35; try clear c35b0; try clear c36; try clear c36b0; try clear c37; try clear c37b0; try clear c38; try clear c38b0; try clear c38b1; try clear c38b2; try clear c40; try clear c40b0; try clear c40b1; try clear c40b2; try clear c42; try clear c48; try clear c48b0; try clear c48b1; try clear c49; try clear c49b0; try clear c51; try clear c51b0; try clear hx109_0; try clear hx110_0; try clear hx115_0; try clear hx116_0; try clear hx117_0; try clear hx118_0; try clear hx119_0; try clear hx120_0; try clear hx121_0; try clear hx122_0; try clear p109; try clear p110; try clear p115; try clear p116; try clear p117; try clear p118; try clear p119; try clear p120; try clear p121; try clear p122; try clear q109; try clear q110; try clear q115; try clear q116; try clear q117; try clear q118; try clear q119; try clear q120; try clear q121; try clear q122
          obtain ⟨kq, x130_46, rfl, HA, HJ46, HO_6, HB⟩ := hcut
          cases kq with
          | zero => exact absurd HA.out (by simp [qt0os.j3])
          | succ kj46 =>
           have H := HA.out
           clear HA
           simp only [qt0os.j3] at H
           by_cases c56 : x130_46 = true
           ·subst c56
            have H1 : (some false) = some r := by rw [if_pos rfl] at H; exact H
            clear H
            have H := H1
            clear H1
            exact absurd (Option.some.inj H).symm hrt
           ·replace c56 := Bool.eq_false_iff.mpr c56
            subst c56
            have H1 : (qt0os.l2 kj46 t105 a1.toNat t124 0) = some r := by rw [if_neg (show ¬ (false = true) by decide)] at H; exact H
            clear H
            have H := H1
            clear H1
            have H' := Zs.mk H
            clear H
            go_wp2
            repeat (go_quiet (fail); try go_wp2)
            go_loopg [13] kj46 (fun kq v13 w' => ∃ (x13_4 : Int), v13 = .int .i64 x13_4 ∧ Zs (qt0os.l2 kq t105 a1.toNat t124 x13_4 = some r) ∧ Zs (kq ≤ kj46) ∧ Zs (Kd.R (Kd.scalar (Value.float .f64) (fun _ => rfl)) 23 w' w.heap.size (fun _ => True) (.slice Ao12 t105.length co12) t105) ∧ Zs (Below w.heap.size w w'))
            case atStart => exact ⟨(0), (by first | rfl | (simp; done) | (simp [*]; done)), H', ⟨Nat.le_refl _⟩, ⟨by (with_reducible repeat (first | apply Kd.R_alloc | apply Kd.R_drewN | apply Kd.R_drew)); exact HO_6.out⟩, ⟨by repeat (first | (with_reducible first | exact HB.out | apply zA | apply zB | apply zC) | exact HB.out)⟩⟩
            case round =>
             clear H'
             try clear c4; try clear c8; try clear c14; try clear c14b0; try clear c16; try clear c16b0; try clear c17; try clear c17b0; try clear c18; try clear c18b0; try clear c20; try clear c20b0; try clear c23; try clear c23b0; try clear c25; try clear c25b0; try clear c26; try clear c26b0; try clear c26b1; try clear c26b2; try clear c27; try clear c27b0; try clear c29; try clear c29b0; try clear c30; try clear c30b0; try clear c31; try clear c32; try clear c32b0; try clear c32b1; try clear c34; try clear c34b0; try clear c35; try clear c35b0; try clear c36; try clear c36b0; try clear c37; try clear c37b0; try clear c38; try clear c38b0; try clear c38b1; try clear c38b2; try clear c40; try clear c40b0; try clear c40b1; try clear c40b2; try clear c42; try clear c48; try clear c48b0; try clear c48b1; try clear c49; try clear c49b0; try clear c51; try clear c51b0; try clear c56; try clear hx109_0; try clear hx110_0; try clear hx115_0; try clear hx116_0; try clear hx117_0; try clear hx118_0; try clear hx119_0; try clear hx120_0; try clear hx121_0; try clear hx122_0; try clear p109; try clear p110; try clear p115; try clear p116; try clear p117; try clear p118; try clear p119; try clear p120; try clear p121; try clear p122; try clear q109; try clear q110; try clear q115; try clear q116; try clear q117; try clear q118; try clear q119; try clear q120; try clear q121; try clear q122
             obtain ⟨x13_4, rfl, HA, HK4, HO_6, HB⟩ := hrel
             cases gk with
             | zero => exact absurd HA.out (by simp [qt0os.l2])
             | succ k4 =>
              have H := HA.out
              clear HA
              simp only [qt0os.l2] at H
              by_cases c57 : x13_4 < (t105.length : Int)
              ·rw [if_pos c57] at H
               have c57b0 : decide (x13_4 < (t105.length : Int)) = true := decide_eq_true c57
               clear c57
               by_cases c58 : 0 ≤ x13_4
               ·rw [if_pos c58] at H
                have c58b0 : decide (0 ≤ x13_4) = true := decide_eq_true c58
                clear c58
                replace H := Option.bind_eq_some_iff.mp H
                obtain ⟨t127, A590, H⟩ := H
                replace H : (if ((decide (t127 < 0)) != (decide (x13_4 < t124))) = true then (some false) else (qt0os.l2 k4 t105 a1.toNat t124 (wrap64 (x13_4 + 1)))) = some r := H
                have A59 := Zs.mk A590
                clear A590
                by_cases c60 : ((decide (t127 < 0)) != (decide (x13_4 < t124))) = true
                ·rw [if_pos c60] at H
                 have c60b0 : ((decide (t127 < 0)) != (decide (x13_4 < t124))) = true := c60
                 (try (have c60b1 : decide ((decide (t127 < 0)) = (decide (x13_4 < t124))) = false := by simpa using c60))
                 (try (have c60b2 : ((decide (t127 < 0)) == (decide (x13_4 < t124))) = false := by simpa using c60))
                 (try (have c60b3 : ¬ ((decide (t127 < 0)) = (decide (x13_4 < t124))) := by simpa using c60))
                 clear c60
                 exact absurd (Option.some.inj H).symm hrt
                ·rw [if_neg c60] at H
                 have c60b0 : ((decide (t127 < 0)) != (decide (x13_4 < t124))) = false := by simpa using c60
                 (try (have c60b1 : decide ((decide (t127 < 0)) = (decide (x13_4 < t124))) = true := by simpa using c60))
                 (try (have c60b2 : ((decide (t127 < 0)) == (decide (x13_4 < t124))) = true := by simpa using c60))
                 clear c60
                 have H' := Zs.mk H
                 clear H
                 have p126 : 0 ≤ (x13_4 : Int) := of_decide_eq_true (by first | (with_reducible assumption) | assumption)
                 have q126 : x13_4 < (t105.length : Int) := of_decide_eq_true (by first | (with_reducible assumption) | assumption)
                 obtain ⟨ad126, e126, hx126_0⟩ := Kd.at_flo (Kd.R_reads' HO_6.out).2.2 x13_4 p126 q126
                 cases e126
                 replace p126 := eq_true p126
                 replace q126 := eq_true q126
                 go_wp2_with (first | (go_at_call 52; (with_reducible refine (qoc.calls (rdOf (0 : Nat) t105 x13_4) a1.toNat t127 _ A59.out).mono ?_); rintro e w' ⟨rfl, ⟨nd, rfl⟩⟩; (try first | exact ⟨rfl, _, World.drewN_drewN _ _ _⟩ | exact ⟨rfl, _, Eq.trans (World.drewN_drewN _ _ _) (congrArg (World.drewN _) (Nat.add_assoc _ _ _))⟩)))
                 repeat (go_quiet (first | (go_at_call 52; (with_reducible refine (qoc.calls (rdOf (0 : Nat) t105 x13_4) a1.toNat t127 _ A59.out).mono ?_); rintro e w' ⟨rfl, ⟨nd, rfl⟩⟩; (try first | exact ⟨rfl, _, World.drewN_drewN _ _ _⟩ | exact ⟨rfl, _, Eq.trans (World.drewN_drewN _ _ _) (congrArg (World.drewN _) (Nat.add_assoc _ _ _))⟩))); try go_wp2_with (first | (go_at_call 52; (with_reducible refine (qoc.calls (rdOf (0 : Nat) t105 x13_4) a1.toNat t127 _ A59.out).mono ?_); rintro e w' ⟨rfl, ⟨nd, rfl⟩⟩; (try first | exact ⟨rfl, _, World.drewN_drewN _ _ _⟩ | exact ⟨rfl, _, Eq.trans (World.drewN_drewN _ _ _) (congrArg (World.drewN _) (Nat.add_assoc _ _ _))⟩))))
                 go_roundg k4
                 case measure => have := HK1.out; have := HK2.out; have := HJ46.out; have := HK4.out; omega
                 case rel => exact ⟨(wrap64 (x13_4 + 1)), (by first | rfl | (simp; done) | (simp [*]; done)), H', ⟨by have := HK1.out; have := HK2.out; have := HJ46.out; have := HK4.out; omega⟩, ⟨by (with_reducible repeat (first | apply Kd.R_alloc | apply Kd.R_drewN | apply Kd.R_drew)); exact HO_6.out⟩, ⟨by repeat (first | (with_reducible first | exact HB.out | apply zA | apply zB | apply zC) | exact HB.out)⟩⟩
               ·rw [if_neg c58] at H
                exact absurd H (by simp)
              ·rw [if_neg c57] at H
               have c57b0 : decide (x13_4 < (t105.length : Int)) = false := decide_eq_false c57
               clear c57
               obtain rfl := Option.some.inj H
               go_wp2
               repeat (go_quiet (fail); try go_wp2)
               go_ret
               exact ⟨by first | rfl | (simp [zE, zF] <;> rfl) | (simp [*, zE, zF] <;> rfl), by repeat (first | (with_reducible first | exact HB.out | apply zA | apply zB | apply zC) | exact HB.out)⟩
  ·replace c8 := Bool.eq_false_iff.mpr c8
   subst c8
   have H1 : (some false) = some r := by rw [if_neg (show ¬ (false = true) by decide)] at H; exact H
   clear H
   have H := H1
   clear H1
   exact absurd (Option.some.inj H).symm hrt
 ·replace c4 := Bool.eq_false_iff.mpr c4
  subst c4
  have H1 : (some false) = some r := by rw [if_neg (show ¬ (false = true) by decide)] at H; exact H
  clear H
  have H := H1
  clear H1
  exact absurd (Option.some.inj H).symm hrt
def qt0os.Pure : Prop := ∀ (l0 : List Int) (a1 : Int), l0.length ≤ maxLen → l0.length * 8 ≤ 140737488351232 → (∀ x ∈ l0, (Lit.int .u64 x).wf = true) → (Lit.int .u64 a1).wf = true → ∃ k, qt0os.f k l0 a1 = some true
theorem qt0os.walk (P : qt0os.Pure) (a0 : Option Addr) (len0 cap0 : Nat) (z0 : List Int) (a1 : Int) (w : World) (w0 : (a0 = none ∧ len0 = 0 ∧ cap0 = 0 ∧ z0 = []) ∨ ∃ x, a0 = some x ∧ len0 ≤ cap0 ∧ cap0 ≤ maxLen ∧ z0.length = cap0 ∧ (∀ i, i < z0.length → w.cell? (x.add i) = some (.int .u64 (z0.getD i 0))) ∧ ∀ n ∈ z0, (Lit.int .u64 n).wf = true) (y0 : len0 * 8 ≤ 140737488351232) (w1 : (Lit.int .u64 a1).wf = true) :
  Calls Try.prog 10 #[.slice a0 len0 cap0, .int .u64 a1] w fun e w' => e = .returned (.bool true) ∧ Below w.heap.size w w' := by
 obtain ⟨l0, rfl, hr0, hm0, hw0, hc0⟩ := ReadsInt.ofRowC w0
 obtain ⟨k, h⟩ := P l0 a1 hm0 y0 hw0 w1
 refine (qt0os.calls k _ _ l0 a1 true w (Kd.C_of_reads (d := (0 : Int)) (h1 := fun _ => rfl) hr0) hc0 h (by decide)).mono ?_
 rintro e w' ⟨rfl, hd⟩
 exact ⟨rfl, hd⟩
end Go.Proofs.Ytkmbgfhkdopigaa.P
