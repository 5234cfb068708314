/- Texts that the statement's proof leans on, part 21. -/
import Derived.Test.YtkmbgfhkdopigaaOO4
import Derived.Test.YtkmbgfhkdopigaaOO7
import Derived.Test.YtkmbgfhkdopigaaOO20
namespace Go.Proofs.Ytkmbgfhkdopigaa.P
open Go.RowKit Go.Proofs.YtkmbgfhkdopigaaW.PrintWords Go.Proofs.YtkmbgfhkdopigaaW.PrintLast Go.Proofs.YtkmbgfhkdopigaaW.PrintMore
attribute [local go_sem] max2_int min2_int max_two min_two max_three min_three max_four min_four
attribute [local go_sem] Go.Proofs.Ytkmbgfhkdopigaa.Fl.store_float Go.Proofs.Ytkmbgfhkdopigaa.Fl.call54 Go.Proofs.Ytkmbgfhkdopigaa.Fl.call22 Go.Proofs.Ytkmbgfhkdopigaa.Fl.call14 Go.Proofs.Ytkmbgfhkdopigaa.Fl.call28
set_option linter.unusedVariables false
set_option linter.unusedSimpArgs false
mutual
def qt0oo.j0 : Nat → List Nat → List Nat → List Nat → List Nat → List Nat → Bool → Option (Bool)
 | 0, _, _, _, _, _, _ => none
 | k + 1, x3, x4, x5, x6, x7, x52 => if x52 = true then (some false) else (qt0oo.l0 k x3 x4 x5 x6 x7 ([] : List Int) 0)
def qt0oo.l0 : Nat → List Nat → List Nat → List Nat → List Nat → List Nat → List Int → Int → Option (Bool)
 | 0, _, _, _, _, _, _, _ => none
 | k + 1, x3, x4, x5, x6, x7, x8, x9 => if x9 < (x5.length : Int) then (if 0 ≤ x9 then (if x8.length < 17592186044416 then (qt0oo.l0 k x3 x4 x5 x6 x7 (x8 ++ [((rdOf (0 : Nat) x5 x9 : Nat) : Int)]) (wrap64 (x9 + 1))) else (none)) else (none)) else (qt0oo.l1 k x3 x4 x5 x6 x7 x8 0)
def qt0oo.l1 : Nat → List Nat → List Nat → List Nat → List Nat → List Nat → List Int → Int → Option (Bool)
 | 0, _, _, _, _, _, _, _ => none
 | k + 1, x3, x4, x5, x6, x7, x8, x10 => if x10 < (x7.length : Int) then (if 0 ≤ x10 then (if x8.length < 17592186044416 then (qt0oo.l1 k x3 x4 x5 x6 x7 (x8 ++ [((rdOf (0 : Nat) x7 x10 : Nat) : Int)]) (wrap64 (x10 + 1))) else (none)) else (none)) else (qt0oo.l2 k x3 x4 x5 x6 x7 x8 0)
def qt0oo.l2 : Nat → List Nat → List Nat → List Nat → List Nat → List Nat → List Int → Int → Option (Bool)
 | 0, _, _, _, _, _, _, _ => none
 | k + 1, x3, x4, x5, x6, x7, x8, x11 => if x11 < (x4.length : Int) then (if 0 ≤ x11 then (qt0oo.l2 k x3 (x4.set (x11 : Int).toNat 13837309855095848960) x5 x6 x7 x8 (wrap64 (x11 + 1))) else (none)) else (qt0oo.l3 k x3 x4 x5 x6 x7 x8 0)
def qt0oo.l3 : Nat → List Nat → List Nat → List Nat → List Nat → List Nat → List Int → Int → Option (Bool)
 | 0, _, _, _, _, _, _, _ => none
 | k + 1, x3, x4, x5, x6, x7, x8, x12 => if x12 < (x6.length : Int) then (if 0 ≤ x12 then (qt0oo.l3 k x3 x4 x5 (x6.set (x12 : Int).toNat 13839561654909534208) x7 x8 (wrap64 (x12 + 1))) else (none)) else (if x4.length < 17592186044416 then (if x6.length < 17592186044416 then ((some (([] : List Nat) : List Nat)).bind fun y139 => (if y139.length + x5.length < 17592186044416 then ((some (y139 ++ x5 : List Nat)).bind fun y142 => (if y142.length + x7.length < 17592186044416 then (qt0oo.l4 k x3 (x4 ++ [13840687554816376832]) (x6 ++ [13841813454723219456]) x8 (y142 ++ x7) 0) else (none))) else (none))) else (none)) else (none))
def qt0oo.l4 : Nat → List Nat → List Nat → List Nat → List Int → List Nat → Int → Option (Bool)
 | 0, _, _, _, _, _, _ => none
 | k + 1, x3, x4, x6, x8, x13, x14 => if x14 < (x13.length : Int) then (if 0 ≤ x14 then (if x14 < (x8.length : Int) then (if ((rdOf (0 : Nat) x13 x14 : Nat) : Int) = (rd x8 x14) then (qt0oo.l4 k x3 x4 x6 x8 x13 (wrap64 (x14 + 1))) else (some false)) else (none)) else (none)) else (if 0 ≤ (wrap64 ((x3.length : Int) - 1)) then (if (wrap64 ((x3.length : Int) - 1)) < (x3.length : Int) then (if ((FloatKind.format .f64).order (rdOf (0 : Nat) x3 (wrap64 ((x3.length : Int) - 1))) 4611686018427387904 == some .eq) = true then (if 0 ≤ (wrap64 ((x3.length : Int) - 2)) then (if (wrap64 ((x3.length : Int) - 2)) < (x3.length : Int) then (if ((FloatKind.format .f64).order (rdOf (0 : Nat) x3 (wrap64 ((x3.length : Int) - 2))) 4607182418800017408 == some .eq) = true then (if 0 ≤ (wrap64 ((x4.length : Int) - 1)) then (if (wrap64 ((x4.length : Int) - 1)) < (x4.length : Int) then (if ((FloatKind.format .f64).order (rdOf (0 : Nat) x4 (wrap64 ((x4.length : Int) - 1))) 13840687554816376832 == some .eq) = true then (if 0 ≤ (wrap64 ((x6.length : Int) - 1)) then (if (wrap64 ((x6.length : Int) - 1)) < (x6.length : Int) then (if ((FloatKind.format .f64).order (rdOf (0 : Nat) x6 (wrap64 ((x6.length : Int) - 1))) 13841813454723219456 == some .eq) = true then ((qmi.f 1).bind fun t154 => ((qob.f k x3 t154).bind fun t155 => (some (decide (t155 ≥ 2))))) else (some false)) else (none)) else (none)) else (some false)) else (none)) else (none)) else (some false)) else (none)) else (none)) else (some false)) else (none)) else (none))
end
def qt0oo.f (k : Nat) (l0 : List Int) : Option (Bool) := (qt0b.f).bind fun t101 => (if t101 = true then ((qt0l.f k l0).bind fun t102 => ((some (([4607182418800017408, 4611686018427387904] : List Nat) : List Nat)).bind fun y105 => (if t102.length + y105.length < 17592186044416 then ((some (t102 ++ y105 : List Nat)).bind fun y108 => ((qos.f k y108).bind fun t111 => ((qos.f k y108).bind fun t114 => ((qod.f y108).bind fun t117 => ((qod.f y108).bind fun t120 => (if (t111.length : Int) = (t114.length : Int) then (if (t117.length : Int) = (t120.length : Int) then (if (t111.length : Int) = (y108.length : Int) then (qt0oo.j0 k y108 t111 t114 t117 t120 (decide ((t117.length : Int) < 2))) else (qt0oo.j0 k y108 t111 t114 t117 t120 true)) else (qt0oo.j0 k y108 t111 t114 t117 t120 true)) else (qt0oo.j0 k y108 t111 t114 t117 t120 true))))))) else (none)))) else (some false))
def qt0oo.T33 : Bool × List (List Nat × List Nat) := (true, [([], []), ([], []), ([0, 1], [0, 1]), ([2], [2]), ([3], [3]), ([], []), ([], []), ([5, 6], [5, 6]), ([7], [7]), ([4, 8], [4, 8])])
def qt0oo.B33 : List Nat := [0, 0, 3, 7, 15, 0, 0, 96, 224, 511]
theorem qt0oo.tab33 : rtab .any (opsOf Try.f11 33) = qt0oo.T33 := by kernel_rfl
theorem qt0oo.bits33 : waitsOk qt0oo.T33.2 qt0oo.B33 = true := by kernel_rfl
set_option maxHeartbeats 8000000 in
set_option maxRecDepth 100000 in
theorem qt0oo.calls (k : Nat) (A0 : Option Addr) (c0 : Nat) (l0 : List Int) (r : Bool) (w : World) (hr0 : Kd.C (Kd.int .u64) w A0 l0.length l0) (hc0 : l0.length ≤ c0) (h : qt0oo.f k l0 = some r) (hrt : ¬ r = false) :
  Calls Try.prog 11 #[.slice A0 l0.length c0] w fun e w' => e = .returned (.bool r) ∧ Below w.heap.size w w' := by
 have HR0 := Zs.mk hr0
 have HC0 := Zs.mk hc0
 clear hr0 hc0
 have HB := Zs.mk (Below.refl w.heap.size w)
 have H : ((qt0b.f).bind fun t101 => (if t101 = true then ((qt0l.f k l0).bind fun t102 => ((some (([4607182418800017408, 4611686018427387904] : List Nat) : List Nat)).bind fun y105 => (if t102.length + y105.length < 17592186044416 then ((some (t102 ++ y105 : List Nat)).bind fun y108 => ((qos.f k y108).bind fun t111 => ((qos.f k y108).bind fun t114 => ((qod.f y108).bind fun t117 => ((qod.f y108).bind fun t120 => (if (t111.length : Int) = (t114.length : Int) then (if (t117.length : Int) = (t120.length : Int) then (if (t111.length : Int) = (y108.length : Int) then (qt0oo.j0 k y108 t111 t114 t117 t120 (decide ((t117.length : Int) < 2))) else (qt0oo.j0 k y108 t111 t114 t117 t120 true)) else (qt0oo.j0 k y108 t111 t114 t117 t120 true)) else (qt0oo.j0 k y108 t111 t114 t117 t120 true))))))) else (none)))) else (some false))) = some r := h
 clear h
 replace H := Option.bind_eq_some_iff.mp H
 obtain ⟨t101, A20, H⟩ := H
 replace H : (if t101 = true then ((qt0l.f k l0).bind fun t102 => ((some (([4607182418800017408, 4611686018427387904] : List Nat) : List Nat)).bind fun y105 => (if t102.length + y105.length < 17592186044416 then ((some (t102 ++ y105 : List Nat)).bind fun y108 => ((qos.f k y108).bind fun t111 => ((qos.f k y108).bind fun t114 => ((qod.f y108).bind fun t117 => ((qod.f y108).bind fun t120 => (if (t111.length : Int) = (t114.length : Int) then (if (t117.length : Int) = (t120.length : Int) then (if (t111.length : Int) = (y108.length : Int) then (qt0oo.j0 k y108 t111 t114 t117 t120 (decide ((t117.length : Int) < 2))) else (qt0oo.j0 k y108 t111 t114 t117 t120 true)) else (qt0oo.j0 k y108 t111 t114 t117 t120 true)) else (qt0oo.j0 k y108 t111 t114 t117 t120 true))))))) else (none)))) else (some false)) = some r := H
 have A2 := Zs.mk A20
 clear A20
 by_cases c3 : t101 = true
 ·subst c3
  have H1 : ((qt0l.f k l0).bind fun t102 => ((some (([4607182418800017408, 4611686018427387904] : List Nat) : List Nat)).bind fun y105 => (if t102.length + y105.length < 17592186044416 then ((some (t102 ++ y105 : List Nat)).bind fun y108 => ((qos.f k y108).bind fun t111 => ((qos.f k y108).bind fun t114 => ((qod.f y108).bind fun t117 => ((qod.f y108).bind fun t120 => (if (t111.length : Int) = (t114.length : Int) then (if (t117.length : Int) = (t120.length : Int) then (if (t111.length : Int) = (y108.length : Int) then (qt0oo.j0 k y108 t111 t114 t117 t120 (decide ((t117.length : Int) < 2))) else (qt0oo.j0 k y108 t111 t114 t117 t120 true)) else (qt0oo.j0 k y108 t111 t114 t117 t120 true)) else (qt0oo.j0 k y108 t111 t114 t117 t120 true))))))) else (none)))) = some r := by rw [if_pos rfl] at H; exact H
  clear H
  have H := H1
  clear H1
  replace H := Option.bind_eq_some_iff.mp H
  obtain ⟨t102, A40, H⟩ := H
  replace H : ((some (([4607182418800017408, 4611686018427387904] : List Nat) : List Nat)).bind fun y105 => (if t102.length + y105.length < 17592186044416 then ((some (t102 ++ y105 : List Nat)).bind fun y108 => ((qos.f k y108).bind fun t111 => ((qos.f k y108).bind fun t114 => ((qod.f y108).bind fun t117 => ((qod.f y108).bind fun t120 => (if (t111.length : Int) = (t114.length : Int) then (if (t117.length : Int) = (t120.length : Int) then (if (t111.length : Int) = (y108.length : Int) then (qt0oo.j0 k y108 t111 t114 t117 t120 (decide ((t117.length : Int) < 2))) else (qt0oo.j0 k y108 t111 t114 t117 t120 true)) else (qt0oo.j0 k y108 t111 t114 t117 t120 true)) else (qt0oo.j0 k y108 t111 t114 t117 t120 true))))))) else (none))) = some r := H
  have A4 := Zs.mk A40
  clear A40
  obtain ⟨y105, hy105⟩ : ∃ y_ : List Nat, y_ = (([4607182418800017408, 4611686018427387904] : List Nat)) := ⟨_, rfl⟩
  replace H : (if t102.length + y105.length < 17592186044416 then ((some (t102 ++ y105 : List Nat)).bind fun y108 => ((qos.f k y108).bind fun t111 => ((qos.f k y108).bind fun t114 => ((qod.f y108).bind fun t117 => ((qod.f y108).bind fun t120 => (if (t111.length : Int) = (t114.length : Int) then (if (t117.length : Int) = (t120.length : Int) then (if (t111.length : Int) = (y108.length : Int) then (qt0oo.j0 k y108 t111 t114 t117 t120 (decide ((t117.length : Int) < 2))) else (qt0oo.j0 k y108 t111 t114 t117 t120 true)) else (qt0oo.j0 k y108 t111 t114 t117 t120 true)) else (qt0oo.j0 k y108 t111 t114 t117 t120 true))))))) else (none)) = some r := by first | (rw [hy105]; with_reducible exact H) | (have H2_ := (Option.bind_some _ _).symm.trans H; rw [hy105]; with_reducible exact H2_) | (have H2_ := (Option.bind_some _ _).symm.trans H; with_reducible exact H2_) | with_reducible exact H | (rw [hy105]; exact H) | exact H
  have Ny105 := Zs.mk hy105
  clear hy105
  by_cases c5 : t102.length + y105.length < 17592186044416
  ·rw [if_pos c5] at H
   have LMc5 := Zs.mk c5
   clear c5
   obtain ⟨y108, hy108⟩ : ∃ y_ : List Nat, y_ = (t102 ++ y105) := ⟨_, rfl⟩
   replace H : ((qos.f k y108).bind fun t111 => ((qos.f k y108).bind fun t114 => ((qod.f y108).bind fun t117 => ((qod.f y108).bind fun t120 => (if (t111.length : Int) = (t114.length : Int) then (if (t117.length : Int) = (t120.length : Int) then (if (t111.length : Int) = (y108.length : Int) then (qt0oo.j0 k y108 t111 t114 t117 t120 (decide ((t117.length : Int) < 2))) else (qt0oo.j0 k y108 t111 t114 t117 t120 true)) else (qt0oo.j0 k y108 t111 t114 t117 t120 true)) else (qt0oo.j0 k y108 t111 t114 t117 t120 true)))))) = some r := by first | (rw [hy108]; with_reducible exact H) | (have H2_ := (Option.bind_some _ _).symm.trans H; rw [hy108]; with_reducible exact H2_) | (have H2_ := (Option.bind_some _ _).symm.trans H; with_reducible exact H2_) | with_reducible exact H | (rw [hy108]; exact H) | exact H
   have Ny108 := Zs.mk hy108
   clear hy108
   replace H := Option.bind_eq_some_iff.mp H
   obtain ⟨t111, A60, H⟩ := H
   replace H : ((qos.f k y108).bind fun t114 => ((qod.f y108).bind fun t117 => ((qod.f y108).bind fun t120 => (if (t111.length : Int) = (t114.length : Int) then (if (t117.length : Int) = (t120.length : Int) then (if (t111.length : Int) = (y108.length : Int) then (qt0oo.j0 k y108 t111 t114 t117 t120 (decide ((t117.length : Int) < 2))) else (qt0oo.j0 k y108 t111 t114 t117 t120 true)) else (qt0oo.j0 k y108 t111 t114 t117 t120 true)) else (qt0oo.j0 k y108 t111 t114 t117 t120 true))))) = some r := H
   have A6 := Zs.mk A60
   clear A60
   replace H := Option.bind_eq_some_iff.mp H
   obtain ⟨t114, A70, H⟩ := H
   replace H : ((qod.f y108).bind fun t117 => ((qod.f y108).bind fun t120 => (if (t111.length : Int) = (t114.length : Int) then (if (t117.length : Int) = (t120.length : Int) then (if (t111.length : Int) = (y108.length : Int) then (qt0oo.j0 k y108 t111 t114 t117 t120 (decide ((t117.length : Int) < 2))) else (qt0oo.j0 k y108 t111 t114 t117 t120 true)) else (qt0oo.j0 k y108 t111 t114 t117 t120 true)) else (qt0oo.j0 k y108 t111 t114 t117 t120 true)))) = some r := H
   have A7 := Zs.mk A70
   clear A70
   replace H := Option.bind_eq_some_iff.mp H
   obtain ⟨t117, A80, H⟩ := H
   replace H : ((qod.f y108).bind fun t120 => (if (t111.length : Int) = (t114.length : Int) then (if (t117.length : Int) = (t120.length : Int) then (if (t111.length : Int) = (y108.length : Int) then (qt0oo.j0 k y108 t111 t114 t117 t120 (decide ((t117.length : Int) < 2))) else (qt0oo.j0 k y108 t111 t114 t117 t120 true)) else (qt0oo.j0 k y108 t111 t114 t117 t120 true)) else (qt0oo.j0 k y108 t111 t114 t117 t120 true))) = some r := H
   have A8 := Zs.mk A80
   clear A80
   replace H := Option.bind_eq_some_iff.mp H
   obtain ⟨t120, A90, H⟩ := H
   replace H : (if (t111.length : Int) = (t114.length : Int) then (if (t117.length : Int) = (t120.length : Int) then (if (t111.length : Int) = (y108.length : Int) then (qt0oo.j0 k y108 t111 t114 t117 t120 (decide ((t117.length : Int) < 2))) else (qt0oo.j0 k y108 t111 t114 t117 t120 true)) else (qt0oo.j0 k y108 t111 t114 t117 t120 true)) else (qt0oo.j0 k y108 t111 t114 t117 t120 true)) = some r := H
   have A9 := Zs.mk A90
   clear A90
   have HC10 := Zs.mk H
   clear H
   go_enter Try.func11, Try.ntmps11
   go_upto_region 8 with (first | ((with_reducible refine gate_callee (f := 27) rfl ?_); refine goesL_ (some 15) rfl rfl Try.func27 (by kernel_rfl) rfl #[] rfl (by (try simp only [List.map_toArray, List.map_cons, List.map_nil]); first | done | rfl | (simp only [List.length_drop, List.length_take]; rfl)) ?_; (with_reducible refine (qt0b.calls  true _ A2.out).mono ?_); rintro e w' ⟨rfl, ⟨nd, rfl⟩⟩; refine ⟨_, rfl, ?_⟩) | ((with_reducible refine gate_callee (f := 43) rfl ?_); refine goesL_ (some 18) rfl rfl Try.func43 (by kernel_rfl) rfl #[.slice A0 l0.length c0] rfl (by (try simp only [List.map_toArray, List.map_cons, List.map_nil]); first | done | rfl | (simp only [List.length_drop, List.length_take]; rfl)) ?_; (with_reducible refine (qt0l.calls k _ _ l0 t102 _ ?side1 ?side2 A4.out).mono ?_); (case side1 => repeat (first | exact HR0.out | (with_reducible refine Kd.C_alloc ?_ _) | (with_reducible refine Kd.C_drewN ?_ _) | (with_reducible refine Kd.C_drew ?_))); (case side2 => exact HC0.out); rintro e w11 ⟨v103, rfl, ho0, hb⟩; refine ⟨_, rfl, ?_⟩; have n0_ := Zs.mk (Kd.R_lower ho0 (below_size (by repeat (first | (with_reducible first | exact HB.out | apply zA | apply zB | apply zC) | exact HB.out)))); have n1_ := Zs.mk (below_step (by repeat (first | (with_reducible first | exact HB.out | apply zA | apply zB | apply zC) | exact HB.out)) hb); clear HB; have HO104 := n0_; have HB := n1_; clear n0_ n1_; (try clear hb); (try clear hb2); (try clear hk); (try clear hi); (try clear ho0)) | ((with_reducible refine gate_dst (N := 19) rfl ?_); (try (refine gate_guard (by rfl) ?_; dsimp only)); refine Kd.R_lit (Kd.scalar (Value.float .f64) (fun _ => rfl)) _ 23 ?hg (N := 19) ?hd (xs := ([4607182418800017408, 4611686018427387904] : List Nat)) (inner := [.float .f64 4607182418800017408, .float .f64 4611686018427387904]) (ok := fun _ => True) (okp := fun _ => True) ?hr ?hp (fun _ hk => hk) trivial (Below.refl _ _) (Nat.le_refl _) (by simp) ?_; (case hd => rfl); (case hg => rfl); (case hr => first | (go_simp; done) | (go_simp; rfl)); (case hp => exact (Reps.one (show Kd.M (Kd.scalar (Value.float .f64) (fun _ => rfl)) _ _ _ 4607182418800017408 [.float .f64 4607182418800017408] from rfl) (Reps.one (show Kd.M (Kd.scalar (Value.float .f64) (fun _ => rfl)) _ _ _ 4611686018427387904 [.float .f64 4611686018427387904] from rfl) (Reps.none _ _)))); intro v106 w12 ho13 hb hg_ hnew_; clear hg_ hnew_; (first | rw [← Ny105.out] at ho13 | (simp only [Int.reduceToNat] at ho13; rw [← Ny105.out] at ho13)); have n0_ := Zs.mk (Kd.R_elder' (by (with_reducible repeat (first | apply Kd.R_alloc | apply Kd.R_drewN | apply Kd.R_drew)); exact HO104.out) (Kd.R_base ho13) hb); have n1_ := Zs.mk (Kd.R_lower (Kd.R_new' ho13 (Kd.R_lt (by (with_reducible repeat (first | apply Kd.R_alloc | apply Kd.R_drewN | apply Kd.R_drew)); exact HO104.out))) (below_size (by repeat (first | (with_reducible first | exact HB.out | apply zA | apply zB | apply zC) | exact HB.out)))); have n2_ := Zs.mk (below_step (by repeat (first | (with_reducible first | exact HB.out | apply zA | apply zB | apply zC) | exact HB.out)) hb); clear HO104; clear HB; have HO104 := n0_; have HO107 := n1_; have HB := n2_; clear n0_ n1_ n2_; clear hb ho13; obtain ⟨Ao15, co15, eo15⟩ := Kd.R_slice HO107.out; subst eo15) | ((with_reducible refine gate_builtin (b := .append) (xs := #[.tmp 18, .tmp 19]) rfl ?_); (try (refine gate_guard (by rfl) ?_; dsimp only)); at_builtin; refine Kd.R_append_rows (Kd.scalar (Value.float .f64) (fun _ => rfl)) (w0 := w) w.heap.size rfl (.tmp 18) (.tmp 19) 70 23 (.float .f64 0) 8 rfl Try.underlying70 info23 rfl (by decide) (by omega) v103 t102 y105 _ _ _ (fun k_ => some k_ ≠ (.slice Ao15 y105.length co15 : Value).ownBlock) (fun _ => False) rfl rfl ?aO ?aR (fun _ _ h => h) (fun _ h => h.elim) ?aF ?aB ?aS ?aL ?_; (case aR => repeat (first | exact (Kd.R_reads' HO107.out).2.2 | (with_reducible refine Kd.C_alloc ?_ _) | (with_reducible refine Kd.C_drewN ?_ _) | (with_reducible refine Kd.C_drew ?_))); (case aB => exact (by repeat (first | (with_reducible first | exact HB.out | apply zA | apply zB | apply zC) | exact HB.out))); (case aF => exact (fun k_ hk => Kd.fresh' (Kd.R_lt (by (with_reducible repeat (first | apply Kd.R_alloc | apply Kd.R_drewN | apply Kd.R_drew)); exact HO107.out)) k_ hk)); (case aO => exact (by (with_reducible repeat (first | apply Kd.R_alloc | apply Kd.R_drewN | apply Kd.R_drew)); exact Kd.R_mono HO104.out (fun _ hk => hk.2))); (case aS => exact (below_size (by repeat (first | (with_reducible first | exact HB.out | apply zA | apply zB | apply zC) | exact HB.out)))); (case aL => have := LMc5.out; omega); intro v109 w14 ho hb hg hat; rw [← Ny108.out] at ho; have n0_ := Zs.mk (Kd.R_after (ok := (fun _ => True)) (by (with_reducible repeat (first | apply Kd.R_alloc | apply Kd.R_drewN | apply Kd.R_drew)); exact HO107.out) hg hat); have n1_ := Zs.mk (hb); have n2_ := Zs.mk (ho); clear HO107; clear HB; clear HO104; have HO107 := n0_; have HB := n1_; have HO110 := n2_; clear n0_ n1_ n2_; clear ho hb hg hat; obtain ⟨Ao16, co16, eo16⟩ := Kd.R_slice HO110.out; subst eo16) | ((with_reducible refine gate_callee (f := 45) rfl ?_); refine goesL_ (some 22) rfl rfl Try.func45 (by kernel_rfl) rfl #[.slice Ao16 y108.length co16] rfl (by (try simp only [List.map_toArray, List.map_cons, List.map_nil]); first | done | rfl | (simp only [List.length_drop, List.length_take]; rfl)) ?_; (with_reducible refine (qos.calls k _ _ y108 t111 _ ?side1 ?side2 A6.out).mono ?_); (case side1 => repeat (first | exact (Kd.R_reads' HO110.out).2.2 | (with_reducible refine Kd.C_alloc ?_ _) | (with_reducible refine Kd.C_drewN ?_ _) | (with_reducible refine Kd.C_drew ?_))); (case side2 => exact (Kd.R_reads' HO110.out).2.1); rintro e w17 ⟨v112, rfl, ho0, hb⟩; refine ⟨_, rfl, ?_⟩; have n0_ := Zs.mk (Kd.R_elder' (by (with_reducible repeat (first | apply Kd.R_alloc | apply Kd.R_drewN | apply Kd.R_drew)); exact HO107.out) (Kd.R_base ho0) hb); have n1_ := Zs.mk (Kd.R_elder' (by (with_reducible repeat (first | apply Kd.R_alloc | apply Kd.R_drewN | apply Kd.R_drew)); exact HO110.out) (Kd.R_base ho0) hb); have n2_ := Zs.mk (Kd.R_lower (Kd.R_new' (Kd.R_new' ho0 (Kd.R_lt (by (with_reducible repeat (first | apply Kd.R_alloc | apply Kd.R_drewN | apply Kd.R_drew)); exact HO107.out))) (Kd.R_lt (by (with_reducible repeat (first | apply Kd.R_alloc | apply Kd.R_drewN | apply Kd.R_drew)); exact HO110.out))) (below_size (by repeat (first | (with_reducible first | exact HB.out | apply zA | apply zB | apply zC) | exact HB.out)))); have n3_ := Zs.mk (below_step (by repeat (first | (with_reducible first | exact HB.out | apply zA | apply zB | apply zC) | exact HB.out)) hb); clear HO107; clear HO110; clear HB; have HO107 := n0_; have HO110 := n1_; have HO113 := n2_; have HB := n3_; clear n0_ n1_ n2_ n3_; (try clear hb); (try clear hb2); (try clear hk); (try clear hi); (try clear ho0)) | ((with_reducible refine gate_callee (f := 45) rfl ?_); refine goesL_ (some 24) rfl rfl Try.func45 (by kernel_rfl) rfl #[.slice Ao16 y108.length co16] rfl (by (try simp only [List.map_toArray, List.map_cons, List.map_nil]); first | done | rfl | (simp only [List.length_drop, List.length_take]; rfl)) ?_; (with_reducible refine (qos.calls k _ _ y108 t114 _ ?side1 ?side2 A7.out).mono ?_); (case side1 => repeat (first | exact (Kd.R_reads' HO110.out).2.2 | (with_reducible refine Kd.C_alloc ?_ _) | (with_reducible refine Kd.C_drewN ?_ _) | (with_reducible refine Kd.C_drew ?_))); (case side2 => exact (Kd.R_reads' HO110.out).2.1); rintro e w18 ⟨v115, rfl, ho0, hb⟩; refine ⟨_, rfl, ?_⟩; have n0_ := Zs.mk (Kd.R_elder' (by (with_reducible repeat (first | apply Kd.R_alloc | apply Kd.R_drewN | apply Kd.R_drew)); exact HO107.out) (Kd.R_base ho0) hb); have n1_ := Zs.mk (Kd.R_elder' (by (with_reducible repeat (first | apply Kd.R_alloc | apply Kd.R_drewN | apply Kd.R_drew)); exact HO110.out) (Kd.R_base ho0) hb); have n2_ := Zs.mk (Kd.R_elder' (by (with_reducible repeat (first | apply Kd.R_alloc | apply Kd.R_drewN | apply Kd.R_drew)); exact HO113.out) (Kd.R_base ho0) hb); have n3_ := Zs.mk (Kd.R_lower (Kd.R_new' (Kd.R_new' (Kd.R_new' ho0 (Kd.R_lt (by (with_reducible repeat (first | apply Kd.R_alloc | apply Kd.R_drewN | apply Kd.R_drew)); exact HO107.out))) (Kd.R_lt (by (with_reducible repeat (first | apply Kd.R_alloc | apply Kd.R_drewN | apply Kd.R_drew)); exact HO110.out))) (Kd.R_lt (by (with_reducible repeat (first | apply Kd.R_alloc | apply Kd.R_drewN | apply Kd.R_drew)); exact HO113.out))) (below_size (by repeat (first | (with_reducible first | exact HB.out | apply zA | apply zB | apply zC) | exact HB.out)))); have n4_ := Zs.mk (below_step (by repeat (first | (with_reducible first | exact HB.out | apply zA | apply zB | apply zC) | exact HB.out)) hb); clear HO107; clear HO110; clear HO113; clear HB; have HO107 := n0_; have HO110 := n1_; have HO113 := n2_; have HO116 := n3_; have HB := n4_; clear n0_ n1_ n2_ n3_ n4_; (try clear hb); (try clear hb2); (try clear hk); (try clear hi); (try clear ho0)) | ((with_reducible refine gate_callee (f := 47) rfl ?_); refine goesL_ (some 26) rfl rfl Try.func47 (by kernel_rfl) rfl #[.slice Ao16 y108.length co16] rfl (by (try simp only [List.map_toArray, List.map_cons, List.map_nil]); first | done | rfl | (simp only [List.length_drop, List.length_take]; rfl)) ?_; (with_reducible refine (qod.calls _ _ y108 t117 _ ?side1 ?side2 A8.out).mono ?_); (case side1 => repeat (first | exact (Kd.R_reads' HO110.out).2.2 | (with_reducible refine Kd.C_alloc ?_ _) | (with_reducible refine Kd.C_drewN ?_ _) | (with_reducible refine Kd.C_drew ?_))); (case side2 => exact (Kd.R_reads' HO110.out).2.1); rintro e w19 ⟨v118, rfl, ho0, hb⟩; refine ⟨_, rfl, ?_⟩; have n0_ := Zs.mk (Kd.R_elder' (by (with_reducible repeat (first | apply Kd.R_alloc | apply Kd.R_drewN | apply Kd.R_drew)); exact HO107.out) (Kd.R_base ho0) hb); have n1_ := Zs.mk (Kd.R_elder' (by (with_reducible repeat (first | apply Kd.R_alloc | apply Kd.R_drewN | apply Kd.R_drew)); exact HO110.out) (Kd.R_base ho0) hb); have n2_ := Zs.mk (Kd.R_elder' (by (with_reducible repeat (first | apply Kd.R_alloc | apply Kd.R_drewN | apply Kd.R_drew)); exact HO113.out) (Kd.R_base ho0) hb); have n3_ := Zs.mk (Kd.R_elder' (by (with_reducible repeat (first | apply Kd.R_alloc | apply Kd.R_drewN | apply Kd.R_drew)); exact HO116.out) (Kd.R_base ho0) hb); have n4_ := Zs.mk (Kd.R_lower (Kd.R_new' (Kd.R_new' (Kd.R_new' (Kd.R_new' ho0 (Kd.R_lt (by (with_reducible repeat (first | apply Kd.R_alloc | apply Kd.R_drewN | apply Kd.R_drew)); exact HO107.out))) (Kd.R_lt (by (with_reducible repeat (first | apply Kd.R_alloc | apply Kd.R_drewN | apply Kd.R_drew)); exact HO110.out))) (Kd.R_lt (by (with_reducible repeat (first | apply Kd.R_alloc | apply Kd.R_drewN | apply Kd.R_drew)); exact HO113.out))) (Kd.R_lt (by (with_reducible repeat (first | apply Kd.R_alloc | apply Kd.R_drewN | apply Kd.R_drew)); exact HO116.out))) (below_size (by repeat (first | (with_reducible first | exact HB.out | apply zA | apply zB | apply zC) | exact HB.out)))); have n5_ := Zs.mk (below_step (by repeat (first | (with_reducible first | exact HB.out | apply zA | apply zB | apply zC) | exact HB.out)) hb); clear HO107; clear HO110; clear HO113; clear HO116; clear HB; have HO107 := n0_; have HO110 := n1_; have HO113 := n2_; have HO116 := n3_; have HO119 := n4_; have HB := n5_; clear n0_ n1_ n2_ n3_ n4_ n5_; (try clear hb); (try clear hb2); (try clear hk); (try clear hi); (try clear ho0)) | ((with_reducible refine gate_callee (f := 47) rfl ?_); refine goesL_ (some 28) rfl rfl Try.func47 (by kernel_rfl) rfl #[.slice Ao16 y108.length co16] rfl (by (try simp only [List.map_toArray, List.map_cons, List.map_nil]); first | done | rfl | (simp only [List.length_drop, List.length_take]; rfl)) ?_; (with_reducible refine (qod.calls _ _ y108 t120 _ ?side1 ?side2 A9.out).mono ?_); (case side1 => repeat (first | exact (Kd.R_reads' HO110.out).2.2 | (with_reducible refine Kd.C_alloc ?_ _) | (with_reducible refine Kd.C_drewN ?_ _) | (with_reducible refine Kd.C_drew ?_))); (case side2 => exact (Kd.R_reads' HO110.out).2.1); rintro e w20 ⟨v121, rfl, ho0, hb⟩; refine ⟨_, rfl, ?_⟩; have n0_ := Zs.mk (Kd.R_elder' (by (with_reducible repeat (first | apply Kd.R_alloc | apply Kd.R_drewN | apply Kd.R_drew)); exact HO107.out) (Kd.R_base ho0) hb); have n1_ := Zs.mk (Kd.R_elder' (by (with_reducible repeat (first | apply Kd.R_alloc | apply Kd.R_drewN | apply Kd.R_drew)); exact HO110.out) (Kd.R_base ho0) hb); have n2_ := Zs.mk (Kd.R_elder' (by (with_reducible repeat (first | apply Kd.R_alloc | apply Kd.R_drewN | apply Kd.R_drew)); exact HO113.out) (Kd.R_base ho0) hb); have n3_ := Zs.mk (Kd.R_elder' (by (with_reducible repeat (first | apply Kd.R_alloc | apply Kd.R_drewN | apply Kd.R_drew)); exact HO116.out) (Kd.R_base ho0) hb); have n4_ := Zs.mk (Kd.R_elder' (by (with_reducible repeat (first | apply Kd.R_alloc | apply Kd.R_drewN | apply Kd.R_drew)); exact HO119.out) (Kd.R_base ho0) hb); have n5_ := Zs.mk (Kd.R_lower (Kd.R_new' (Kd.R_new' (Kd.R_new' (Kd.R_new' (Kd.R_new' ho0 (Kd.R_lt (by (with_reducible repeat (first | apply Kd.R_alloc | apply Kd.R_drewN | apply Kd.R_drew)); exact HO107.out))) (Kd.R_lt (by (with_reducible repeat (first | apply Kd.R_alloc | apply Kd.R_drewN | apply Kd.R_drew)); exact HO110.out))) (Kd.R_lt (by (with_reducible repeat (first | apply Kd.R_alloc | apply Kd.R_drewN | apply Kd.R_drew)); exact HO113.out))) (Kd.R_lt (by (with_reducible repeat (first | apply Kd.R_alloc | apply Kd.R_drewN | apply Kd.R_drew)); exact HO116.out))) (Kd.R_lt (by (with_reducible repeat (first | apply Kd.R_alloc | apply Kd.R_drewN | apply Kd.R_drew)); exact HO119.out))) (below_size (by repeat (first | (with_reducible first | exact HB.out | apply zA | apply zB | apply zC) | exact HB.out)))); have n6_ := Zs.mk (below_step (by repeat (first | (with_reducible first | exact HB.out | apply zA | apply zB | apply zC) | exact HB.out)) hb); clear HO107; clear HO110; clear HO113; clear HO116; clear HO119; clear HB; have HO107 := n0_; have HO110 := n1_; have HO113 := n2_; have HO116 := n3_; have HO119 := n4_; have HO122 := n5_; have HB := n6_; clear n0_ n1_ n2_ n3_ n4_ n5_ n6_; (try clear hb); (try clear hb2); (try clear hk); (try clear hi); (try clear ho0)))
   (try simp only [Act.put, List.setIfInBounds_toArray, List.set_cons_zero, List.set_cons_succ])
   go_cut [52] (fun v52 wc => ∃ (kq : Nat) (x52_9 : Bool), v52 = .bool x52_9 ∧ Zs (qt0oo.j0 kq y108 t111 t114 t117 t120 x52_9 = some r) ∧ Zs (kq ≤ k) ∧ Zs (Kd.R (Kd.scalar (Value.float .f64) (fun _ => rfl)) 23 wc w.heap.size (fun k_ => some k_ ≠ (v112 : Value).ownBlock ∧ some k_ ≠ (v115 : Value).ownBlock ∧ some k_ ≠ (v118 : Value).ownBlock ∧ some k_ ≠ (v121 : Value).ownBlock) (.slice Ao16 y108.length co16) y108) ∧ Zs (Kd.R (Kd.scalar (Value.float .f64) (fun _ => rfl)) 23 wc w.heap.size (fun k_ => some k_ ≠ ((.slice Ao16 y108.length co16) : Value).ownBlock ∧ some k_ ≠ (v115 : Value).ownBlock ∧ some k_ ≠ (v118 : Value).ownBlock ∧ some k_ ≠ (v121 : Value).ownBlock) v112 t111) ∧ Zs (Kd.R (Kd.scalar (Value.float .f64) (fun _ => rfl)) 23 wc w.heap.size (fun k_ => some k_ ≠ ((.slice Ao16 y108.length co16) : Value).ownBlock ∧ some k_ ≠ (v112 : Value).ownBlock ∧ some k_ ≠ (v118 : Value).ownBlock ∧ some k_ ≠ (v121 : Value).ownBlock) v115 t114) ∧ Zs (Kd.R (Kd.scalar (Value.float .f64) (fun _ => rfl)) 23 wc w.heap.size (fun k_ => some k_ ≠ ((.slice Ao16 y108.length co16) : Value).ownBlock ∧ some k_ ≠ (v112 : Value).ownBlock ∧ some k_ ≠ (v115 : Value).ownBlock ∧ some k_ ≠ (v121 : Value).ownBlock) v118 t117) ∧ Zs (Kd.R (Kd.scalar (Value.float .f64) (fun _ => rfl)) 23 wc w.heap.size (fun k_ => some k_ ≠ ((.slice Ao16 y108.length co16) : Value).ownBlock ∧ some k_ ≠ (v112 : Value).ownBlock ∧ some k_ ≠ (v115 : Value).ownBlock ∧ some k_ ≠ (v118 : Value).ownBlock) v121 t120) ∧ Zs (Below w.heap.size w wc))
   case first =>
    have H := HC10.out
    clear HC10
    by_cases c21 : (t111.length : Int) = (t114.length : Int)
    ·rw [if_pos c21] at H
     have c21b0 : ((t111.length : Int) == (t114.length : Int)) = true := beq_iff_eq.mpr c21
     have c21b1 : ((t111.length : Int) != (t114.length : Int)) = false := bne_eq_false_iff_eq.mpr c21
     have c21b2 : (t111.length == t114.length) = true := by first | simpa using c21 | (simp at c21 ⊢; omega)
     clear c21
     (first | rw [c21b0] | (simp only [i64_w, i32_w]; rw [c21b0]) | skip)
     by_cases c22 : (t117.length : Int) = (t120.length : Int)
     ·rw [if_pos c22] at H
      have c22b0 : ((t117.length : Int) == (t120.length : Int)) = true := beq_iff_eq.mpr c22
      have c22b1 : ((t117.length : Int) != (t120.length : Int)) = false := bne_eq_false_iff_eq.mpr c22
      have c22b2 : (t117.length == t120.length) = true := by first | simpa using c22 | (simp at c22 ⊢; omega)
      clear c22
      by_cases c23 : (t111.length : Int) = (y108.length : Int)
      ·rw [if_pos c23] at H
       have c23b0 : ((t111.length : Int) == (y108.length : Int)) = true := beq_iff_eq.mpr c23
       have c23b1 : ((t111.length : Int) != (y108.length : Int)) = false := bne_eq_false_iff_eq.mpr c23
       have c23b2 : (t111.length == y108.length) = true := by first | simpa using c23 | (simp at c23 ⊢; omega)
       clear c23
       have H' := Zs.mk H
       clear H
       obtain ⟨Ao24, co24, eo24⟩ := Kd.R_slice HO113.out
       subst eo24
       obtain ⟨Ao25, co25, eo25⟩ := Kd.R_slice HO116.out
       subst eo25
       obtain ⟨Ao26, co26, eo26⟩ := Kd.R_slice HO119.out
       subst eo26
       obtain ⟨Ao27, co27, eo27⟩ := Kd.R_slice HO122.out
       subst eo27
       go_wp2
       go_meet
       case rel => exact ⟨_, (decide ((t117.length : Int) < 2)), (by first | rfl | (simp; done) | (simp [*]; done)), H', ⟨by first | omega | exact Nat.le_refl _⟩, ⟨by (with_reducible repeat (first | apply Kd.R_alloc | apply Kd.R_drewN | apply Kd.R_drew)); exact Kd.R_mono HO110.out (fun _ hk => ⟨hk.1.1.1.2, ⟨hk.1.1.2, ⟨hk.1.2, hk.2⟩⟩⟩)⟩, ⟨by (with_reducible repeat (first | apply Kd.R_alloc | apply Kd.R_drewN | apply Kd.R_drew)); exact Kd.R_mono HO113.out (fun _ hk => ⟨hk.1.1.1.2, ⟨hk.1.1.2, ⟨hk.1.2, hk.2⟩⟩⟩)⟩, ⟨by (with_reducible repeat (first | apply Kd.R_alloc | apply Kd.R_drewN | apply Kd.R_drew)); exact Kd.R_mono HO116.out (fun _ hk => ⟨hk.1.1.1.2, ⟨hk.1.1.2, ⟨hk.1.2, hk.2⟩⟩⟩)⟩, ⟨by (with_reducible repeat (first | apply Kd.R_alloc | apply Kd.R_drewN | apply Kd.R_drew)); exact Kd.R_mono HO119.out (fun _ hk => ⟨hk.1.1.1.2, ⟨hk.1.1.2, ⟨hk.1.2, hk.2⟩⟩⟩)⟩, ⟨by (with_reducible repeat (first | apply Kd.R_alloc | apply Kd.R_drewN | apply Kd.R_drew)); exact Kd.R_mono HO122.out (fun _ hk => ⟨hk.1.1.1.2, ⟨hk.1.1.2, ⟨hk.1.2, hk.2⟩⟩⟩)⟩, ⟨by repeat (first | (with_reducible first | exact HB.out | apply zA | apply zB | apply zC) | exact HB.out)⟩⟩
      ·rw [if_neg c23] at H
       have c23b0 : ((t111.length : Int) == (y108.length : Int)) = false := beq_eq_false_iff_ne.mpr c23
       have c23b1 : ((t111.length : Int) != (y108.length : Int)) = true := bne_iff_ne.mpr c23
       have c23b2 : (t111.length == y108.length) = false := by first | simpa using c23 | (simp at c23 ⊢; omega)
       have H' := Zs.mk H
       clear H
       obtain ⟨Ao28, co28, eo28⟩ := Kd.R_slice HO113.out
       subst eo28
       obtain ⟨Ao29, co29, eo29⟩ := Kd.R_slice HO116.out
       subst eo29
       obtain ⟨Ao30, co30, eo30⟩ := Kd.R_slice HO119.out
       subst eo30
       obtain ⟨Ao31, co31, eo31⟩ := Kd.R_slice HO122.out
       subst eo31
       go_wp2
       go_meet
       case rel => exact ⟨_, (true), (by first | rfl | (simp; done) | (simp [*]; done)), H', ⟨by first | omega | exact Nat.le_refl _⟩, ⟨by (with_reducible repeat (first | apply Kd.R_alloc | apply Kd.R_drewN | apply Kd.R_drew)); exact Kd.R_mono HO110.out (fun _ hk => ⟨hk.1.1.1.2, ⟨hk.1.1.2, ⟨hk.1.2, hk.2⟩⟩⟩)⟩, ⟨by (with_reducible repeat (first | apply Kd.R_alloc | apply Kd.R_drewN | apply Kd.R_drew)); exact Kd.R_mono HO113.out (fun _ hk => ⟨hk.1.1.1.2, ⟨hk.1.1.2, ⟨hk.1.2, hk.2⟩⟩⟩)⟩, ⟨by (with_reducible repeat (first | apply Kd.R_alloc | apply Kd.R_drewN | apply Kd.R_drew)); exact Kd.R_mono HO116.out (fun _ hk => ⟨hk.1.1.1.2, ⟨hk.1.1.2, ⟨hk.1.2, hk.2⟩⟩⟩)⟩, ⟨by (with_reducible repeat (first | apply Kd.R_alloc | apply Kd.R_drewN | apply Kd.R_drew)); exact Kd.R_mono HO119.out (fun _ hk => ⟨hk.1.1.1.2, ⟨hk.1.1.2, ⟨hk.1.2, hk.2⟩⟩⟩)⟩, ⟨by (with_reducible repeat (first | apply Kd.R_alloc | apply Kd.R_drewN | apply Kd.R_drew)); exact Kd.R_mono HO122.out (fun _ hk => ⟨hk.1.1.1.2, ⟨hk.1.1.2, ⟨hk.1.2, hk.2⟩⟩⟩)⟩, ⟨by repeat (first | (with_reducible first | exact HB.out | apply zA | apply zB | apply zC) | exact HB.out)⟩⟩
     ·rw [if_neg c22] at H
      have c22b0 : ((t117.length : Int) == (t120.length : Int)) = false := beq_eq_false_iff_ne.mpr c22
      have c22b1 : ((t117.length : Int) != (t120.length : Int)) = true := bne_iff_ne.mpr c22
      have c22b2 : (t117.length == t120.length) = false := by first | simpa using c22 | (simp at c22 ⊢; omega)
      have H' := Zs.mk H
      clear H
      obtain ⟨Ao32, co32, eo32⟩ := Kd.R_slice HO113.out
      subst eo32
      obtain ⟨Ao33, co33, eo33⟩ := Kd.R_slice HO116.out
      subst eo33
      obtain ⟨Ao34, co34, eo34⟩ := Kd.R_slice HO119.out
      subst eo34
      obtain ⟨Ao35, co35, eo35⟩ := Kd.R_slice HO122.out
      subst eo35
      go_wp2
      go_meet
      case rel => exact ⟨_, (true), (by first | rfl | (simp; done) | (simp [*]; done)), H', ⟨by first | omega | exact Nat.le_refl _⟩, ⟨by (with_reducible repeat (first | apply Kd.R_alloc | apply Kd.R_drewN | apply Kd.R_drew)); exact Kd.R_mono HO110.out (fun _ hk => ⟨hk.1.1.1.2, ⟨hk.1.1.2, ⟨hk.1.2, hk.2⟩⟩⟩)⟩, ⟨by (with_reducible repeat (first | apply Kd.R_alloc | apply Kd.R_drewN | apply Kd.R_drew)); exact Kd.R_mono HO113.out (fun _ hk => ⟨hk.1.1.1.2, ⟨hk.1.1.2, ⟨hk.1.2, hk.2⟩⟩⟩)⟩, ⟨by (with_reducible repeat (first | apply Kd.R_alloc | apply Kd.R_drewN | apply Kd.R_drew)); exact Kd.R_mono HO116.out (fun _ hk => ⟨hk.1.1.1.2, ⟨hk.1.1.2, ⟨hk.1.2, hk.2⟩⟩⟩)⟩, ⟨by (with_reducible repeat (first | apply Kd.R_alloc | apply Kd.R_drewN | apply Kd.R_drew)); exact Kd.R_mono HO119.out (fun _ hk => ⟨hk.1.1.1.2, ⟨hk.1.1.2, ⟨hk.1.2, hk.2⟩⟩⟩)⟩, ⟨by (with_reducible repeat (first | apply Kd.R_alloc | apply Kd.R_drewN | apply Kd.R_drew)); exact Kd.R_mono HO122.out (fun _ hk => ⟨hk.1.1.1.2, ⟨hk.1.1.2, ⟨hk.1.2, hk.2⟩⟩⟩)⟩, ⟨by repeat (first | (with_reducible first | exact HB.out | apply zA | apply zB | apply zC) | exact HB.out)⟩⟩
    ·rw [if_neg c21] at H
     have c21b0 : ((t111.length : Int) == (t114.length : Int)) = false := beq_eq_false_iff_ne.mpr c21
     have c21b1 : ((t111.length : Int) != (t114.length : Int)) = true := bne_iff_ne.mpr c21
     have c21b2 : (t111.length == t114.length) = false := by first | simpa using c21 | (simp at c21 ⊢; omega)
     (first | rw [c21b0] | (simp only [i64_w, i32_w]; rw [c21b0]) | skip)
     have H' := Zs.mk H
     clear H
     obtain ⟨Ao36, co36, eo36⟩ := Kd.R_slice HO113.out
     subst eo36
     obtain ⟨Ao37, co37, eo37⟩ := Kd.R_slice HO116.out
     subst eo37
     go_wp2
     go_meet
     case rel => exact ⟨_, (true), (by first | rfl | (simp; done) | (simp [*]; done)), H', ⟨by first | omega | exact Nat.le_refl _⟩, ⟨by (with_reducible repeat (first | apply Kd.R_alloc | apply Kd.R_drewN | apply Kd.R_drew)); exact Kd.R_mono HO110.out (fun _ hk => ⟨hk.1.1.1.2, ⟨hk.1.1.2, ⟨hk.1.2, hk.2⟩⟩⟩)⟩, ⟨by (with_reducible repeat (first | apply Kd.R_alloc | apply Kd.R_drewN | apply Kd.R_drew)); exact Kd.R_mono HO113.out (fun _ hk => ⟨hk.1.1.1.2, ⟨hk.1.1.2, ⟨hk.1.2, hk.2⟩⟩⟩)⟩, ⟨by (with_reducible repeat (first | apply Kd.R_alloc | apply Kd.R_drewN | apply Kd.R_drew)); exact Kd.R_mono HO116.out (fun _ hk => ⟨hk.1.1.1.2, ⟨hk.1.1.2, ⟨hk.1.2, hk.2⟩⟩⟩)⟩, ⟨by (with_reducible repeat (first | apply Kd.R_alloc | apply Kd.R_drewN | apply Kd.R_drew)); exact Kd.R_mono HO119.out (fun _ hk => ⟨hk.1.1.1.2, ⟨hk.1.1.2, ⟨hk.1.2, hk.2⟩⟩⟩)⟩, ⟨by (with_reducible repeat (first | apply Kd.R_alloc | apply Kd.R_drewN | apply Kd.R_drew)); exact Kd.R_mono HO122.out (fun _ hk => ⟨hk.1.1.1.2, ⟨hk.1.1.2, ⟨hk.1.2, hk.2⟩⟩⟩)⟩, ⟨by repeat (first | (with_reducible first | exact HB.out | apply zA | apply zB | apply zC) | exact HB.out)⟩⟩
   case rest =>
    clear HC10
    try clear c3; try clear c5; try clear c21; try clear c21b0; try clear c21b1; try clear c21b2; try clear c22; try clear c22b0; try clear c22b1; try clear c22b2; try clear c23; try clear c23b0; try clear c23b1; try clear c23b2
    obtain ⟨kq, x52_9, rfl, HA, HJ9, HO_3, HO_4, HO_5, HO_6, HO_7, HB⟩ := hcut
    cases kq with
    | zero => exact absurd HA.out (by simp [qt0oo.j0])
    | succ kj9 =>
     have H := HA.out
     clear HA
     simp only [qt0oo.j0] at H
     by_cases c38 : x52_9 = true
     ·subst c38
      have H1 : (some false) = some r := by rw [if_pos rfl] at H; exact H
      clear H
      have H := H1
      clear H1
      exact absurd (Option.some.inj H).symm hrt
     ·replace c38 := Bool.eq_false_iff.mpr c38
      subst c38
      have H1 : (qt0oo.l0 kj9 y108 t111 t114 t117 t120 ([] : List Int) 0) = some r := by rw [if_neg (show ¬ (false = true) by decide)] at H; exact H
      clear H
      have H := H1
      clear H1
      have H' := Zs.mk H
      clear H
      go_wp2
      go_loopg [8, 9] kj9 (fun kq v8 v9 w' => ∃ (x8_2 : List Int) (x9_2 : Int), v9 = .int .i64 x9_2 ∧ Zs (qt0oo.l0 kq y108 t111 t114 t117 t120 x8_2 x9_2 = some r) ∧ Zs (kq ≤ kj9) ∧ Zs (Kd.R (Kd.scalar (Value.float .f64) (fun _ => rfl)) 23 w' w.heap.size (fun k_ => some k_ ≠ (v112 : Value).ownBlock ∧ some k_ ≠ (v115 : Value).ownBlock ∧ some k_ ≠ (v118 : Value).ownBlock ∧ some k_ ≠ (v121 : Value).ownBlock) (.slice Ao16 y108.length co16) y108) ∧ Zs (Kd.R (Kd.scalar (Value.float .f64) (fun _ => rfl)) 23 w' w.heap.size (fun k_ => some k_ ≠ ((.slice Ao16 y108.length co16) : Value).ownBlock ∧ some k_ ≠ (v115 : Value).ownBlock ∧ some k_ ≠ (v118 : Value).ownBlock ∧ some k_ ≠ (v121 : Value).ownBlock) v112 t111) ∧ Zs (Kd.R (Kd.scalar (Value.float .f64) (fun _ => rfl)) 23 w' w.heap.size (fun k_ => some k_ ≠ ((.slice Ao16 y108.length co16) : Value).ownBlock ∧ some k_ ≠ (v112 : Value).ownBlock ∧ some k_ ≠ (v118 : Value).ownBlock ∧ some k_ ≠ (v121 : Value).ownBlock) v115 t114) ∧ Zs (Kd.R (Kd.scalar (Value.float .f64) (fun _ => rfl)) 23 w' w.heap.size (fun k_ => some k_ ≠ ((.slice Ao16 y108.length co16) : Value).ownBlock ∧ some k_ ≠ (v112 : Value).ownBlock ∧ some k_ ≠ (v115 : Value).ownBlock ∧ some k_ ≠ (v121 : Value).ownBlock) v118 t117) ∧ Zs (Kd.R (Kd.scalar (Value.float .f64) (fun _ => rfl)) 23 w' w.heap.size (fun k_ => some k_ ≠ ((.slice Ao16 y108.length co16) : Value).ownBlock ∧ some k_ ≠ (v112 : Value).ownBlock ∧ some k_ ≠ (v115 : Value).ownBlock ∧ some k_ ≠ (v118 : Value).ownBlock) v121 t120) ∧ Zs (Kd.R (Kd.int .u64) 22 w' w.heap.size (fun _ => True) v8 x8_2) ∧ Zs (Below w.heap.size w w'))
      case atStart => exact ⟨(([] : List Int)), (0), (by first | rfl | (simp; done) | (simp [*]; done)), H', ⟨Nat.le_refl _⟩, ⟨by (with_reducible repeat (first | apply Kd.R_alloc | apply Kd.R_drewN | apply Kd.R_drew)); exact HO_3.out⟩, ⟨by (with_reducible repeat (first | apply Kd.R_alloc | apply Kd.R_drewN | apply Kd.R_drew)); exact HO_4.out⟩, ⟨by (with_reducible repeat (first | apply Kd.R_alloc | apply Kd.R_drewN | apply Kd.R_drew)); exact HO_5.out⟩, ⟨by (with_reducible repeat (first | apply Kd.R_alloc | apply Kd.R_drewN | apply Kd.R_drew)); exact HO_6.out⟩, ⟨by (with_reducible repeat (first | apply Kd.R_alloc | apply Kd.R_drewN | apply Kd.R_drew)); exact HO_7.out⟩, ⟨by first | exact Kd.R_nil _ _ _ _ _ | exact Kd.N_nil _ _ _ _ _ | exact Kd.V_nil _ _ _ _ _ | exact Kd.Q_nil _ _ _ _ _ | exact Kd.S_nil _ _ _ _ _⟩, ⟨by repeat (first | (with_reducible first | exact HB.out | apply zA | apply zB | apply zC) | exact HB.out)⟩⟩
      case round =>
       clear H'
       try clear c3; try clear c5; try clear c21; try clear c21b0; try clear c21b1; try clear c21b2; try clear c22; try clear c22b0; try clear c22b1; try clear c22b2; try clear c23; try clear c23b0; try clear c23b1; try clear c23b2; try clear c38
       obtain ⟨x8_2, x9_2, rfl, HA, HK2, HO_3, HO_4, HO_5, HO_6, HO_7, HO_8, HB⟩ := hrel
       cases gk with
       | zero => exact absurd HA.out (by simp [qt0oo.l0])
       | succ k2 =>
        have H := HA.out
        clear HA
        simp only [qt0oo.l0] at H
        by_cases c39 : x9_2 < (t114.length : Int)
        ·rw [if_pos c39] at H
         have c39b0 : decide (x9_2 < (t114.length : Int)) = true := decide_eq_true c39
         clear c39
         by_cases c40 : 0 ≤ x9_2
         ·rw [if_pos c40] at H
          have c40b0 : decide (0 ≤ x9_2) = true := decide_eq_true c40
          clear c40
          by_cases c41 : x8_2.length < 17592186044416
          ·rw [if_pos c41] at H
           have LMc41 := Zs.mk c41
           clear c41
           obtain ⟨y124, hy124⟩ : ∃ y_ : List Int, y_ = (x8_2 ++ [((rdOf (0 : Nat) t114 x9_2 : Nat) : Int)]) := ⟨_, rfl⟩
           replace H : (qt0oo.l0 k2 y108 t111 t114 t117 t120 y124 (wrap64 (x9_2 + 1))) = some r := by first | (rw [hy124]; with_reducible exact H) | (have H2_ := (Option.bind_some _ _).symm.trans H; rw [hy124]; with_reducible exact H2_) | (have H2_ := (Option.bind_some _ _).symm.trans H; with_reducible exact H2_) | with_reducible exact H | (rw [hy124]; exact H) | exact H
           have Ny124 := Zs.mk hy124
           clear hy124
           have H' := Zs.mk H
           clear H
           obtain ⟨Ao42, co42, eo42⟩ := Kd.R_slice HO_5.out
           subst eo42
           have p123 : 0 ≤ (x9_2 : Int) := of_decide_eq_true (by first | (with_reducible assumption) | assumption)
           have q123 : x9_2 < (t114.length : Int) := of_decide_eq_true (by first | (with_reducible assumption) | assumption)
           obtain ⟨ad123, e123, hx123_0⟩ := Kd.at_flo (Kd.R_reads' HO_5.out).2.2 x9_2 p123 q123
           cases e123
           replace p123 := eq_true p123
           replace q123 := eq_true q123
           go_wp2_with (first | ((with_reducible refine gate_builtin (b := .append) (xs := #[.tmp 59, .tmp 65]) rfl ?_); (try (refine gate_guard (by rfl) ?_; dsimp only)); at_builtin; refine Kd.R_append (Kd.int .u64) (w0 := w) w.heap.size rfl (.tmp 59) (.tmp 65) 84 22 (.int .u64 0) 8 rfl Try.underlying84 info22 rfl (by decide) (by omega) u8 x8_2 ((rdOf (0 : Nat) t114 x9_2 : Nat) : Int) [.int .u64 ((rdOf (0 : Nat) t114 x9_2 : Nat) : Int)] (fun _ => True) (fun _ => False) rfl rfl ?aP (fun _ hk => hk.elim) ?aF ?aO ?aB ?aS ?aL ?_; (case aP => exact rfl); (case aB => exact (by repeat (first | (with_reducible first | exact HB.out | apply zA | apply zB | apply zC) | exact HB.out))); (case aF => exact (fun _ _ => trivial)); (case aO => exact (by (with_reducible repeat (first | apply Kd.R_alloc | apply Kd.R_drewN | apply Kd.R_drew)); exact HO_8.out)); (case aS => exact (below_size (by repeat (first | (with_reducible first | exact HB.out | apply zA | apply zB | apply zC) | exact HB.out)))); (case aL => have := LMc41.out; omega); intro v125 w43 ho hb hg hat; rw [← Ny124.out] at ho; have n0_ := Zs.mk (Kd.R_over' (by (with_reducible repeat (first | apply Kd.R_alloc | apply Kd.R_drewN | apply Kd.R_drew)); exact HO_3.out) (Kd.R_typed (by (with_reducible repeat (first | apply Kd.R_alloc | apply Kd.R_drewN | apply Kd.R_drew)); exact HO_8.out)) (by decide) hg); have n1_ := Zs.mk (Kd.R_over' (by (with_reducible repeat (first | apply Kd.R_alloc | apply Kd.R_drewN | apply Kd.R_drew)); exact HO_4.out) (Kd.R_typed (by (with_reducible repeat (first | apply Kd.R_alloc | apply Kd.R_drewN | apply Kd.R_drew)); exact HO_8.out)) (by decide) hg); have n2_ := Zs.mk (Kd.R_over' (by (with_reducible repeat (first | apply Kd.R_alloc | apply Kd.R_drewN | apply Kd.R_drew)); exact HO_5.out) (Kd.R_typed (by (with_reducible repeat (first | apply Kd.R_alloc | apply Kd.R_drewN | apply Kd.R_drew)); exact HO_8.out)) (by decide) hg); have n3_ := Zs.mk (Kd.R_over' (by (with_reducible repeat (first | apply Kd.R_alloc | apply Kd.R_drewN | apply Kd.R_drew)); exact HO_6.out) (Kd.R_typed (by (with_reducible repeat (first | apply Kd.R_alloc | apply Kd.R_drewN | apply Kd.R_drew)); exact HO_8.out)) (by decide) hg); have n4_ := Zs.mk (Kd.R_over' (by (with_reducible repeat (first | apply Kd.R_alloc | apply Kd.R_drewN | apply Kd.R_drew)); exact HO_7.out) (Kd.R_typed (by (with_reducible repeat (first | apply Kd.R_alloc | apply Kd.R_drewN | apply Kd.R_drew)); exact HO_8.out)) (by decide) hg); have n5_ := Zs.mk (hb); have n6_ := Zs.mk (ho); clear HO_3; clear HO_4; clear HO_5; clear HO_6; clear HO_7; clear HB; clear HO_8; have HO_3 := n0_; have HO_4 := n1_; have HO_5 := n2_; have HO_6 := n3_; have HO_7 := n4_; have HB := n5_; have HO126 := n6_; clear n0_ n1_ n2_ n3_ n4_ n5_ n6_; clear ho hb hg hat))
           go_roundg k2
           case measure => have := HJ9.out; have := HK2.out; omega
           case rel => exact ⟨(y124), (wrap64 (x9_2 + 1)), (by first | rfl | (simp; done) | (simp [*]; done)), H', ⟨by have := HJ9.out; have := HK2.out; omega⟩, ⟨by (with_reducible repeat (first | apply Kd.R_alloc | apply Kd.R_drewN | apply Kd.R_drew)); exact HO_3.out⟩, ⟨by (with_reducible repeat (first | apply Kd.R_alloc | apply Kd.R_drewN | apply Kd.R_drew)); exact HO_4.out⟩, ⟨by (with_reducible repeat (first | apply Kd.R_alloc | apply Kd.R_drewN | apply Kd.R_drew)); exact HO_5.out⟩, ⟨by (with_reducible repeat (first | apply Kd.R_alloc | apply Kd.R_drewN | apply Kd.R_drew)); exact HO_6.out⟩, ⟨by (with_reducible repeat (first | apply Kd.R_alloc | apply Kd.R_drewN | apply Kd.R_drew)); exact HO_7.out⟩, ⟨by (with_reducible repeat (first | apply Kd.R_alloc | apply Kd.R_drewN | apply Kd.R_drew)); exact HO126.out⟩, ⟨by repeat (first | (with_reducible first | exact HB.out | apply zA | apply zB | apply zC) | exact HB.out)⟩⟩
          ·rw [if_neg c41] at H
           exact absurd H (by simp)
         ·rw [if_neg c40] at H
          exact absurd H (by simp)
        ·rw [if_neg c39] at H
         have c39b0 : decide (x9_2 < (t114.length : Int)) = false := decide_eq_false c39
         clear c39
         have H' := Zs.mk H
         clear H
         obtain ⟨Ao44, co44, eo44⟩ := Kd.R_slice HO_5.out
         subst eo44
         go_wp2
         go_loopg [8, 10] k2 (fun kq v8 v10 w' => ∃ (x8_3 : List Int) (x10_3 : Int), v10 = .int .i64 x10_3 ∧ Zs (qt0oo.l1 kq y108 t111 t114 t117 t120 x8_3 x10_3 = some r) ∧ Zs (kq ≤ k2) ∧ Zs (Kd.R (Kd.scalar (Value.float .f64) (fun _ => rfl)) 23 w' w.heap.size (fun k_ => some k_ ≠ (v112 : Value).ownBlock ∧ some k_ ≠ ((.slice Ao44 t114.length co44) : Value).ownBlock ∧ some k_ ≠ (v118 : Value).ownBlock ∧ some k_ ≠ (v121 : Value).ownBlock) (.slice Ao16 y108.length co16) y108) ∧ Zs (Kd.R (Kd.scalar (Value.float .f64) (fun _ => rfl)) 23 w' w.heap.size (fun k_ => some k_ ≠ ((.slice Ao16 y108.length co16) : Value).ownBlock ∧ some k_ ≠ ((.slice Ao44 t114.length co44) : Value).ownBlock ∧ some k_ ≠ (v118 : Value).ownBlock ∧ some k_ ≠ (v121 : Value).ownBlock) v112 t111) ∧ Zs (Kd.R (Kd.scalar (Value.float .f64) (fun _ => rfl)) 23 w' w.heap.size (fun k_ => some k_ ≠ ((.slice Ao16 y108.length co16) : Value).ownBlock ∧ some k_ ≠ (v112 : Value).ownBlock ∧ some k_ ≠ (v118 : Value).ownBlock ∧ some k_ ≠ (v121 : Value).ownBlock) (.slice Ao44 t114.length co44) t114) ∧ Zs (Kd.R (Kd.scalar (Value.float .f64) (fun _ => rfl)) 23 w' w.heap.size (fun k_ => some k_ ≠ ((.slice Ao16 y108.length co16) : Value).ownBlock ∧ some k_ ≠ (v112 : Value).ownBlock ∧ some k_ ≠ ((.slice Ao44 t114.length co44) : Value).ownBlock ∧ some k_ ≠ (v121 : Value).ownBlock) v118 t117) ∧ Zs (Kd.R (Kd.scalar (Value.float .f64) (fun _ => rfl)) 23 w' w.heap.size (fun k_ => some k_ ≠ ((.slice Ao16 y108.length co16) : Value).ownBlock ∧ some k_ ≠ (v112 : Value).ownBlock ∧ some k_ ≠ ((.slice Ao44 t114.length co44) : Value).ownBlock ∧ some k_ ≠ (v118 : Value).ownBlock) v121 t120) ∧ Zs (Kd.R (Kd.int .u64) 22 w' w.heap.size (fun _ => True) v8 x8_3) ∧ Zs (Below w.heap.size w w'))
         case atStart => exact ⟨(x8_2), (0), (by first | rfl | (simp; done) | (simp [*]; done)), H', ⟨Nat.le_refl _⟩, ⟨by (with_reducible repeat (first | apply Kd.R_alloc | apply Kd.R_drewN | apply Kd.R_drew)); exact HO_3.out⟩, ⟨by (with_reducible repeat (first | apply Kd.R_alloc | apply Kd.R_drewN | apply Kd.R_drew)); exact HO_4.out⟩, ⟨by (with_reducible repeat (first | apply Kd.R_alloc | apply Kd.R_drewN | apply Kd.R_drew)); exact HO_5.out⟩, ⟨by (with_reducible repeat (first | apply Kd.R_alloc | apply Kd.R_drewN | apply Kd.R_drew)); exact HO_6.out⟩, ⟨by (with_reducible repeat (first | apply Kd.R_alloc | apply Kd.R_drewN | apply Kd.R_drew)); exact HO_7.out⟩, ⟨by (with_reducible repeat (first | apply Kd.R_alloc | apply Kd.R_drewN | apply Kd.R_drew)); exact HO_8.out⟩, ⟨by repeat (first | (with_reducible first | exact HB.out | apply zA | apply zB | apply zC) | exact HB.out)⟩⟩
         case round =>
          clear H'
          try clear c3; try clear c5; try clear c21; try clear c21b0; try clear c21b1; try clear c21b2; try clear c22; try clear c22b0; try clear c22b1; try clear c22b2; try clear c23; try clear c23b0; try clear c23b1; try clear c23b2; try clear c38; try clear c39; try clear c39b0; try clear c40; try clear c40b0; try clear c41; try clear hx123_0; try clear p123; try clear q123
          obtain ⟨x8_3, x10_3, rfl, HA, HK3, HO_3, HO_4, HO_5, HO_6, HO_7, HO_8, HB⟩ := hrel
          cases gk with
          | zero => exact absurd HA.out (by simp [qt0oo.l1])
          | succ k3 =>
           have H := HA.out
           clear HA
           simp only [qt0oo.l1] at H
           by_cases c45 : x10_3 < (t120.length : Int)
           ·rw [if_pos c45] at H
            have c45b0 : decide (x10_3 < (t120.length : Int)) = true := decide_eq_true c45
            clear c45
            by_cases c46 : 0 ≤ x10_3
            ·rw [if_pos c46] at H
             have c46b0 : decide (0 ≤ x10_3) = true := decide_eq_true c46
             clear c46
             by_cases c47 : x8_3.length < 17592186044416
             ·rw [if_pos c47] at H
              have LMc47 := Zs.mk c47
              clear c47
              obtain ⟨y128, hy128⟩ : ∃ y_ : List Int, y_ = (x8_3 ++ [((rdOf (0 : Nat) t120 x10_3 : Nat) : Int)]) := ⟨_, rfl⟩
              replace H : (qt0oo.l1 k3 y108 t111 t114 t117 t120 y128 (wrap64 (x10_3 + 1))) = some r := by first | (rw [hy128]; with_reducible exact H) | (have H2_ := (Option.bind_some _ _).symm.trans H; rw [hy128]; with_reducible exact H2_) | (have H2_ := (Option.bind_some _ _).symm.trans H; with_reducible exact H2_) | with_reducible exact H | (rw [hy128]; exact H) | exact H
              have Ny128 := Zs.mk hy128
              clear hy128
              have H' := Zs.mk H
              clear H
              obtain ⟨Ao48, co48, eo48⟩ := Kd.R_slice HO_7.out
              subst eo48
              have p127 : 0 ≤ (x10_3 : Int) := of_decide_eq_true (by first | (with_reducible assumption) | assumption)
              have q127 : x10_3 < (t120.length : Int) := of_decide_eq_true (by first | (with_reducible assumption) | assumption)
              obtain ⟨ad127, e127, hx127_0⟩ := Kd.at_flo (Kd.R_reads' HO_7.out).2.2 x10_3 p127 q127
              cases e127
              replace p127 := eq_true p127
              replace q127 := eq_true q127
              go_wp2_with (first | ((with_reducible refine gate_builtin (b := .append) (xs := #[.tmp 73, .tmp 79]) rfl ?_); (try (refine gate_guard (by rfl) ?_; dsimp only)); at_builtin; refine Kd.R_append (Kd.int .u64) (w0 := w) w.heap.size rfl (.tmp 73) (.tmp 79) 84 22 (.int .u64 0) 8 rfl Try.underlying84 info22 rfl (by decide) (by omega) u8 x8_3 ((rdOf (0 : Nat) t120 x10_3 : Nat) : Int) [.int .u64 ((rdOf (0 : Nat) t120 x10_3 : Nat) : Int)] (fun _ => True) (fun _ => False) rfl rfl ?aP (fun _ hk => hk.elim) ?aF ?aO ?aB ?aS ?aL ?_; (case aP => exact rfl); (case aB => exact (by repeat (first | (with_reducible first | exact HB.out | apply zA | apply zB | apply zC) | exact HB.out))); (case aF => exact (fun _ _ => trivial)); (case aO => exact (by (with_reducible repeat (first | apply Kd.R_alloc | apply Kd.R_drewN | apply Kd.R_drew)); exact HO_8.out)); (case aS => exact (below_size (by repeat (first | (with_reducible first | exact HB.out | apply zA | apply zB | apply zC) | exact HB.out)))); (case aL => have := LMc47.out; omega); intro v129 w49 ho hb hg hat; rw [← Ny128.out] at ho; have n0_ := Zs.mk (Kd.R_over' (by (with_reducible repeat (first | apply Kd.R_alloc | apply Kd.R_drewN | apply Kd.R_drew)); exact HO_3.out) (Kd.R_typed (by (with_reducible repeat (first | apply Kd.R_alloc | apply Kd.R_drewN | apply Kd.R_drew)); exact HO_8.out)) (by decide) hg); have n1_ := Zs.mk (Kd.R_over' (by (with_reducible repeat (first | apply Kd.R_alloc | apply Kd.R_drewN | apply Kd.R_drew)); exact HO_4.out) (Kd.R_typed (by (with_reducible repeat (first | apply Kd.R_alloc | apply Kd.R_drewN | apply Kd.R_drew)); exact HO_8.out)) (by decide) hg); have n2_ := Zs.mk (Kd.R_over' (by (with_reducible repeat (first | apply Kd.R_alloc | apply Kd.R_drewN | apply Kd.R_drew)); exact HO_5.out) (Kd.R_typed (by (with_reducible repeat (first | apply Kd.R_alloc | apply Kd.R_drewN | apply Kd.R_drew)); exact HO_8.out)) (by decide) hg); have n3_ := Zs.mk (Kd.R_over' (by (with_reducible repeat (first | apply Kd.R_alloc | apply Kd.R_drewN | apply Kd.R_drew)); exact HO_6.out) (Kd.R_typed (by (with_reducible repeat (first | apply Kd.R_alloc | apply Kd.R_drewN | apply Kd.R_drew)); exact HO_8.out)) (by decide) hg); have n4_ := Zs.mk (Kd.R_over' (by (with_reducible repeat (first | apply Kd.R_alloc | apply Kd.R_drewN | apply Kd.R_drew)); exact HO_7.out) (Kd.R_typed (by (with_reducible repeat (first | apply Kd.R_alloc | apply Kd.R_drewN | apply Kd.R_drew)); exact HO_8.out)) (by decide) hg); have n5_ := Zs.mk (hb); have n6_ := Zs.mk (ho); clear HO_3; clear HO_4; clear HO_5; clear HO_6; clear HO_7; clear HB; clear HO_8; have HO_3 := n0_; have HO_4 := n1_; have HO_5 := n2_; have HO_6 := n3_; have HO_7 := n4_; have HB := n5_; have HO130 := n6_; clear n0_ n1_ n2_ n3_ n4_ n5_ n6_; clear ho hb hg hat))
              go_roundg k3
              case measure => have := HJ9.out; have := HK2.out; have := HK3.out; omega
              case rel => exact ⟨(y128), (wrap64 (x10_3 + 1)), (by first | rfl | (simp; done) | (simp [*]; done)), H', ⟨by have := HJ9.out; have := HK2.out; have := HK3.out; omega⟩, ⟨by (with_reducible repeat (first | apply Kd.R_alloc | apply Kd.R_drewN | apply Kd.R_drew)); exact HO_3.out⟩, ⟨by (with_reducible repeat (first | apply Kd.R_alloc | apply Kd.R_drewN | apply Kd.R_drew)); exact HO_4.out⟩, ⟨by (with_reducible repeat (first | apply Kd.R_alloc | apply Kd.R_drewN | apply Kd.R_drew)); exact HO_5.out⟩, ⟨by (with_reducible repeat (first | apply Kd.R_alloc | apply Kd.R_drewN | apply Kd.R_drew)); exact HO_6.out⟩, ⟨by (with_reducible repeat (first | apply Kd.R_alloc | apply Kd.R_drewN | apply Kd.R_drew)); exact HO_7.out⟩, ⟨by (with_reducible repeat (first | apply Kd.R_alloc | apply Kd.R_drewN | apply Kd.R_drew)); exact HO130.out⟩, ⟨by repeat (first | (with_reducible first | exact HB.out | apply zA | apply zB | apply zC) | exact HB.out)⟩⟩
             ·rw [if_neg c47] at H
              exact absurd H (by simp)
            ·rw [if_neg c46] at H
             exact absurd H (by simp)
           ·rw [if_neg c45] at H
            have c45b0 : decide (x10_3 < (t120.length : Int)) = false := decide_eq_false c45
            clear c45
            have H' := Zs.mk H
            clear H
            obtain ⟨Ao50, co50, eo50⟩ := Kd.R_slice HO_7.out
            subst eo50
            go_wp2
            go_loopg [11] k3 (fun kq v11 w' => ∃ (x4_4 : List Nat) (x11_4 : Int), v11 = .int .i64 x11_4 ∧ Zs (qt0oo.l2 kq y108 x4_4 t114 t117 t120 x8_3 x11_4 = some r) ∧ Zs (kq ≤ k3) ∧ Zs (Kd.R (Kd.scalar (Value.float .f64) (fun _ => rfl)) 23 w' w.heap.size (fun k_ => some k_ ≠ (v112 : Value).ownBlock ∧ some k_ ≠ ((.slice Ao44 t114.length co44) : Value).ownBlock ∧ some k_ ≠ (v118 : Value).ownBlock ∧ some k_ ≠ ((.slice Ao50 t120.length co50) : Value).ownBlock) (.slice Ao16 y108.length co16) y108) ∧ Zs (Kd.R (Kd.scalar (Value.float .f64) (fun _ => rfl)) 23 w' w.heap.size (fun k_ => some k_ ≠ ((.slice Ao16 y108.length co16) : Value).ownBlock ∧ some k_ ≠ ((.slice Ao44 t114.length co44) : Value).ownBlock ∧ some k_ ≠ (v118 : Value).ownBlock ∧ some k_ ≠ ((.slice Ao50 t120.length co50) : Value).ownBlock) v112 x4_4) ∧ Zs (Kd.R (Kd.scalar (Value.float .f64) (fun _ => rfl)) 23 w' w.heap.size (fun k_ => some k_ ≠ ((.slice Ao16 y108.length co16) : Value).ownBlock ∧ some k_ ≠ (v112 : Value).ownBlock ∧ some k_ ≠ (v118 : Value).ownBlock ∧ some k_ ≠ ((.slice Ao50 t120.length co50) : Value).ownBlock) (.slice Ao44 t114.length co44) t114) ∧ Zs (Kd.R (Kd.scalar (Value.float .f64) (fun _ => rfl)) 23 w' w.heap.size (fun k_ => some k_ ≠ ((.slice Ao16 y108.length co16) : Value).ownBlock ∧ some k_ ≠ (v112 : Value).ownBlock ∧ some k_ ≠ ((.slice Ao44 t114.length co44) : Value).ownBlock ∧ some k_ ≠ ((.slice Ao50 t120.length co50) : Value).ownBlock) v118 t117) ∧ Zs (Kd.R (Kd.scalar (Value.float .f64) (fun _ => rfl)) 23 w' w.heap.size (fun k_ => some k_ ≠ ((.slice Ao16 y108.length co16) : Value).ownBlock ∧ some k_ ≠ (v112 : Value).ownBlock ∧ some k_ ≠ ((.slice Ao44 t114.length co44) : Value).ownBlock ∧ some k_ ≠ (v118 : Value).ownBlock) (.slice Ao50 t120.length co50) t120) ∧ Zs (Kd.R (Kd.int .u64) 22 w' w.heap.size (fun _ => True) u8 x8_3) ∧ Zs (Below w.heap.size w w'))
            case atStart => exact ⟨(t111), (0), (by first | rfl | (simp; done) | (simp [*]; done)), H', ⟨Nat.le_refl _⟩, ⟨by (with_reducible repeat (first | apply Kd.R_alloc | apply Kd.R_drewN | apply Kd.R_drew)); exact HO_3.out⟩, ⟨by (with_reducible repeat (first | apply Kd.R_alloc | apply Kd.R_drewN | apply Kd.R_drew)); exact HO_4.out⟩, ⟨by (with_reducible repeat (first | apply Kd.R_alloc | apply Kd.R_drewN | apply Kd.R_drew)); exact HO_5.out⟩, ⟨by (with_reducible repeat (first | apply Kd.R_alloc | apply Kd.R_drewN | apply Kd.R_drew)); exact HO_6.out⟩, ⟨by (with_reducible repeat (first | apply Kd.R_alloc | apply Kd.R_drewN | apply Kd.R_drew)); exact HO_7.out⟩, ⟨by (with_reducible repeat (first | apply Kd.R_alloc | apply Kd.R_drewN | apply Kd.R_drew)); exact HO_8.out⟩, ⟨by repeat (first | (with_reducible first | exact HB.out | apply zA | apply zB | apply zC) | exact HB.out)⟩⟩
            case round =>
             clear H'
             try clear c3; try clear c5; try clear c21; try clear c21b0; try clear c21b1; try clear c21b2; try clear c22; try clear c22b0; try clear c22b1; try clear c22b2; try clear c23; try clear c23b0; try clear c23b1; try clear c23b2; try clear c38; try clear c39; try clear c39b0; try clear c40; try clear c40b0; try clear c41; try clear c45; try clear c45b0; try clear c46; try clear c46b0; try clear c47; try clear hx123_0; try clear hx127_0; try clear p123; try clear p127; try clear q123; try clear q127
             obtain ⟨x4_4, x11_4, rfl, HA, HK4, HO_3, HO_4, HO_5, HO_6, HO_7, HO_8, HB⟩ := hrel
             cases gk with
             | zero => exact absurd HA.out (by simp [qt0oo.l2])
             | succ k4 =>
              have H := HA.out
              clear HA
              simp only [qt0oo.l2] at H
              by_cases c51 : x11_4 < (x4_4.length : Int)
              ·rw [if_pos c51] at H
               have c51b0 : decide (x11_4 < (x4_4.length : Int)) = true := decide_eq_true c51
               clear c51
               by_cases c52 : 0 ≤ x11_4
               ·rw [if_pos c52] at H
                have c52b0 : decide (0 ≤ x11_4) = true := decide_eq_true c52
                clear c52
                obtain ⟨y131, hy131⟩ : ∃ y_ : List Nat, y_ = (x4_4.set (x11_4 : Int).toNat 13837309855095848960) := ⟨_, rfl⟩
                replace H : (qt0oo.l2 k4 y108 y131 t114 t117 t120 x8_3 (wrap64 (x11_4 + 1))) = some r := by first | (rw [hy131]; with_reducible exact H) | (have H2_ := (Option.bind_some _ _).symm.trans H; rw [hy131]; with_reducible exact H2_) | (have H2_ := (Option.bind_some _ _).symm.trans H; with_reducible exact H2_) | with_reducible exact H | (rw [hy131]; exact H) | exact H
                have Ny131 := Zs.mk hy131
                clear hy131
                have H' := Zs.mk H
                clear H
                obtain ⟨Ao54, co54, eo54⟩ := Kd.R_slice HO_4.out
                subst eo54
                have p53 : 0 ≤ (x11_4 : Int) := of_decide_eq_true (by first | (with_reducible assumption) | assumption)
                have q53 : (x11_4 : Int) < ((x4_4.length : Int) : Int) := of_decide_eq_true (by first | (with_reducible assumption) | assumption)
                obtain ⟨go53, co53, eo53, gb53, gl53, cl53, HG53⟩ := Kd.R_form HO_4.out (by omega)
                (first | cases eo53 | (injection eo53 with ea_ en_ ec_; (first | subst ea_ | (injection ea_ with ea_; subst ea_)); subst ec_; clear en_))
                have GB53 := Zs.mk gb53
                have GG53 := Zs.mk HG53
                clear gb53 gl53 HG53
                obtain ⟨hx53_0, hf53_0⟩ := Kd.R_celln 0 HO_4.out (x11_4 : Int) p53 q53
                replace p53 := eq_true p53
                replace q53 := eq_true q53
                have HP55 := Kd.R_putg HO_4.out (x11_4 : Int) 13837309855095848960
                go_wp2_with (first | ((with_reducible refine gate_store (t := 23) (p := 89) rfl ?_); refine store_event (t := 23) (p := 89) (v := ?vo_w56) (w1 := (wr.setCell ⟨go53, (x11_4 : Int).toNat, none⟩ (.float .f64 13837309855095848960))) ?hg ?ho ?hn ?hr ?_; (case ho => rfl); (case hg => rfl); (case hn => rfl); (case hr => first | (go_simp; done) | (go_simp; rfl)); intro w56 hw; have hg : wr.grownBy w56 (some go53) := (by rw [hw]; exact HP55.2); have hp_ : Kd.R (Kd.scalar (Value.float .f64) (fun _ => rfl)) 23 w56 w.heap.size (fun k_ => some k_ ≠ (.slice Ao16 y108.length co16 : Value).ownBlock ∧ some k_ ≠ (.slice Ao44 t114.length co44 : Value).ownBlock ∧ some k_ ≠ (v118 : Value).ownBlock ∧ some k_ ≠ (.slice Ao50 t120.length co50 : Value).ownBlock) (.slice (some ⟨go53, 0, none⟩) x4_4.length co54) y131 := (by rw [hw, Ny131.out]; exact HP55.1); clear HP55; have n0_ := Zs.mk (Kd.R_after (v := (.slice (some ⟨go53, 0, none⟩) x4_4.length co54)) (v1 := (.slice (some ⟨go53, 0, none⟩) x4_4.length co54)) (ok := (fun k_ => some k_ ≠ (.slice Ao44 t114.length co44 : Value).ownBlock ∧ some k_ ≠ (v118 : Value).ownBlock ∧ some k_ ≠ (.slice Ao50 t120.length co50 : Value).ownBlock)) (by (with_reducible repeat (first | apply Kd.R_alloc | apply Kd.R_drewN | apply Kd.R_drew)); exact Kd.R_mono HO_3.out (fun _ hk => ⟨⟨hk.2.1, ⟨hk.2.2.1, hk.2.2.2⟩⟩, hk.1⟩)) hg (.inl rfl)); have n1_ := Zs.mk (hp_); have n2_ := Zs.mk (Kd.R_after (v := (.slice (some ⟨go53, 0, none⟩) x4_4.length co54)) (v1 := (.slice (some ⟨go53, 0, none⟩) x4_4.length co54)) (ok := (fun k_ => some k_ ≠ (.slice Ao16 y108.length co16 : Value).ownBlock ∧ some k_ ≠ (v118 : Value).ownBlock ∧ some k_ ≠ (.slice Ao50 t120.length co50 : Value).ownBlock)) (by (with_reducible repeat (first | apply Kd.R_alloc | apply Kd.R_drewN | apply Kd.R_drew)); exact Kd.R_mono HO_5.out (fun _ hk => ⟨⟨hk.1, ⟨hk.2.2.1, hk.2.2.2⟩⟩, hk.2.1⟩)) hg (.inl rfl)); have n3_ := Zs.mk (Kd.R_after (v := (.slice (some ⟨go53, 0, none⟩) x4_4.length co54)) (v1 := (.slice (some ⟨go53, 0, none⟩) x4_4.length co54)) (ok := (fun k_ => some k_ ≠ (.slice Ao16 y108.length co16 : Value).ownBlock ∧ some k_ ≠ (.slice Ao44 t114.length co44 : Value).ownBlock ∧ some k_ ≠ (.slice Ao50 t120.length co50 : Value).ownBlock)) (by (with_reducible repeat (first | apply Kd.R_alloc | apply Kd.R_drewN | apply Kd.R_drew)); exact Kd.R_mono HO_6.out (fun _ hk => ⟨⟨hk.1, ⟨hk.2.2.1, hk.2.2.2⟩⟩, hk.2.1⟩)) hg (.inl rfl)); have n4_ := Zs.mk (Kd.R_after (v := (.slice (some ⟨go53, 0, none⟩) x4_4.length co54)) (v1 := (.slice (some ⟨go53, 0, none⟩) x4_4.length co54)) (ok := (fun k_ => some k_ ≠ (.slice Ao16 y108.length co16 : Value).ownBlock ∧ some k_ ≠ (.slice Ao44 t114.length co44 : Value).ownBlock ∧ some k_ ≠ (v118 : Value).ownBlock)) (by (with_reducible repeat (first | apply Kd.R_alloc | apply Kd.R_drewN | apply Kd.R_drew)); exact Kd.R_mono HO_7.out (fun _ hk => ⟨⟨hk.1, ⟨hk.2.2.1, hk.2.2.2⟩⟩, hk.2.1⟩)) hg (.inl rfl)); have n5_ := Zs.mk (Kd.R_over' (v := (.slice (some ⟨go53, 0, none⟩) x4_4.length co54)) (by (with_reducible repeat (first | apply Kd.R_alloc | apply Kd.R_drewN | apply Kd.R_drew)); exact HO_8.out) (Kd.R_typed HO_4.out) (by decide) hg); have n6_ := Zs.mk ((by rw [hw]; exact below_set (HB.out) GB53.out : Below w.heap.size w w56)); clear HO_3; clear HO_4; clear HO_5; clear HO_6; clear HO_7; clear HO_8; clear HB; have HO_3 := n0_; have HO_4 := n1_; have HO_5 := n2_; have HO_6 := n3_; have HO_7 := n4_; have HO_8 := n5_; have HB := n6_; clear n0_ n1_ n2_ n3_ n4_ n5_ n6_; clear hg hw hp_))
                go_roundg k4
                case measure => have := HJ9.out; have := HK2.out; have := HK3.out; have := HK4.out; omega
                case rel => exact ⟨(y131), (wrap64 (x11_4 + 1)), (by first | rfl | (simp; done) | (simp [*]; done)), H', ⟨by have := HJ9.out; have := HK2.out; have := HK3.out; have := HK4.out; omega⟩, ⟨by (with_reducible repeat (first | apply Kd.R_alloc | apply Kd.R_drewN | apply Kd.R_drew)); exact Kd.R_mono HO_3.out (fun _ hk => ⟨hk.2, ⟨hk.1.1, ⟨hk.1.2.1, hk.1.2.2⟩⟩⟩)⟩, ⟨by (with_reducible repeat (first | apply Kd.R_alloc | apply Kd.R_drewN | apply Kd.R_drew)); exact HO_4.out⟩, ⟨by (with_reducible repeat (first | apply Kd.R_alloc | apply Kd.R_drewN | apply Kd.R_drew)); exact Kd.R_mono HO_5.out (fun _ hk => ⟨hk.1.1, ⟨hk.2, ⟨hk.1.2.1, hk.1.2.2⟩⟩⟩)⟩, ⟨by (with_reducible repeat (first | apply Kd.R_alloc | apply Kd.R_drewN | apply Kd.R_drew)); exact Kd.R_mono HO_6.out (fun _ hk => ⟨hk.1.1, ⟨hk.2, ⟨hk.1.2.1, hk.1.2.2⟩⟩⟩)⟩, ⟨by (with_reducible repeat (first | apply Kd.R_alloc | apply Kd.R_drewN | apply Kd.R_drew)); exact Kd.R_mono HO_7.out (fun _ hk => ⟨hk.1.1, ⟨hk.2, ⟨hk.1.2.1, hk.1.2.2⟩⟩⟩)⟩, ⟨by (with_reducible repeat (first | apply Kd.R_alloc | apply Kd.R_drewN | apply Kd.R_drew)); exact HO_8.out⟩, ⟨by repeat (first | (with_reducible first | exact HB.out | apply zA | apply zB | apply zC) | exact HB.out)⟩⟩
               ·rw [if_neg c52] at H
                exact absurd H (by simp)
              ·rw [if_neg c51] at H
               have c51b0 : decide (x11_4 < (x4_4.length : Int)) = false := decide_eq_false c51
               clear c51
               have H' := Zs.mk H
               clear H
               obtain ⟨Ao57, co57, eo57⟩ := Kd.R_slice HO_4.out
               subst eo57
               go_wp2
               go_loopg [12] k4 (fun kq v12 w' => ∃ (x6_5 : List Nat) (x12_5 : Int), v12 = .int .i64 x12_5 ∧ Zs (qt0oo.l3 kq y108 x4_4 t114 x6_5 t120 x8_3 x12_5 = some r) ∧ Zs (kq ≤ k4) ∧ Zs (Kd.R (Kd.scalar (Value.float .f64) (fun _ => rfl)) 23 w' w.heap.size (fun k_ => some k_ ≠ ((.slice Ao57 x4_4.length co57) : Value).ownBlock ∧ some k_ ≠ ((.slice Ao44 t114.length co44) : Value).ownBlock ∧ some k_ ≠ (v118 : Value).ownBlock ∧ some k_ ≠ ((.slice Ao50 t120.length co50) : Value).ownBlock) (.slice Ao16 y108.length co16) y108) ∧ Zs (Kd.R (Kd.scalar (Value.float .f64) (fun _ => rfl)) 23 w' w.heap.size (fun k_ => some k_ ≠ ((.slice Ao16 y108.length co16) : Value).ownBlock ∧ some k_ ≠ ((.slice Ao44 t114.length co44) : Value).ownBlock ∧ some k_ ≠ (v118 : Value).ownBlock ∧ some k_ ≠ ((.slice Ao50 t120.length co50) : Value).ownBlock) (.slice Ao57 x4_4.length co57) x4_4) ∧ Zs (Kd.R (Kd.scalar (Value.float .f64) (fun _ => rfl)) 23 w' w.heap.size (fun k_ => some k_ ≠ ((.slice Ao16 y108.length co16) : Value).ownBlock ∧ some k_ ≠ ((.slice Ao57 x4_4.length co57) : Value).ownBlock ∧ some k_ ≠ (v118 : Value).ownBlock ∧ some k_ ≠ ((.slice Ao50 t120.length co50) : Value).ownBlock) (.slice Ao44 t114.length co44) t114) ∧ Zs (Kd.R (Kd.scalar (Value.float .f64) (fun _ => rfl)) 23 w' w.heap.size (fun k_ => some k_ ≠ ((.slice Ao16 y108.length co16) : Value).ownBlock ∧ some k_ ≠ ((.slice Ao57 x4_4.length co57) : Value).ownBlock ∧ some k_ ≠ ((.slice Ao44 t114.length co44) : Value).ownBlock ∧ some k_ ≠ ((.slice Ao50 t120.length co50) : Value).ownBlock) v118 x6_5) ∧ Zs (Kd.R (Kd.scalar (Value.float .f64) (fun _ => rfl)) 23 w' w.heap.size (fun k_ => some k_ ≠ ((.slice Ao16 y108.length co16) : Value).ownBlock ∧ some k_ ≠ ((.slice Ao57 x4_4.length co57) : Value).ownBlock ∧ some k_ ≠ ((.slice Ao44 t114.length co44) : Value).ownBlock ∧ some k_ ≠ (v118 : Value).ownBlock) (.slice Ao50 t120.length co50) t120) ∧ Zs (Kd.R (Kd.int .u64) 22 w' w.heap.size (fun _ => True) u8 x8_3) ∧ Zs (Below w.heap.size w w'))
               case atStart => exact ⟨(t117), (0), (by first | rfl | (simp; done) | (simp [*]; done)), H', ⟨Nat.le_refl _⟩, ⟨by (with_reducible repeat (first | apply Kd.R_alloc | apply Kd.R_drewN | apply Kd.R_drew)); exact HO_3.out⟩, ⟨by (with_reducible repeat (first | apply Kd.R_alloc | apply Kd.R_drewN | apply Kd.R_drew)); exact HO_4.out⟩, ⟨by (with_reducible repeat (first | apply Kd.R_alloc | apply Kd.R_drewN | apply Kd.R_drew)); exact HO_5.out⟩, ⟨by (with_reducible repeat (first | apply Kd.R_alloc | apply Kd.R_drewN | apply Kd.R_drew)); exact HO_6.out⟩, ⟨by (with_reducible repeat (first | apply Kd.R_alloc | apply Kd.R_drewN | apply Kd.R_drew)); exact HO_7.out⟩, ⟨by (with_reducible repeat (first | apply Kd.R_alloc | apply Kd.R_drewN | apply Kd.R_drew)); exact HO_8.out⟩, ⟨by repeat (first | (with_reducible first | exact HB.out | apply zA | apply zB | apply zC) | exact HB.out)⟩⟩
               case round =>
                clear H'
                try clear c3; try clear c5; try clear c21; try clear c21b0; try clear c21b1; try clear c21b2; try clear c22; try clear c22b0; try clear c22b1; try clear c22b2; try clear c23; try clear c23b0; try clear c23b1; try clear c23b2; try clear c38; try clear c39; try clear c39b0; try clear c40; try clear c40b0; try clear c41; try clear c45; try clear c45b0; try clear c46; try clear c46b0; try clear c47; try clear c51; try clear c51b0; try clear c52; try clear c52b0; try clear p53; try clear q53; try clear hx123_0; try clear hx127_0; try clear hx53_0; try clear p123; try clear p127; try clear p53; try clear q123; try clear q127; try clear q53
                obtain ⟨x6_5, x12_5, rfl, HA, HK5, HO_3, HO_4, HO_5, HO_6, HO_7, HO_8, HB⟩ := hrel
                cases gk with
                | zero => exact absurd HA.out (by simp [qt0oo.l3])
                | succ k5 =>
                 have H := HA.out
                 clear HA
                 simp only [qt0oo.l3] at H
                 by_cases c58 : x12_5 < (x6_5.length : Int)
                 ·rw [if_pos c58] at H
                  have c58b0 : decide (x12_5 < (x6_5.length : Int)) = true := decide_eq_true c58
                  clear c58
                  by_cases c59 : 0 ≤ x12_5
                  ·rw [if_pos c59] at H
                   have c59b0 : decide (0 ≤ x12_5) = true := decide_eq_true c59
                   clear c59
                   obtain ⟨y132, hy132⟩ : ∃ y_ : List Nat, y_ = (x6_5.set (x12_5 : Int).toNat 13839561654909534208) := ⟨_, rfl⟩
                   replace H : (qt0oo.l3 k5 y108 x4_4 t114 y132 t120 x8_3 (wrap64 (x12_5 + 1))) = some r := by first | (rw [hy132]; with_reducible exact H) | (have H2_ := (Option.bind_some _ _).symm.trans H; rw [hy132]; with_reducible exact H2_) | (have H2_ := (Option.bind_some _ _).symm.trans H; with_reducible exact H2_) | with_reducible exact H | (rw [hy132]; exact H) | exact H
                   have Ny132 := Zs.mk hy132
                   clear hy132
                   have H' := Zs.mk H
                   clear H
                   obtain ⟨Ao61, co61, eo61⟩ := Kd.R_slice HO_6.out
                   subst eo61
                   have p60 : 0 ≤ (x12_5 : Int) := of_decide_eq_true (by first | (with_reducible assumption) | assumption)
                   have q60 : (x12_5 : Int) < ((x6_5.length : Int) : Int) := of_decide_eq_true (by first | (with_reducible assumption) | assumption)
                   obtain ⟨go60, co60, eo60, gb60, gl60, cl60, HG60⟩ := Kd.R_form HO_6.out (by omega)
                   (first | cases eo60 | (injection eo60 with ea_ en_ ec_; (first | subst ea_ | (injection ea_ with ea_; subst ea_)); subst ec_; clear en_))
                   have GB60 := Zs.mk gb60
                   have GG60 := Zs.mk HG60
                   clear gb60 gl60 HG60
                   obtain ⟨hx60_0, hf60_0⟩ := Kd.R_celln 0 HO_6.out (x12_5 : Int) p60 q60
                   replace p60 := eq_true p60
                   replace q60 := eq_true q60
                   have HP62 := Kd.R_putg HO_6.out (x12_5 : Int) 13839561654909534208
                   go_wp2_with (first | ((with_reducible refine gate_store (t := 23) (p := 98) rfl ?_); refine store_event (t := 23) (p := 98) (v := ?vo_w63) (w1 := (wr.setCell ⟨go60, (x12_5 : Int).toNat, none⟩ (.float .f64 13839561654909534208))) ?hg ?ho ?hn ?hr ?_; (case ho => rfl); (case hg => rfl); (case hn => rfl); (case hr => first | (go_simp; done) | (go_simp; rfl)); intro w63 hw; have hg : wr.grownBy w63 (some go60) := (by rw [hw]; exact HP62.2); have hp_ : Kd.R (Kd.scalar (Value.float .f64) (fun _ => rfl)) 23 w63 w.heap.size (fun k_ => some k_ ≠ (.slice Ao16 y108.length co16 : Value).ownBlock ∧ some k_ ≠ (.slice Ao57 x4_4.length co57 : Value).ownBlock ∧ some k_ ≠ (.slice Ao44 t114.length co44 : Value).ownBlock ∧ some k_ ≠ (.slice Ao50 t120.length co50 : Value).ownBlock) (.slice (some ⟨go60, 0, none⟩) x6_5.length co61) y132 := (by rw [hw, Ny132.out]; exact HP62.1); clear HP62; have n0_ := Zs.mk (Kd.R_after (v := (.slice (some ⟨go60, 0, none⟩) x6_5.length co61)) (v1 := (.slice (some ⟨go60, 0, none⟩) x6_5.length co61)) (ok := (fun k_ => some k_ ≠ (.slice Ao57 x4_4.length co57 : Value).ownBlock ∧ some k_ ≠ (.slice Ao44 t114.length co44 : Value).ownBlock ∧ some k_ ≠ (.slice Ao50 t120.length co50 : Value).ownBlock)) (by (with_reducible repeat (first | apply Kd.R_alloc | apply Kd.R_drewN | apply Kd.R_drew)); exact Kd.R_mono HO_3.out (fun _ hk => ⟨⟨hk.1, ⟨hk.2.1, hk.2.2.2⟩⟩, hk.2.2.1⟩)) hg (.inl rfl)); have n1_ := Zs.mk (Kd.R_after (v := (.slice (some ⟨go60, 0, none⟩) x6_5.length co61)) (v1 := (.slice (some ⟨go60, 0, none⟩) x6_5.length co61)) (ok := (fun k_ => some k_ ≠ (.slice Ao16 y108.length co16 : Value).ownBlock ∧ some k_ ≠ (.slice Ao44 t114.length co44 : Value).ownBlock ∧ some k_ ≠ (.slice Ao50 t120.length co50 : Value).ownBlock)) (by (with_reducible repeat (first | apply Kd.R_alloc | apply Kd.R_drewN | apply Kd.R_drew)); exact Kd.R_mono HO_4.out (fun _ hk => ⟨⟨hk.1, ⟨hk.2.1, hk.2.2.2⟩⟩, hk.2.2.1⟩)) hg (.inl rfl)); have n2_ := Zs.mk (Kd.R_after (v := (.slice (some ⟨go60, 0, none⟩) x6_5.length co61)) (v1 := (.slice (some ⟨go60, 0, none⟩) x6_5.length co61)) (ok := (fun k_ => some k_ ≠ (.slice Ao16 y108.length co16 : Value).ownBlock ∧ some k_ ≠ (.slice Ao57 x4_4.length co57 : Value).ownBlock ∧ some k_ ≠ (.slice Ao50 t120.length co50 : Value).ownBlock)) (by (with_reducible repeat (first | apply Kd.R_alloc | apply Kd.R_drewN | apply Kd.R_drew)); exact Kd.R_mono HO_5.out (fun _ hk => ⟨⟨hk.1, ⟨hk.2.1, hk.2.2.2⟩⟩, hk.2.2.1⟩)) hg (.inl rfl)); have n3_ := Zs.mk (hp_); have n4_ := Zs.mk (Kd.R_after (v := (.slice (some ⟨go60, 0, none⟩) x6_5.length co61)) (v1 := (.slice (some ⟨go60, 0, none⟩) x6_5.length co61)) (ok := (fun k_ => some k_ ≠ (.slice Ao16 y108.length co16 : Value).ownBlock ∧ some k_ ≠ (.slice Ao57 x4_4.length co57 : Value).ownBlock ∧ some k_ ≠ (.slice Ao44 t114.length co44 : Value).ownBlock)) (by (with_reducible repeat (first | apply Kd.R_alloc | apply Kd.R_drewN | apply Kd.R_drew)); exact Kd.R_mono HO_7.out (fun _ hk => ⟨⟨hk.1, ⟨hk.2.1, hk.2.2.1⟩⟩, hk.2.2.2⟩)) hg (.inl rfl)); have n5_ := Zs.mk (Kd.R_over' (v := (.slice (some ⟨go60, 0, none⟩) x6_5.length co61)) (by (with_reducible repeat (first | apply Kd.R_alloc | apply Kd.R_drewN | apply Kd.R_drew)); exact HO_8.out) (Kd.R_typed HO_6.out) (by decide) hg); have n6_ := Zs.mk ((by rw [hw]; exact below_set (HB.out) GB60.out : Below w.heap.size w w63)); clear HO_3; clear HO_4; clear HO_5; clear HO_6; clear HO_7; clear HO_8; clear HB; have HO_3 := n0_; have HO_4 := n1_; have HO_5 := n2_; have HO_6 := n3_; have HO_7 := n4_; have HO_8 := n5_; have HB := n6_; clear n0_ n1_ n2_ n3_ n4_ n5_ n6_; clear hg hw hp_))
                   go_roundg k5
                   case measure => have := HJ9.out; have := HK2.out; have := HK3.out; have := HK4.out; have := HK5.out; omega
                   case rel => exact ⟨(y132), (wrap64 (x12_5 + 1)), (by first | rfl | (simp; done) | (simp [*]; done)), H', ⟨by have := HJ9.out; have := HK2.out; have := HK3.out; have := HK4.out; have := HK5.out; omega⟩, ⟨by (with_reducible repeat (first | apply Kd.R_alloc | apply Kd.R_drewN | apply Kd.R_drew)); exact Kd.R_mono HO_3.out (fun _ hk => ⟨hk.1.1, ⟨hk.1.2.1, ⟨hk.2, hk.1.2.2⟩⟩⟩)⟩, ⟨by (with_reducible repeat (first | apply Kd.R_alloc | apply Kd.R_drewN | apply Kd.R_drew)); exact Kd.R_mono HO_4.out (fun _ hk => ⟨hk.1.1, ⟨hk.1.2.1, ⟨hk.2, hk.1.2.2⟩⟩⟩)⟩, ⟨by (with_reducible repeat (first | apply Kd.R_alloc | apply Kd.R_drewN | apply Kd.R_drew)); exact Kd.R_mono HO_5.out (fun _ hk => ⟨hk.1.1, ⟨hk.1.2.1, ⟨hk.2, hk.1.2.2⟩⟩⟩)⟩, ⟨by (with_reducible repeat (first | apply Kd.R_alloc | apply Kd.R_drewN | apply Kd.R_drew)); exact HO_6.out⟩, ⟨by (with_reducible repeat (first | apply Kd.R_alloc | apply Kd.R_drewN | apply Kd.R_drew)); exact Kd.R_mono HO_7.out (fun _ hk => ⟨hk.1.1, ⟨hk.1.2.1, ⟨hk.1.2.2, hk.2⟩⟩⟩)⟩, ⟨by (with_reducible repeat (first | apply Kd.R_alloc | apply Kd.R_drewN | apply Kd.R_drew)); exact HO_8.out⟩, ⟨by repeat (first | (with_reducible first | exact HB.out | apply zA | apply zB | apply zC) | exact HB.out)⟩⟩
                  ·rw [if_neg c59] at H
                   exact absurd H (by simp)
                 ·rw [if_neg c58] at H
                  have c58b0 : decide (x12_5 < (x6_5.length : Int)) = false := decide_eq_false c58
                  clear c58
                  by_cases c64 : x4_4.length < 17592186044416
                  ·rw [if_pos c64] at H
                   have LMc64 := Zs.mk c64
                   clear c64
                   obtain ⟨y133, hy133⟩ : ∃ y_ : List Nat, y_ = (x4_4 ++ [13840687554816376832]) := ⟨_, rfl⟩
                   replace H : (if x6_5.length < 17592186044416 then ((some (([] : List Nat) : List Nat)).bind fun y139 => (if y139.length + t114.length < 17592186044416 then ((some (y139 ++ t114 : List Nat)).bind fun y142 => (if y142.length + t120.length < 17592186044416 then (qt0oo.l4 k5 y108 y133 (x6_5 ++ [13841813454723219456]) x8_3 (y142 ++ t120) 0) else (none))) else (none))) else (none)) = some r := by first | (rw [hy133]; with_reducible exact H) | (have H2_ := (Option.bind_some _ _).symm.trans H; rw [hy133]; with_reducible exact H2_) | (have H2_ := (Option.bind_some _ _).symm.trans H; with_reducible exact H2_) | with_reducible exact H | (rw [hy133]; exact H) | exact H
                   have Ny133 := Zs.mk hy133
                   clear hy133
                   by_cases c65 : x6_5.length < 17592186044416
                   ·rw [if_pos c65] at H
                    have LMc65 := Zs.mk c65
                    clear c65
                    obtain ⟨y136, hy136⟩ : ∃ y_ : List Nat, y_ = (x6_5 ++ [13841813454723219456]) := ⟨_, rfl⟩
                    replace H : ((some (([] : List Nat) : List Nat)).bind fun y139 => (if y139.length + t114.length < 17592186044416 then ((some (y139 ++ t114 : List Nat)).bind fun y142 => (if y142.length + t120.length < 17592186044416 then (qt0oo.l4 k5 y108 y133 y136 x8_3 (y142 ++ t120) 0) else (none))) else (none))) = some r := by first | (rw [hy136]; with_reducible exact H) | (have H2_ := (Option.bind_some _ _).symm.trans H; rw [hy136]; with_reducible exact H2_) | (have H2_ := (Option.bind_some _ _).symm.trans H; with_reducible exact H2_) | with_reducible exact H | (rw [hy136]; exact H) | exact H
                    have Ny136 := Zs.mk hy136
                    clear hy136
                    obtain ⟨y139, hy139⟩ : ∃ y_ : List Nat, y_ = (([] : List Nat)) := ⟨_, rfl⟩
                    replace H : (if y139.length + t114.length < 17592186044416 then ((some (y139 ++ t114 : List Nat)).bind fun y142 => (if y142.length + t120.length < 17592186044416 then (qt0oo.l4 k5 y108 y133 y136 x8_3 (y142 ++ t120) 0) else (none))) else (none)) = some r := by first | (rw [hy139]; with_reducible exact H) | (have H2_ := (Option.bind_some _ _).symm.trans H; rw [hy139]; with_reducible exact H2_) | (have H2_ := (Option.bind_some _ _).symm.trans H; with_reducible exact H2_) | with_reducible exact H | (rw [hy139]; exact H) | exact H
                    have Ny139 := Zs.mk hy139
                    clear hy139
                    by_cases c66 : y139.length + t114.length < 17592186044416
                    ·rw [if_pos c66] at H
                     have LMc66 := Zs.mk c66
                     clear c66
                     obtain ⟨y142, hy142⟩ : ∃ y_ : List Nat, y_ = (y139 ++ t114) := ⟨_, rfl⟩
                     replace H : (if y142.length + t120.length < 17592186044416 then (qt0oo.l4 k5 y108 y133 y136 x8_3 (y142 ++ t120) 0) else (none)) = some r := by first | (rw [hy142]; with_reducible exact H) | (have H2_ := (Option.bind_some _ _).symm.trans H; rw [hy142]; with_reducible exact H2_) | (have H2_ := (Option.bind_some _ _).symm.trans H; with_reducible exact H2_) | with_reducible exact H | (rw [hy142]; exact H) | exact H
                     have Ny142 := Zs.mk hy142
                     clear hy142
                     by_cases c67 : y142.length + t120.length < 17592186044416
                     ·rw [if_pos c67] at H
                      have LMc67 := Zs.mk c67
                      clear c67
                      obtain ⟨y145, hy145⟩ : ∃ y_ : List Nat, y_ = (y142 ++ t120) := ⟨_, rfl⟩
                      replace H : (qt0oo.l4 k5 y108 y133 y136 x8_3 y145 0) = some r := by first | (rw [hy145]; with_reducible exact H) | (have H2_ := (Option.bind_some _ _).symm.trans H; rw [hy145]; with_reducible exact H2_) | (have H2_ := (Option.bind_some _ _).symm.trans H; with_reducible exact H2_) | with_reducible exact H | (rw [hy145]; exact H) | exact H
                      have Ny145 := Zs.mk hy145
                      clear hy145
                      have H' := Zs.mk H
                      clear H
                      obtain ⟨Ao68, co68, eo68⟩ := Kd.R_slice HO_6.out
                      subst eo68
                      go_wp2_with (first | ((with_reducible refine gate_builtin (b := .append) (xs := #[.tmp 99, .tmp 100]) rfl ?_); (try (refine gate_guard (by rfl) ?_; dsimp only)); at_builtin; refine Kd.R_append (Kd.scalar (Value.float .f64) (fun _ => rfl)) (w0 := w) w.heap.size rfl (.tmp 99) (.tmp 100) 70 23 (.float .f64 0) 8 rfl Try.underlying70 info23 rfl (by decide) (by omega) (.slice Ao57 x4_4.length co57) x4_4 13840687554816376832 [.float .f64 13840687554816376832] (fun k_ => some k_ ≠ (.slice Ao16 y108.length co16 : Value).ownBlock ∧ some k_ ≠ (.slice Ao44 t114.length co44 : Value).ownBlock ∧ some k_ ≠ (.slice Ao68 x6_5.length co68 : Value).ownBlock ∧ some k_ ≠ (.slice Ao50 t120.length co50 : Value).ownBlock) (fun _ => False) rfl rfl ?aP (fun _ hk => hk.elim) ?aF ?aO ?aB ?aS ?aL ?_; (case aP => exact rfl); (case aB => exact (by repeat (first | (with_reducible first | exact HB.out | apply zA | apply zB | apply zC) | exact HB.out))); (case aF => exact (fun k_ hk => ⟨Kd.fresh' (Kd.R_lt (by (with_reducible repeat (first | apply Kd.R_alloc | apply Kd.R_drewN | apply Kd.R_drew)); exact HO_3.out)) k_ hk, Kd.fresh' (Kd.R_lt (by (with_reducible repeat (first | apply Kd.R_alloc | apply Kd.R_drewN | apply Kd.R_drew)); exact HO_5.out)) k_ hk, Kd.fresh' (Kd.R_lt (by (with_reducible repeat (first | apply Kd.R_alloc | apply Kd.R_drewN | apply Kd.R_drew)); exact HO_6.out)) k_ hk, Kd.fresh' (Kd.R_lt (by (with_reducible repeat (first | apply Kd.R_alloc | apply Kd.R_drewN | apply Kd.R_drew)); exact HO_7.out)) k_ hk⟩)); (case aO => exact (by (with_reducible repeat (first | apply Kd.R_alloc | apply Kd.R_drewN | apply Kd.R_drew)); exact HO_4.out)); (case aS => exact (below_size (by repeat (first | (with_reducible first | exact HB.out | apply zA | apply zB | apply zC) | exact HB.out)))); (case aL => have := LMc64.out; omega); intro v134 w69 ho hb hg hat; rw [← Ny133.out] at ho; have n0_ := Zs.mk (Kd.R_after (ok := (fun k_ => some k_ ≠ (.slice Ao44 t114.length co44 : Value).ownBlock ∧ some k_ ≠ (.slice Ao68 x6_5.length co68 : Value).ownBlock ∧ some k_ ≠ (.slice Ao50 t120.length co50 : Value).ownBlock)) (by (with_reducible repeat (first | apply Kd.R_alloc | apply Kd.R_drewN | apply Kd.R_drew)); exact Kd.R_mono HO_3.out (fun _ hk => ⟨⟨hk.2.1, ⟨hk.2.2.1, hk.2.2.2⟩⟩, hk.1⟩)) hg hat); have n1_ := Zs.mk (Kd.R_after (ok := (fun k_ => some k_ ≠ (.slice Ao16 y108.length co16 : Value).ownBlock ∧ some k_ ≠ (.slice Ao68 x6_5.length co68 : Value).ownBlock ∧ some k_ ≠ (.slice Ao50 t120.length co50 : Value).ownBlock)) (by (with_reducible repeat (first | apply Kd.R_alloc | apply Kd.R_drewN | apply Kd.R_drew)); exact Kd.R_mono HO_5.out (fun _ hk => ⟨⟨hk.1, ⟨hk.2.2.1, hk.2.2.2⟩⟩, hk.2.1⟩)) hg hat); have n2_ := Zs.mk (Kd.R_after (ok := (fun k_ => some k_ ≠ (.slice Ao16 y108.length co16 : Value).ownBlock ∧ some k_ ≠ (.slice Ao44 t114.length co44 : Value).ownBlock ∧ some k_ ≠ (.slice Ao50 t120.length co50 : Value).ownBlock)) (by (with_reducible repeat (first | apply Kd.R_alloc | apply Kd.R_drewN | apply Kd.R_drew)); exact Kd.R_mono HO_6.out (fun _ hk => ⟨⟨hk.1, ⟨hk.2.2.1, hk.2.2.2⟩⟩, hk.2.1⟩)) hg hat); have n3_ := Zs.mk (Kd.R_after (ok := (fun k_ => some k_ ≠ (.slice Ao16 y108.length co16 : Value).ownBlock ∧ some k_ ≠ (.slice Ao44 t114.length co44 : Value).ownBlock ∧ some k_ ≠ (.slice Ao68 x6_5.length co68 : Value).ownBlock)) (by (with_reducible repeat (first | apply Kd.R_alloc | apply Kd.R_drewN | apply Kd.R_drew)); exact Kd.R_mono HO_7.out (fun _ hk => ⟨⟨hk.1, ⟨hk.2.2.1, hk.2.2.2⟩⟩, hk.2.1⟩)) hg hat); have n4_ := Zs.mk (Kd.R_over' (by (with_reducible repeat (first | apply Kd.R_alloc | apply Kd.R_drewN | apply Kd.R_drew)); exact HO_8.out) (Kd.R_typed (by (with_reducible repeat (first | apply Kd.R_alloc | apply Kd.R_drewN | apply Kd.R_drew)); exact HO_4.out)) (by decide) hg); have n5_ := Zs.mk (hb); have n6_ := Zs.mk (ho); clear HO_3; clear HO_5; clear HO_6; clear HO_7; clear HO_8; clear HB; clear HO_4; have HO_3 := n0_; have HO_5 := n1_; have HO_6 := n2_; have HO_7 := n3_; have HO_8 := n4_; have HB := n5_; have HO135 := n6_; clear n0_ n1_ n2_ n3_ n4_ n5_ n6_; clear ho hb hg hat) | ((with_reducible refine gate_builtin (b := .append) (xs := #[.tmp 102, .tmp 103]) rfl ?_); (try (refine gate_guard (by rfl) ?_; dsimp only)); at_builtin; refine Kd.R_append (Kd.scalar (Value.float .f64) (fun _ => rfl)) (w0 := w) w.heap.size rfl (.tmp 102) (.tmp 103) 70 23 (.float .f64 0) 8 rfl Try.underlying70 info23 rfl (by decide) (by omega) (.slice Ao68 x6_5.length co68) x6_5 13841813454723219456 [.float .f64 13841813454723219456] (fun k_ => some k_ ≠ (.slice Ao16 y108.length co16 : Value).ownBlock ∧ some k_ ≠ (.slice Ao44 t114.length co44 : Value).ownBlock ∧ some k_ ≠ (.slice Ao50 t120.length co50 : Value).ownBlock ∧ some k_ ≠ (v134 : Value).ownBlock) (fun _ => False) rfl rfl ?aP (fun _ hk => hk.elim) ?aF ?aO ?aB ?aS ?aL ?_; (case aP => exact rfl); (case aB => exact (by repeat (first | (with_reducible first | exact HB.out | apply zA | apply zB | apply zC) | exact HB.out))); (case aF => exact (fun k_ hk => ⟨Kd.fresh' (Kd.R_lt (by (with_reducible repeat (first | apply Kd.R_alloc | apply Kd.R_drewN | apply Kd.R_drew)); exact HO_3.out)) k_ hk, Kd.fresh' (Kd.R_lt (by (with_reducible repeat (first | apply Kd.R_alloc | apply Kd.R_drewN | apply Kd.R_drew)); exact HO_5.out)) k_ hk, Kd.fresh' (Kd.R_lt (by (with_reducible repeat (first | apply Kd.R_alloc | apply Kd.R_drewN | apply Kd.R_drew)); exact HO_7.out)) k_ hk, Kd.fresh' (Kd.R_lt (by (with_reducible repeat (first | apply Kd.R_alloc | apply Kd.R_drewN | apply Kd.R_drew)); exact HO135.out)) k_ hk⟩)); (case aO => exact (by (with_reducible repeat (first | apply Kd.R_alloc | apply Kd.R_drewN | apply Kd.R_drew)); exact Kd.R_mono HO_6.out (fun _ hk => ⟨hk.1.1, ⟨hk.1.2.1, ⟨hk.1.2.2, hk.2⟩⟩⟩))); (case aS => exact (below_size (by repeat (first | (with_reducible first | exact HB.out | apply zA | apply zB | apply zC) | exact HB.out)))); (case aL => have := LMc65.out; omega); intro v137 w70 ho hb hg hat; rw [← Ny136.out] at ho; have n0_ := Zs.mk (Kd.R_after (ok := (fun k_ => some k_ ≠ (.slice Ao44 t114.length co44 : Value).ownBlock ∧ some k_ ≠ (.slice Ao50 t120.length co50 : Value).ownBlock ∧ some k_ ≠ (v134 : Value).ownBlock)) (by (with_reducible repeat (first | apply Kd.R_alloc | apply Kd.R_drewN | apply Kd.R_drew)); exact Kd.R_mono HO_3.out (fun _ hk => ⟨⟨hk.1.1, ⟨hk.1.2.2, hk.2⟩⟩, hk.1.2.1⟩)) hg hat); have n1_ := Zs.mk (Kd.R_after (ok := (fun k_ => some k_ ≠ (.slice Ao16 y108.length co16 : Value).ownBlock ∧ some k_ ≠ (.slice Ao50 t120.length co50 : Value).ownBlock ∧ some k_ ≠ (v134 : Value).ownBlock)) (by (with_reducible repeat (first | apply Kd.R_alloc | apply Kd.R_drewN | apply Kd.R_drew)); exact Kd.R_mono HO_5.out (fun _ hk => ⟨⟨hk.1.1, ⟨hk.1.2.2, hk.2⟩⟩, hk.1.2.1⟩)) hg hat); have n2_ := Zs.mk (Kd.R_after (ok := (fun k_ => some k_ ≠ (.slice Ao16 y108.length co16 : Value).ownBlock ∧ some k_ ≠ (.slice Ao44 t114.length co44 : Value).ownBlock ∧ some k_ ≠ (v134 : Value).ownBlock)) (by (with_reducible repeat (first | apply Kd.R_alloc | apply Kd.R_drewN | apply Kd.R_drew)); exact Kd.R_mono HO_7.out (fun _ hk => ⟨⟨hk.1.1, ⟨hk.1.2.1, hk.2⟩⟩, hk.1.2.2⟩)) hg hat); have n3_ := Zs.mk (Kd.R_over' (by (with_reducible repeat (first | apply Kd.R_alloc | apply Kd.R_drewN | apply Kd.R_drew)); exact HO_8.out) (Kd.R_typed (by (with_reducible repeat (first | apply Kd.R_alloc | apply Kd.R_drewN | apply Kd.R_drew)); exact HO_6.out)) (by decide) hg); have n4_ := Zs.mk (Kd.R_after (ok := (fun k_ => some k_ ≠ (.slice Ao16 y108.length co16 : Value).ownBlock ∧ some k_ ≠ (.slice Ao44 t114.length co44 : Value).ownBlock ∧ some k_ ≠ (.slice Ao50 t120.length co50 : Value).ownBlock)) (by (with_reducible repeat (first | apply Kd.R_alloc | apply Kd.R_drewN | apply Kd.R_drew)); exact Kd.R_mono HO135.out (fun _ hk => ⟨⟨hk.1, ⟨hk.2.1, hk.2.2.2⟩⟩, hk.2.2.1⟩)) hg hat); have n5_ := Zs.mk (hb); have n6_ := Zs.mk (ho); clear HO_3; clear HO_5; clear HO_7; clear HO_8; clear HO135; clear HB; clear HO_6; have HO_3 := n0_; have HO_5 := n1_; have HO_7 := n2_; have HO_8 := n3_; have HO135 := n4_; have HB := n5_; have HO138 := n6_; clear n0_ n1_ n2_ n3_ n4_ n5_ n6_; clear ho hb hg hat) | ((with_reducible refine gate_dst (N := 105) rfl ?_); (try (refine gate_guard (by rfl) ?_; dsimp only)); refine Kd.R_lit (Kd.scalar (Value.float .f64) (fun _ => rfl)) _ 23 ?hg (N := 105) ?hd (xs := ([] : List Nat)) (inner := []) (ok := fun _ => True) (okp := fun _ => True) ?hr ?hp (fun _ hk => hk) trivial (Below.refl _ _) (Nat.le_refl _) (by simp) ?_; (case hd => rfl); (case hg => rfl); (case hr => first | (go_simp; done) | (go_simp; rfl)); (case hp => exact (Reps.none _ _)); intro v140 w71 ho72 hb hg_ hnew_; clear hg_ hnew_; (first | rw [← Ny139.out] at ho72 | (simp only [Int.reduceToNat] at ho72; rw [← Ny139.out] at ho72)); have n0_ := Zs.mk (Kd.R_elder' (by (with_reducible repeat (first | apply Kd.R_alloc | apply Kd.R_drewN | apply Kd.R_drew)); exact HO_3.out) (Kd.R_base ho72) hb); have n1_ := Zs.mk (Kd.R_elder' (by (with_reducible repeat (first | apply Kd.R_alloc | apply Kd.R_drewN | apply Kd.R_drew)); exact HO_5.out) (Kd.R_base ho72) hb); have n2_ := Zs.mk (Kd.R_elder' (by (with_reducible repeat (first | apply Kd.R_alloc | apply Kd.R_drewN | apply Kd.R_drew)); exact HO_7.out) (Kd.R_base ho72) hb); have n3_ := Zs.mk (Kd.R_below (by (with_reducible repeat (first | apply Kd.R_alloc | apply Kd.R_drewN | apply Kd.R_drew)); exact HO_8.out) hb); have n4_ := Zs.mk (Kd.R_elder' (by (with_reducible repeat (first | apply Kd.R_alloc | apply Kd.R_drewN | apply Kd.R_drew)); exact HO135.out) (Kd.R_base ho72) hb); have n5_ := Zs.mk (Kd.R_elder' (by (with_reducible repeat (first | apply Kd.R_alloc | apply Kd.R_drewN | apply Kd.R_drew)); exact HO138.out) (Kd.R_base ho72) hb); have n6_ := Zs.mk (Kd.R_lower (Kd.R_new' (Kd.R_new' (Kd.R_new' (Kd.R_new' (Kd.R_new' ho72 (Kd.R_lt (by (with_reducible repeat (first | apply Kd.R_alloc | apply Kd.R_drewN | apply Kd.R_drew)); exact HO_3.out))) (Kd.R_lt (by (with_reducible repeat (first | apply Kd.R_alloc | apply Kd.R_drewN | apply Kd.R_drew)); exact HO_5.out))) (Kd.R_lt (by (with_reducible repeat (first | apply Kd.R_alloc | apply Kd.R_drewN | apply Kd.R_drew)); exact HO_7.out))) (Kd.R_lt (by (with_reducible repeat (first | apply Kd.R_alloc | apply Kd.R_drewN | apply Kd.R_drew)); exact HO135.out))) (Kd.R_lt (by (with_reducible repeat (first | apply Kd.R_alloc | apply Kd.R_drewN | apply Kd.R_drew)); exact HO138.out))) (below_size (by repeat (first | (with_reducible first | exact HB.out | apply zA | apply zB | apply zC) | exact HB.out)))); have n7_ := Zs.mk (below_step (by repeat (first | (with_reducible first | exact HB.out | apply zA | apply zB | apply zC) | exact HB.out)) hb); clear HO_3; clear HO_5; clear HO_7; clear HO_8; clear HO135; clear HO138; clear HB; have HO_3 := n0_; have HO_5 := n1_; have HO_7 := n2_; have HO_8 := n3_; have HO135 := n4_; have HO138 := n5_; have HO141 := n6_; have HB := n7_; clear n0_ n1_ n2_ n3_ n4_ n5_ n6_ n7_; clear hb ho72) | ((with_reducible refine gate_builtin (b := .append) (xs := #[.tmp 105, .tmp 106]) rfl ?_); (try (refine gate_guard (by rfl) ?_; dsimp only)); at_builtin; refine Kd.R_append_rows (Kd.scalar (Value.float .f64) (fun _ => rfl)) (w0 := w) w.heap.size rfl (.tmp 105) (.tmp 106) 70 23 (.float .f64 0) 8 rfl Try.underlying70 info23 rfl (by decide) (by omega) v140 y139 t114 _ _ _ (fun k_ => some k_ ≠ (.slice Ao16 y108.length co16 : Value).ownBlock ∧ some k_ ≠ (.slice Ao44 t114.length co44 : Value).ownBlock ∧ some k_ ≠ (.slice Ao50 t120.length co50 : Value).ownBlock ∧ some k_ ≠ (v134 : Value).ownBlock ∧ some k_ ≠ (v137 : Value).ownBlock) (fun _ => False) rfl rfl ?aO ?aR (fun _ _ h => h) (fun _ h => h.elim) ?aF ?aB ?aS ?aL ?_; (case aR => repeat (first | exact (Kd.R_reads' HO_5.out).2.2 | (with_reducible refine Kd.C_alloc ?_ _) | (with_reducible refine Kd.C_drewN ?_ _) | (with_reducible refine Kd.C_drew ?_))); (case aB => exact (by repeat (first | (with_reducible first | exact HB.out | apply zA | apply zB | apply zC) | exact HB.out))); (case aF => exact (fun k_ hk => ⟨Kd.fresh' (Kd.R_lt (by (with_reducible repeat (first | apply Kd.R_alloc | apply Kd.R_drewN | apply Kd.R_drew)); exact HO_3.out)) k_ hk, Kd.fresh' (Kd.R_lt (by (with_reducible repeat (first | apply Kd.R_alloc | apply Kd.R_drewN | apply Kd.R_drew)); exact HO_5.out)) k_ hk, Kd.fresh' (Kd.R_lt (by (with_reducible repeat (first | apply Kd.R_alloc | apply Kd.R_drewN | apply Kd.R_drew)); exact HO_7.out)) k_ hk, Kd.fresh' (Kd.R_lt (by (with_reducible repeat (first | apply Kd.R_alloc | apply Kd.R_drewN | apply Kd.R_drew)); exact HO135.out)) k_ hk, Kd.fresh' (Kd.R_lt (by (with_reducible repeat (first | apply Kd.R_alloc | apply Kd.R_drewN | apply Kd.R_drew)); exact HO138.out)) k_ hk⟩)); (case aO => exact (by (with_reducible repeat (first | apply Kd.R_alloc | apply Kd.R_drewN | apply Kd.R_drew)); exact Kd.R_mono HO141.out (fun _ hk => ⟨hk.1.1.1.1.2, ⟨hk.1.1.1.2, ⟨hk.1.1.2, ⟨hk.1.2, hk.2⟩⟩⟩⟩))); (case aS => exact (below_size (by repeat (first | (with_reducible first | exact HB.out | apply zA | apply zB | apply zC) | exact HB.out)))); (case aL => have := LMc66.out; omega); intro v143 w73 ho hb hg hat; rw [← Ny142.out] at ho; have n0_ := Zs.mk (Kd.R_after (ok := (fun k_ => some k_ ≠ (.slice Ao44 t114.length co44 : Value).ownBlock ∧ some k_ ≠ (.slice Ao50 t120.length co50 : Value).ownBlock ∧ some k_ ≠ (v134 : Value).ownBlock ∧ some k_ ≠ (v137 : Value).ownBlock)) (by (with_reducible repeat (first | apply Kd.R_alloc | apply Kd.R_drewN | apply Kd.R_drew)); exact Kd.R_mono HO_3.out (fun _ hk => ⟨⟨hk.1.1.1, ⟨hk.1.1.2.1, ⟨hk.1.1.2.2, hk.1.2⟩⟩⟩, hk.2⟩)) hg hat); have n1_ := Zs.mk (Kd.R_after (ok := (fun k_ => some k_ ≠ (.slice Ao16 y108.length co16 : Value).ownBlock ∧ some k_ ≠ (.slice Ao50 t120.length co50 : Value).ownBlock ∧ some k_ ≠ (v134 : Value).ownBlock ∧ some k_ ≠ (v137 : Value).ownBlock)) (by (with_reducible repeat (first | apply Kd.R_alloc | apply Kd.R_drewN | apply Kd.R_drew)); exact Kd.R_mono HO_5.out (fun _ hk => ⟨⟨hk.1.1.1, ⟨hk.1.1.2.1, ⟨hk.1.1.2.2, hk.1.2⟩⟩⟩, hk.2⟩)) hg hat); have n2_ := Zs.mk (Kd.R_after (ok := (fun k_ => some k_ ≠ (.slice Ao16 y108.length co16 : Value).ownBlock ∧ some k_ ≠ (.slice Ao44 t114.length co44 : Value).ownBlock ∧ some k_ ≠ (v134 : Value).ownBlock ∧ some k_ ≠ (v137 : Value).ownBlock)) (by (with_reducible repeat (first | apply Kd.R_alloc | apply Kd.R_drewN | apply Kd.R_drew)); exact Kd.R_mono HO_7.out (fun _ hk => ⟨⟨hk.1.1.1, ⟨hk.1.1.2.1, ⟨hk.1.1.2.2, hk.1.2⟩⟩⟩, hk.2⟩)) hg hat); have n3_ := Zs.mk (Kd.R_over' (by (with_reducible repeat (first | apply Kd.R_alloc | apply Kd.R_drewN | apply Kd.R_drew)); exact HO_8.out) (Kd.R_typed (by (with_reducible repeat (first | apply Kd.R_alloc | apply Kd.R_drewN | apply Kd.R_drew)); exact HO141.out)) (by decide) hg); have n4_ := Zs.mk (Kd.R_after (ok := (fun k_ => some k_ ≠ (.slice Ao16 y108.length co16 : Value).ownBlock ∧ some k_ ≠ (.slice Ao44 t114.length co44 : Value).ownBlock ∧ some k_ ≠ (.slice Ao50 t120.length co50 : Value).ownBlock ∧ some k_ ≠ (v137 : Value).ownBlock)) (by (with_reducible repeat (first | apply Kd.R_alloc | apply Kd.R_drewN | apply Kd.R_drew)); exact Kd.R_mono HO135.out (fun _ hk => ⟨⟨hk.1.1.1, ⟨hk.1.1.2.1, ⟨hk.1.1.2.2, hk.1.2⟩⟩⟩, hk.2⟩)) hg hat); have n5_ := Zs.mk (Kd.R_after (ok := (fun k_ => some k_ ≠ (.slice Ao16 y108.length co16 : Value).ownBlock ∧ some k_ ≠ (.slice Ao44 t114.length co44 : Value).ownBlock ∧ some k_ ≠ (.slice Ao50 t120.length co50 : Value).ownBlock ∧ some k_ ≠ (v134 : Value).ownBlock)) (by (with_reducible repeat (first | apply Kd.R_alloc | apply Kd.R_drewN | apply Kd.R_drew)); exact HO138.out) hg hat); have n6_ := Zs.mk (hb); have n7_ := Zs.mk (ho); clear HO_3; clear HO_5; clear HO_7; clear HO_8; clear HO135; clear HO138; clear HB; clear HO141; have HO_3 := n0_; have HO_5 := n1_; have HO_7 := n2_; have HO_8 := n3_; have HO135 := n4_; have HO138 := n5_; have HB := n6_; have HO144 := n7_; clear n0_ n1_ n2_ n3_ n4_ n5_ n6_ n7_; clear ho hb hg hat) | ((with_reducible refine gate_builtin (b := .append) (xs := #[.tmp 107, .tmp 108]) rfl ?_); (try (refine gate_guard (by rfl) ?_; dsimp only)); at_builtin; refine Kd.R_append_rows (Kd.scalar (Value.float .f64) (fun _ => rfl)) (w0 := w) w.heap.size rfl (.tmp 107) (.tmp 108) 70 23 (.float .f64 0) 8 rfl Try.underlying70 info23 rfl (by decide) (by omega) v143 y142 t120 _ _ _ (fun k_ => some k_ ≠ (.slice Ao16 y108.length co16 : Value).ownBlock ∧ some k_ ≠ (.slice Ao44 t114.length co44 : Value).ownBlock ∧ some k_ ≠ (.slice Ao50 t120.length co50 : Value).ownBlock ∧ some k_ ≠ (v134 : Value).ownBlock ∧ some k_ ≠ (v137 : Value).ownBlock) (fun _ => False) rfl rfl ?aO ?aR (fun _ _ h => h) (fun _ h => h.elim) ?aF ?aB ?aS ?aL ?_; (case aR => repeat (first | exact (Kd.R_reads' HO_7.out).2.2 | (with_reducible refine Kd.C_alloc ?_ _) | (with_reducible refine Kd.C_drewN ?_ _) | (with_reducible refine Kd.C_drew ?_))); (case aB => exact (by repeat (first | (with_reducible first | exact HB.out | apply zA | apply zB | apply zC) | exact HB.out))); (case aF => exact (fun k_ hk => ⟨Kd.fresh' (Kd.R_lt (by (with_reducible repeat (first | apply Kd.R_alloc | apply Kd.R_drewN | apply Kd.R_drew)); exact HO_3.out)) k_ hk, Kd.fresh' (Kd.R_lt (by (with_reducible repeat (first | apply Kd.R_alloc | apply Kd.R_drewN | apply Kd.R_drew)); exact HO_5.out)) k_ hk, Kd.fresh' (Kd.R_lt (by (with_reducible repeat (first | apply Kd.R_alloc | apply Kd.R_drewN | apply Kd.R_drew)); exact HO_7.out)) k_ hk, Kd.fresh' (Kd.R_lt (by (with_reducible repeat (first | apply Kd.R_alloc | apply Kd.R_drewN | apply Kd.R_drew)); exact HO135.out)) k_ hk, Kd.fresh' (Kd.R_lt (by (with_reducible repeat (first | apply Kd.R_alloc | apply Kd.R_drewN | apply Kd.R_drew)); exact HO138.out)) k_ hk⟩)); (case aO => exact (by (with_reducible repeat (first | apply Kd.R_alloc | apply Kd.R_drewN | apply Kd.R_drew)); exact HO144.out)); (case aS => exact (below_size (by repeat (first | (with_reducible first | exact HB.out | apply zA | apply zB | apply zC) | exact HB.out)))); (case aL => have := LMc67.out; omega); intro v146 w74 ho hb hg hat; rw [← Ny145.out] at ho; have n0_ := Zs.mk (Kd.R_after (ok := (fun k_ => some k_ ≠ (.slice Ao44 t114.length co44 : Value).ownBlock ∧ some k_ ≠ (.slice Ao50 t120.length co50 : Value).ownBlock ∧ some k_ ≠ (v134 : Value).ownBlock ∧ some k_ ≠ (v137 : Value).ownBlock)) (by (with_reducible repeat (first | apply Kd.R_alloc | apply Kd.R_drewN | apply Kd.R_drew)); exact HO_3.out) hg hat); have n1_ := Zs.mk (Kd.R_after (ok := (fun k_ => some k_ ≠ (.slice Ao16 y108.length co16 : Value).ownBlock ∧ some k_ ≠ (.slice Ao50 t120.length co50 : Value).ownBlock ∧ some k_ ≠ (v134 : Value).ownBlock ∧ some k_ ≠ (v137 : Value).ownBlock)) (by (with_reducible repeat (first | apply Kd.R_alloc | apply Kd.R_drewN | apply Kd.R_drew)); exact HO_5.out) hg hat); have n2_ := Zs.mk (Kd.R_after (ok := (fun k_ => some k_ ≠ (.slice Ao16 y108.length co16 : Value).ownBlock ∧ some k_ ≠ (.slice Ao44 t114.length co44 : Value).ownBlock ∧ some k_ ≠ (v134 : Value).ownBlock ∧ some k_ ≠ (v137 : Value).ownBlock)) (by (with_reducible repeat (first | apply Kd.R_alloc | apply Kd.R_drewN | apply Kd.R_drew)); exact HO_7.out) hg hat); have n3_ := Zs.mk (Kd.R_over' (by (with_reducible repeat (first | apply Kd.R_alloc | apply Kd.R_drewN | apply Kd.R_drew)); exact HO_8.out) (Kd.R_typed (by (with_reducible repeat (first | apply Kd.R_alloc | apply Kd.R_drewN | apply Kd.R_drew)); exact HO144.out)) (by decide) hg); have n4_ := Zs.mk (Kd.R_after (ok := (fun k_ => some k_ ≠ (.slice Ao16 y108.length co16 : Value).ownBlock ∧ some k_ ≠ (.slice Ao44 t114.length co44 : Value).ownBlock ∧ some k_ ≠ (.slice Ao50 t120.length co50 : Value).ownBlock ∧ some k_ ≠ (v137 : Value).ownBlock)) (by (with_reducible repeat (first | apply Kd.R_alloc | apply Kd.R_drewN | apply Kd.R_drew)); exact HO135.out) hg hat); have n5_ := Zs.mk (Kd.R_after (ok := (fun k_ => some k_ ≠ (.slice Ao16 y108.length co16 : Value).ownBlock ∧ some k_ ≠ (.slice Ao44 t114.length co44 : Value).ownBlock ∧ some k_ ≠ (.slice Ao50 t120.length co50 : Value).ownBlock ∧ some k_ ≠ (v134 : Value).ownBlock)) (by (with_reducible repeat (first | apply Kd.R_alloc | apply Kd.R_drewN | apply Kd.R_drew)); exact HO138.out) hg hat); have n6_ := Zs.mk (hb); have n7_ := Zs.mk (ho); clear HO_3; clear HO_5; clear HO_7; clear HO_8; clear HO135; clear HO138; clear HB; clear HO144; have HO_3 := n0_; have HO_5 := n1_; have HO_7 := n2_; have HO_8 := n3_; have HO135 := n4_; have HO138 := n5_; have HB := n6_; have HO147 := n7_; clear n0_ n1_ n2_ n3_ n4_ n5_ n6_ n7_; clear ho hb hg hat))
                      go_loopg [14] k5 (fun kq v14 w' => ∃ (x14_6 : Int), v14 = .int .i64 x14_6 ∧ Zs (qt0oo.l4 kq y108 y133 y136 x8_3 y145 x14_6 = some r) ∧ Zs (kq ≤ k5) ∧ Zs (Kd.R (Kd.scalar (Value.float .f64) (fun _ => rfl)) 23 w' w.heap.size (fun k_ => some k_ ≠ (v134 : Value).ownBlock ∧ some k_ ≠ (v137 : Value).ownBlock ∧ some k_ ≠ (v146 : Value).ownBlock) (.slice Ao16 y108.length co16) y108) ∧ Zs (Kd.R (Kd.scalar (Value.float .f64) (fun _ => rfl)) 23 w' w.heap.size (fun k_ => some k_ ≠ ((.slice Ao16 y108.length co16) : Value).ownBlock ∧ some k_ ≠ (v137 : Value).ownBlock ∧ some k_ ≠ (v146 : Value).ownBlock) v134 y133) ∧ Zs (Kd.R (Kd.scalar (Value.float .f64) (fun _ => rfl)) 23 w' w.heap.size (fun k_ => some k_ ≠ ((.slice Ao16 y108.length co16) : Value).ownBlock ∧ some k_ ≠ (v134 : Value).ownBlock ∧ some k_ ≠ (v146 : Value).ownBlock) v137 y136) ∧ Zs (Kd.R (Kd.int .u64) 22 w' w.heap.size (fun _ => True) u8 x8_3) ∧ Zs (Kd.R (Kd.scalar (Value.float .f64) (fun _ => rfl)) 23 w' w.heap.size (fun k_ => some k_ ≠ ((.slice Ao16 y108.length co16) : Value).ownBlock ∧ some k_ ≠ (v134 : Value).ownBlock ∧ some k_ ≠ (v137 : Value).ownBlock) v146 y145) ∧ Zs (Below w.heap.size w w'))
                      case atStart => exact ⟨(0), (by first | rfl | (simp; done) | (simp [*]; done)), H', ⟨Nat.le_refl _⟩, ⟨by (with_reducible repeat (first | apply Kd.R_alloc | apply Kd.R_drewN | apply Kd.R_drew)); exact Kd.R_mono HO_3.out (fun _ hk => ⟨hk.1.2.2.1, ⟨hk.1.2.2.2, hk.2⟩⟩)⟩, ⟨by (with_reducible repeat (first | apply Kd.R_alloc | apply Kd.R_drewN | apply Kd.R_drew)); exact Kd.R_mono HO135.out (fun _ hk => ⟨hk.1.1, ⟨hk.1.2.2.2, hk.2⟩⟩)⟩, ⟨by (with_reducible repeat (first | apply Kd.R_alloc | apply Kd.R_drewN | apply Kd.R_drew)); exact Kd.R_mono HO138.out (fun _ hk => ⟨hk.1.1, ⟨hk.1.2.2.2, hk.2⟩⟩)⟩, ⟨by (with_reducible repeat (first | apply Kd.R_alloc | apply Kd.R_drewN | apply Kd.R_drew)); exact HO_8.out⟩, ⟨by (with_reducible repeat (first | apply Kd.R_alloc | apply Kd.R_drewN | apply Kd.R_drew)); exact Kd.R_mono HO147.out (fun _ hk => ⟨hk.1, ⟨hk.2.2.2.1, hk.2.2.2.2⟩⟩)⟩, ⟨by repeat (first | (with_reducible first | exact HB.out | apply zA | apply zB | apply zC) | exact HB.out)⟩⟩
                      case round =>
                       clear H'
                       try clear c3; try clear c5; try clear c21; try clear c21b0; try clear c21b1; try clear c21b2; try clear c22; try clear c22b0; try clear c22b1; try clear c22b2; try clear c23; try clear c23b0; try clear c23b1; try clear c23b2; try clear c38; try clear c39; try clear c39b0; try clear c40; try clear c40b0; try clear c41; try clear c45; try clear c45b0; try clear c46; try clear c46b0; try clear c47; try clear c51; try clear c51b0; try clear c52; try clear c52b0; try clear p53; try clear q53; try clear c58; try clear c58b0; try clear c59; try clear c59b0; try clear p60; try clear q60; try clear c64; try clear c65; try clear c66; try clear c67; try clear hx123_0; try clear hx127_0; try clear hx53_0; try clear hx60_0; try clear p123; try clear p127; try clear p53; try clear p60; try clear q123; try clear q127; try clear q53; try clear q60
                       obtain ⟨x14_6, rfl, HA, HK6, HO_3, HO_4, HO_6, HO_8, HO_13, HB⟩ := hrel
                       cases gk with
                       | zero => exact absurd HA.out (by simp [qt0oo.l4])
                       | succ k6 =>
                        have H := HA.out
                        clear HA
                        simp only [qt0oo.l4] at H
                        by_cases c75 : x14_6 < (y145.length : Int)
                        ·rw [if_pos c75] at H
                         have c75b0 : decide (x14_6 < (y145.length : Int)) = true := decide_eq_true c75
                         clear c75
                         by_cases c76 : 0 ≤ x14_6
                         ·rw [if_pos c76] at H
                          have c76b0 : decide (0 ≤ x14_6) = true := decide_eq_true c76
                          clear c76
                          by_cases c77 : x14_6 < (x8_3.length : Int)
                          ·rw [if_pos c77] at H
                           have c77b0 : decide (x14_6 < (x8_3.length : Int)) = true := decide_eq_true c77
                           clear c77
                           by_cases c78 : ((rdOf (0 : Nat) y145 x14_6 : Nat) : Int) = (rd x8_3 x14_6)
                           ·rw [if_pos c78] at H
                            have c78b0 : (((rdOf (0 : Nat) y145 x14_6 : Nat) : Int) == (rd x8_3 x14_6)) = true := beq_iff_eq.mpr c78
                            have c78b1 : (((rdOf (0 : Nat) y145 x14_6 : Nat) : Int) != (rd x8_3 x14_6)) = false := bne_eq_false_iff_eq.mpr c78
                            clear c78
                            have H' := Zs.mk H
                            clear H
                            obtain ⟨Ao79, co79, eo79⟩ := Kd.R_slice HO_13.out
                            subst eo79
                            try go_wp2
                            have n0_ := Zs.mk (Kd.R_drew HO_3.out)
                            have n1_ := Zs.mk (Kd.R_drew HO_4.out)
                            have n2_ := Zs.mk (Kd.R_drew HO_6.out)
                            have n3_ := Zs.mk (Kd.R_drew HO_8.out)
                            have n4_ := Zs.mk (Kd.R_drew HO_13.out)
                            have n5_ := Zs.mk (zC HB.out)
                            clear HO_3
                            clear HO_4
                            clear HO_6
                            clear HO_8
                            clear HO_13
                            clear HB
                            have HO_3 := n0_
                            have HO_4 := n1_
                            have HO_6 := n2_
                            have HO_8 := n3_
                            have HO_13 := n4_
                            have HB := n5_
                            clear n0_ n1_ n2_ n3_ n4_ n5_
                            have p148 : 0 ≤ (x14_6 : Int) := of_decide_eq_true (by first | (with_reducible assumption) | assumption)
                            have q148 : x14_6 < (y145.length : Int) := of_decide_eq_true (by first | (with_reducible assumption) | assumption)
                            obtain ⟨ad148, e148, hx148_0⟩ := Kd.at_flo (Kd.R_reads' HO_13.out).2.2 x14_6 p148 q148
                            cases e148
                            replace p148 := eq_true p148
                            replace q148 := eq_true q148
                            obtain ⟨Ao81, co81, eo81⟩ := Kd.R_slice HO_8.out
                            (first | subst eo81 | (injection eo81 with f1_ f2_ f3_; have f4_ := f1_.symm; have f5_ := f3_.symm; clear f1_ f2_ f3_; subst f4_; subst f5_))
                            have p149 : 0 ≤ (x14_6 : Int) := of_decide_eq_true (by first | (with_reducible assumption) | assumption)
                            have q149 : x14_6 < (x8_3.length : Int) := of_decide_eq_true (by first | (with_reducible assumption) | assumption)
                            obtain ⟨ad149, e149, hx149_0⟩ := Kd.at_int (Kd.R_reads' HO_8.out).2.2 x14_6 p149 q149
                            cases e149
                            replace p149 := eq_true p149
                            replace q149 := eq_true q149
                            refine start_ (n := 10) (S := fun w' => w'.cell? (ad148.add (x14_6).toNat) = some (.float .f64 (rdOf (0 : Nat) y145 x14_6)) ∧ w'.cell? (ad149.add (x14_6).toNat) = some (.int .u64 (rd x8_3 x14_6))) (ds := []) (ba 10 0) (by kernel_rfl) rfl rfl ⟨hx148_0, hx149_0⟩ (fun hHeld => ?_); refine zT qt0oo.tab33 qt0oo.bits33 (fun HT_ HW_ => ?_)
                            generalize wr.drew = w80 at HO_3 HO_4 HO_6 HO_8 HO_13 HB hx148_0 hx149_0 hHeld ⊢
                            refine' pu 0 (some 116) (ba 10 1) HT_ rfl rfl (by kernel_rfl) (fun _ _ _ => id) ?_ ?_ ?_ <| pu 1 (some 117) (ba 10 3) HT_ rfl rfl (by kernel_rfl) (fun _ _ _ => id) ?_ ?_ ?_ <| pu 2 (some 118) (ba 10 7) HT_ rfl rfl (by kernel_rfl) (fun _ _ _ => id) ?_ ?_ ?_ <| pu 5 (some 121) (ba 10 39) HT_ rfl rfl (by kernel_rfl) (fun _ _ _ => id) ?_ ?_ ?_ <| pu 6 (some 122) (ba 10 103) HT_ rfl rfl (by kernel_rfl) (fun _ _ _ => id) ?_ ?_ ?_ <| pu 7 (some 123) (ba 10 231) HT_ rfl rfl (by kernel_rfl) (fun _ _ _ => id) ?_ ?_ ?_ <| ta 3 (some 119) (ba 10 239) HT_ HW_ rfl rfl (by kernel_rfl) (fun _ _ _ => id) ?_ ?_ hHeld ?_ <| pu 4 (some 120) (ba 10 255) HT_ rfl rfl (by kernel_rfl) (fun _ _ _ => id) ?_ ?_ ?_ <| ta 8 (some 124) (ba 10 511) HT_ HW_ rfl rfl (by kernel_rfl) (fun _ _ _ => id) ?_ ?_ hHeld ?_ <| pu 9 (some 125) (ba 10 1023) HT_ rfl rfl (by kernel_rfl) (fun _ _ _ => id) ?_ ?_ ?_ <| ?_
                            any_goals (first | (show Region.wanted _ _ = _; rfl) | (rintro w' ⟨s0, s1⟩; go_simp; with_reducible rfl) | (intro w'; go_simp; with_reducible rfl) | (simp only [Act.put, List.setIfInBounds_toArray, List.set_cons_zero, List.set_cons_succ, i64_w, i32_w]; rfl))
                            refine done_ (done_of HT_.out (by kernel_rfl)) ?_
                            try go_wp2
                            go_roundg k6
                            case measure => have := HJ9.out; have := HK2.out; have := HK3.out; have := HK4.out; have := HK5.out; have := HK6.out; omega
                            case rel => exact ⟨(wrap64 (x14_6 + 1)), (by first | rfl | (simp; done) | (simp [*]; done)), H', ⟨by have := HJ9.out; have := HK2.out; have := HK3.out; have := HK4.out; have := HK5.out; have := HK6.out; omega⟩, ⟨by (with_reducible repeat (first | apply Kd.R_alloc | apply Kd.R_drewN | apply Kd.R_drew)); exact HO_3.out⟩, ⟨by (with_reducible repeat (first | apply Kd.R_alloc | apply Kd.R_drewN | apply Kd.R_drew)); exact HO_4.out⟩, ⟨by (with_reducible repeat (first | apply Kd.R_alloc | apply Kd.R_drewN | apply Kd.R_drew)); exact HO_6.out⟩, ⟨by (with_reducible repeat (first | apply Kd.R_alloc | apply Kd.R_drewN | apply Kd.R_drew)); exact HO_8.out⟩, ⟨by (with_reducible repeat (first | apply Kd.R_alloc | apply Kd.R_drewN | apply Kd.R_drew)); exact HO_13.out⟩, ⟨by repeat (first | (with_reducible first | exact HB.out | apply zA | apply zB | apply zC) | exact HB.out)⟩⟩
                           ·rw [if_neg c78] at H
                            have c78b0 : (((rdOf (0 : Nat) y145 x14_6 : Nat) : Int) == (rd x8_3 x14_6)) = false := beq_eq_false_iff_ne.mpr c78
                            have c78b1 : (((rdOf (0 : Nat) y145 x14_6 : Nat) : Int) != (rd x8_3 x14_6)) = true := bne_iff_ne.mpr c78
                            exact absurd (Option.some.inj H).symm hrt
                          ·rw [if_neg c77] at H
                           exact absurd H (by simp)
                         ·rw [if_neg c76] at H
                          exact absurd H (by simp)
                        ·rw [if_neg c75] at H
                         have c75b0 : decide (x14_6 < (y145.length : Int)) = false := decide_eq_false c75
                         clear c75
                         obtain ⟨ji85, hji85⟩ : ∃ j_ : Int, (wrap64 ((y108.length : Int) - 1)) = j_ := ⟨_, rfl⟩
                         replace H : (if 0 ≤ (ji85) then (if (ji85) < (y108.length : Int) then (if ((FloatKind.format .f64).order (rdOf (0 : Nat) y108 (ji85)) 4611686018427387904 == some .eq) = true then (if 0 ≤ (wrap64 ((y108.length : Int) - 2)) then (if (wrap64 ((y108.length : Int) - 2)) < (y108.length : Int) then (if ((FloatKind.format .f64).order (rdOf (0 : Nat) y108 (wrap64 ((y108.length : Int) - 2))) 4607182418800017408 == some .eq) = true then (if 0 ≤ (wrap64 ((y133.length : Int) - 1)) then (if (wrap64 ((y133.length : Int) - 1)) < (y133.length : Int) then (if ((FloatKind.format .f64).order (rdOf (0 : Nat) y133 (wrap64 ((y133.length : Int) - 1))) 13840687554816376832 == some .eq) = true then (if 0 ≤ (wrap64 ((y136.length : Int) - 1)) then (if (wrap64 ((y136.length : Int) - 1)) < (y136.length : Int) then (if ((FloatKind.format .f64).order (rdOf (0 : Nat) y136 (wrap64 ((y136.length : Int) - 1))) 13841813454723219456 == some .eq) = true then ((qmi.f 1).bind fun t154 => ((qob.f k6 y108 t154).bind fun t155 => (some (decide (t155 ≥ 2))))) else (some false)) else (none)) else (none)) else (some false)) else (none)) else (none)) else (some false)) else (none)) else (none)) else (some false)) else (none)) else (none)) = some r := by first | (rw [hji85] at H; exact H) | (simp only [hji85] at H ⊢; exact H)
                         have hji85w : (IntKind.i64.wrap ((y108.length : Int) - 1)) = ji85 := (i64_w _).trans hji85
                         by_cases c86 : 0 ≤ (ji85)
                         ·rw [if_pos c86] at H
                          have c86b0 : decide (0 ≤ (ji85)) = true := decide_eq_true c86
                          clear c86
                          by_cases c87 : (ji85) < (y108.length : Int)
                          ·rw [if_pos c87] at H
                           have c87b0 : decide ((ji85) < (y108.length : Int)) = true := decide_eq_true c87
                           clear c87
                           by_cases c88 : ((FloatKind.format .f64).order (rdOf (0 : Nat) y108 (ji85)) 4611686018427387904 == some .eq) = true
                           ·rw [if_pos c88] at H
                            have c88b0 : ((FloatKind.format .f64).order (rdOf (0 : Nat) y108 (ji85)) 4611686018427387904 == some .eq) = true := c88
                            (try (have c88b1 : decide ((FloatKind.format .f64).order (rdOf (0 : Nat) y108 (ji85)) 4611686018427387904 = some .eq) = true := by simpa using c88))
                            (try (have c88b2 : ((FloatKind.format .f64).order (rdOf (0 : Nat) y108 (ji85)) 4611686018427387904 == some .eq) = true := by simpa using c88))
                            clear c88
                            obtain ⟨ji89, hji89⟩ : ∃ j_ : Int, (wrap64 ((y108.length : Int) - 2)) = j_ := ⟨_, rfl⟩
                            replace H : (if 0 ≤ (ji89) then (if (ji89) < (y108.length : Int) then (if ((FloatKind.format .f64).order (rdOf (0 : Nat) y108 (ji89)) 4607182418800017408 == some .eq) = true then (if 0 ≤ (wrap64 ((y133.length : Int) - 1)) then (if (wrap64 ((y133.length : Int) - 1)) < (y133.length : Int) then (if ((FloatKind.format .f64).order (rdOf (0 : Nat) y133 (wrap64 ((y133.length : Int) - 1))) 13840687554816376832 == some .eq) = true then (if 0 ≤ (wrap64 ((y136.length : Int) - 1)) then (if (wrap64 ((y136.length : Int) - 1)) < (y136.length : Int) then (if ((FloatKind.format .f64).order (rdOf (0 : Nat) y136 (wrap64 ((y136.length : Int) - 1))) 13841813454723219456 == some .eq) = true then ((qmi.f 1).bind fun t154 => ((qob.f k6 y108 t154).bind fun t155 => (some (decide (t155 ≥ 2))))) else (some false)) else (none)) else (none)) else (some false)) else (none)) else (none)) else (some false)) else (none)) else (none)) = some r := by first | (rw [hji89] at H; exact H) | (simp only [hji89] at H ⊢; exact H)
                            have hji89w : (IntKind.i64.wrap ((y108.length : Int) - 2)) = ji89 := (i64_w _).trans hji89
                            by_cases c90 : 0 ≤ (ji89)
                            ·rw [if_pos c90] at H
                             have c90b0 : decide (0 ≤ (ji89)) = true := decide_eq_true c90
                             clear c90
                             by_cases c91 : (ji89) < (y108.length : Int)
                             ·rw [if_pos c91] at H
                              have c91b0 : decide ((ji89) < (y108.length : Int)) = true := decide_eq_true c91
                              clear c91
                              by_cases c92 : ((FloatKind.format .f64).order (rdOf (0 : Nat) y108 (ji89)) 4607182418800017408 == some .eq) = true
                              ·rw [if_pos c92] at H
                               have c92b0 : ((FloatKind.format .f64).order (rdOf (0 : Nat) y108 (ji89)) 4607182418800017408 == some .eq) = true := c92
                               (try (have c92b1 : decide ((FloatKind.format .f64).order (rdOf (0 : Nat) y108 (ji89)) 4607182418800017408 = some .eq) = true := by simpa using c92))
                               (try (have c92b2 : ((FloatKind.format .f64).order (rdOf (0 : Nat) y108 (ji89)) 4607182418800017408 == some .eq) = true := by simpa using c92))
                               clear c92
                               obtain ⟨ji93, hji93⟩ : ∃ j_ : Int, (wrap64 ((y133.length : Int) - 1)) = j_ := ⟨_, rfl⟩
                               replace H : (if 0 ≤ (ji93) then (if (ji93) < (y133.length : Int) then (if ((FloatKind.format .f64).order (rdOf (0 : Nat) y133 (ji93)) 13840687554816376832 == some .eq) = true then (if 0 ≤ (wrap64 ((y136.length : Int) - 1)) then (if (wrap64 ((y136.length : Int) - 1)) < (y136.length : Int) then (if ((FloatKind.format .f64).order (rdOf (0 : Nat) y136 (wrap64 ((y136.length : Int) - 1))) 13841813454723219456 == some .eq) = true then ((qmi.f 1).bind fun t154 => ((qob.f k6 y108 t154).bind fun t155 => (some (decide (t155 ≥ 2))))) else (some false)) else (none)) else (none)) else (some false)) else (none)) else (none)) = some r := by first | (rw [hji93] at H; exact H) | (simp only [hji93] at H ⊢; exact H)
                               have hji93w : (IntKind.i64.wrap ((y133.length : Int) - 1)) = ji93 := (i64_w _).trans hji93
                               by_cases c94 : 0 ≤ (ji93)
                               ·rw [if_pos c94] at H
                                have c94b0 : decide (0 ≤ (ji93)) = true := decide_eq_true c94
                                clear c94
                                by_cases c95 : (ji93) < (y133.length : Int)
                                ·rw [if_pos c95] at H
                                 have c95b0 : decide ((ji93) < (y133.length : Int)) = true := decide_eq_true c95
                                 clear c95
                                 by_cases c96 : ((FloatKind.format .f64).order (rdOf (0 : Nat) y133 (ji93)) 13840687554816376832 == some .eq) = true
                                 ·rw [if_pos c96] at H
                                  have c96b0 : ((FloatKind.format .f64).order (rdOf (0 : Nat) y133 (ji93)) 13840687554816376832 == some .eq) = true := c96
                                  (try (have c96b1 : decide ((FloatKind.format .f64).order (rdOf (0 : Nat) y133 (ji93)) 13840687554816376832 = some .eq) = true := by simpa using c96))
                                  (try (have c96b2 : ((FloatKind.format .f64).order (rdOf (0 : Nat) y133 (ji93)) 13840687554816376832 == some .eq) = true := by simpa using c96))
                                  clear c96
                                  obtain ⟨ji97, hji97⟩ : ∃ j_ : Int, (wrap64 ((y136.length : Int) - 1)) = j_ := ⟨_, rfl⟩
                                  replace H : (if 0 ≤ (ji97) then (if (ji97) < (y136.length : Int) then (if ((FloatKind.format .f64).order (rdOf (0 : Nat) y136 (ji97)) 13841813454723219456 == some .eq) = true then ((qmi.f 1).bind fun t154 => ((qob.f k6 y108 t154).bind fun t155 => (some (decide (t155 ≥ 2))))) else (some false)) else (none)) else (none)) = some r := by first | (rw [hji97] at H; exact H) | (simp only [hji97] at H ⊢; exact H)
                                  have hji97w : (IntKind.i64.wrap ((y136.length : Int) - 1)) = ji97 := (i64_w _).trans hji97
                                  by_cases c98 : 0 ≤ (ji97)
                                  ·rw [if_pos c98] at H
                                   have c98b0 : decide (0 ≤ (ji97)) = true := decide_eq_true c98
                                   clear c98
                                   by_cases c99 : (ji97) < (y136.length : Int)
                                   ·rw [if_pos c99] at H
                                    have c99b0 : decide ((ji97) < (y136.length : Int)) = true := decide_eq_true c99
                                    clear c99
                                    by_cases c100 : ((FloatKind.format .f64).order (rdOf (0 : Nat) y136 (ji97)) 13841813454723219456 == some .eq) = true
                                    ·rw [if_pos c100] at H
                                     have c100b0 : ((FloatKind.format .f64).order (rdOf (0 : Nat) y136 (ji97)) 13841813454723219456 == some .eq) = true := c100
                                     (try (have c100b1 : decide ((FloatKind.format .f64).order (rdOf (0 : Nat) y136 (ji97)) 13841813454723219456 = some .eq) = true := by simpa using c100))
                                     (try (have c100b2 : ((FloatKind.format .f64).order (rdOf (0 : Nat) y136 (ji97)) 13841813454723219456 == some .eq) = true := by simpa using c100))
                                     clear c100
                                     replace H := Option.bind_eq_some_iff.mp H
                                     obtain ⟨t154, A1010, H⟩ := H
                                     replace H : ((qob.f k6 y108 t154).bind fun t155 => (some (decide (t155 ≥ 2)))) = some r := H
                                     have A101 := Zs.mk A1010
                                     clear A1010
                                     replace H := Option.bind_eq_some_iff.mp H
                                     obtain ⟨t155, A1020, H⟩ := H
                                     replace H : (some (decide (t155 ≥ 2))) = some r := H
                                     have A102 := Zs.mk A1020
                                     clear A1020
                                     obtain rfl := Option.some.inj H
                                     obtain ⟨Ao103, co103, eo103⟩ := Kd.R_slice HO_13.out
                                     subst eo103
                                     have p150 : 0 ≤ ((ji85) : Int) := of_decide_eq_true (by first | (with_reducible assumption) | assumption)
                                     have q150 : (ji85) < (y108.length : Int) := of_decide_eq_true (by first | (with_reducible assumption) | assumption)
                                     obtain ⟨ad150, e150, hx150_0⟩ := Kd.at_flo (Kd.R_reads' HO_3.out).2.2 (ji85) p150 q150
                                     cases e150
                                     replace p150 := eq_true p150
                                     replace q150 := eq_true q150
                                     have p151 : 0 ≤ ((ji89) : Int) := of_decide_eq_true (by first | (with_reducible assumption) | assumption)
                                     have q151 : (ji89) < (y108.length : Int) := of_decide_eq_true (by first | (with_reducible assumption) | assumption)
                                     obtain ⟨ad151, e151, hx151_0⟩ := Kd.at_flo (Kd.R_reads' HO_3.out).2.2 (ji89) p151 q151
                                     obtain rfl : ad150 = ad151 := (by injection e151)
                                     replace p151 := eq_true p151
                                     replace q151 := eq_true q151
                                     obtain ⟨Ao104, co104, eo104⟩ := Kd.R_slice HO_4.out
                                     subst eo104
                                     have p152 : 0 ≤ ((ji93) : Int) := of_decide_eq_true (by first | (with_reducible assumption) | assumption)
                                     have q152 : (ji93) < (y133.length : Int) := of_decide_eq_true (by first | (with_reducible assumption) | assumption)
                                     obtain ⟨ad152, e152, hx152_0⟩ := Kd.at_flo (Kd.R_reads' HO_4.out).2.2 (ji93) p152 q152
                                     cases e152
                                     replace p152 := eq_true p152
                                     replace q152 := eq_true q152
                                     obtain ⟨Ao105, co105, eo105⟩ := Kd.R_slice HO_6.out
                                     subst eo105
                                     have p153 : 0 ≤ ((ji97) : Int) := of_decide_eq_true (by first | (with_reducible assumption) | assumption)
                                     have q153 : (ji97) < (y136.length : Int) := of_decide_eq_true (by first | (with_reducible assumption) | assumption)
                                     obtain ⟨ad153, e153, hx153_0⟩ := Kd.at_flo (Kd.R_reads' HO_6.out).2.2 (ji97) p153 q153
                                     cases e153
                                     replace p153 := eq_true p153
                                     replace q153 := eq_true q153
                                     go_wp2_with (first | (go_at_call 55; (with_reducible refine (qmi.calls 1 t154 _ A101.out).mono ?_); rintro e w' ⟨rfl, ⟨nd, rfl⟩⟩) | (go_at_call 49; (with_reducible refine (qob.calls k6 _ _ y108 t154 t155 _ ?side1 ?side2 A102.out).mono ?_); (case side1 => repeat (first | exact (Kd.R_reads' HO_3.out).2.2 | (with_reducible refine Kd.C_alloc ?_ _) | (with_reducible refine Kd.C_drewN ?_ _) | (with_reducible refine Kd.C_drew ?_))); (case side2 => exact (Kd.R_reads' HO_3.out).2.1); rintro e w' ⟨rfl, ⟨nd, rfl⟩⟩))
                                     go_ret
                                     exact ⟨by first | rfl | (simp [zE, zF] <;> rfl) | (simp only [← hji85, ← hji89, ← hji93, ← hji97]; first | rfl | (simp [zE, zF] <;> rfl)) | (simp [*, zE, zF] <;> rfl), by repeat (first | (with_reducible first | exact HB.out | apply zA | apply zB | apply zC) | exact HB.out)⟩
                                    ·rw [if_neg c100] at H
                                     have c100b0 : ((FloatKind.format .f64).order (rdOf (0 : Nat) y136 (ji97)) 13841813454723219456 == some .eq) = false := by simpa using c100
                                     (try (have c100b1 : decide ((FloatKind.format .f64).order (rdOf (0 : Nat) y136 (ji97)) 13841813454723219456 = some .eq) = false := by simpa using c100))
                                     (try (have c100b2 : ((FloatKind.format .f64).order (rdOf (0 : Nat) y136 (ji97)) 13841813454723219456 == some .eq) = false := by simpa using c100))
                                     (try (have c100b3 : ¬ ((FloatKind.format .f64).order (rdOf (0 : Nat) y136 (ji97)) 13841813454723219456 = some .eq) := by simpa using c100))
                                     clear c100
                                     exact absurd (Option.some.inj H).symm hrt
                                   ·rw [if_neg c99] at H
                                    exact absurd H (by simp)
                                  ·rw [if_neg c98] at H
                                   exact absurd H (by simp)
                                 ·rw [if_neg c96] at H
                                  have c96b0 : ((FloatKind.format .f64).order (rdOf (0 : Nat) y133 (ji93)) 13840687554816376832 == some .eq) = false := by simpa using c96
                                  (try (have c96b1 : decide ((FloatKind.format .f64).order (rdOf (0 : Nat) y133 (ji93)) 13840687554816376832 = some .eq) = false := by simpa using c96))
                                  (try (have c96b2 : ((FloatKind.format .f64).order (rdOf (0 : Nat) y133 (ji93)) 13840687554816376832 == some .eq) = false := by simpa using c96))
                                  (try (have c96b3 : ¬ ((FloatKind.format .f64).order (rdOf (0 : Nat) y133 (ji93)) 13840687554816376832 = some .eq) := by simpa using c96))
                                  clear c96
                                  exact absurd (Option.some.inj H).symm hrt
                                ·rw [if_neg c95] at H
                                 exact absurd H (by simp)
                               ·rw [if_neg c94] at H
                                exact absurd H (by simp)
                              ·rw [if_neg c92] at H
                               have c92b0 : ((FloatKind.format .f64).order (rdOf (0 : Nat) y108 (ji89)) 4607182418800017408 == some .eq) = false := by simpa using c92
                               (try (have c92b1 : decide ((FloatKind.format .f64).order (rdOf (0 : Nat) y108 (ji89)) 4607182418800017408 = some .eq) = false := by simpa using c92))
                               (try (have c92b2 : ((FloatKind.format .f64).order (rdOf (0 : Nat) y108 (ji89)) 4607182418800017408 == some .eq) = false := by simpa using c92))
                               (try (have c92b3 : ¬ ((FloatKind.format .f64).order (rdOf (0 : Nat) y108 (ji89)) 4607182418800017408 = some .eq) := by simpa using c92))
                               clear c92
                               exact absurd (Option.some.inj H).symm hrt
                             ·rw [if_neg c91] at H
                              exact absurd H (by simp)
                            ·rw [if_neg c90] at H
                             exact absurd H (by simp)
                           ·rw [if_neg c88] at H
                            have c88b0 : ((FloatKind.format .f64).order (rdOf (0 : Nat) y108 (ji85)) 4611686018427387904 == some .eq) = false := by simpa using c88
                            (try (have c88b1 : decide ((FloatKind.format .f64).order (rdOf (0 : Nat) y108 (ji85)) 4611686018427387904 = some .eq) = false := by simpa using c88))
                            (try (have c88b2 : ((FloatKind.format .f64).order (rdOf (0 : Nat) y108 (ji85)) 4611686018427387904 == some .eq) = false := by simpa using c88))
                            (try (have c88b3 : ¬ ((FloatKind.format .f64).order (rdOf (0 : Nat) y108 (ji85)) 4611686018427387904 = some .eq) := by simpa using c88))
                            clear c88
                            exact absurd (Option.some.inj H).symm hrt
                          ·rw [if_neg c87] at H
                           exact absurd H (by simp)
                         ·rw [if_neg c86] at H
                          exact absurd H (by simp)
                     ·rw [if_neg c67] at H
                      exact absurd H (by simp)
                    ·rw [if_neg c66] at H
                     exact absurd H (by simp)
                   ·rw [if_neg c65] at H
                    exact absurd H (by simp)
                  ·rw [if_neg c64] at H
                   exact absurd H (by simp)
  ·rw [if_neg c5] at H
   exact absurd H (by simp)
 ·replace c3 := Bool.eq_false_iff.mpr c3
  subst c3
  have H1 : (some false) = some r := by rw [if_neg (show ¬ (false = true) by decide)] at H; exact H
  clear H
  have H := H1
  clear H1
  exact absurd (Option.some.inj H).symm hrt
end Go.Proofs.Ytkmbgfhkdopigaa.P
