/- Texts that the statement's proof leans on, part 19. -/
import Derived.Test.YtkmbgfhkdopigaaDoorTB4
import Derived.Test.YtkmbgfhkdopigaaDoorTB5
import Derived.Test.YtkmbgfhkdopigaaDoorTB18
namespace Go.Proofs.YtkmbgfhkdopigaaDoor.P
open Go.RowKit Go.Proofs.YtkmbgfhkdopigaaDoorW.PrintWords Go.Proofs.YtkmbgfhkdopigaaDoorW.PrintLast Go.Proofs.YtkmbgfhkdopigaaDoorW.PrintMore
attribute [local go_sem] max2_int min2_int max_two min_two max_three min_three max_four min_four
attribute [local go_sem] Go.Proofs.YtkmbgfhkdopigaaDoor.Fl.store_float Go.Proofs.YtkmbgfhkdopigaaDoor.Fl.call58 Go.Proofs.YtkmbgfhkdopigaaDoor.Fl.call62
set_option linter.unusedVariables false
set_option linter.unusedSimpArgs false
mutual
def thickettop_TopBelow.j0 : Nat → Nat → List Nat → Bool → Option (Bool)
 | 0, _, _, _ => none
 | k + 1, x1, x5, x31 => if x31 = true then (some false) else (if (x5.length : Int) > 1048576 then (some true) else ((qob1.f k x5 x1).bind fun t112 => ((qbm.f k (x5.length : Int) 0 t112).bind fun bt113 => (if bt113.2 = 0 then ((qbc.f k bt113.1).bind fun t117 => (thickettop_TopBelow.j1 k x1 x5 t112 bt113.1 (t117 != (wrap64 ((x5.length : Int) - t112))))) else (thickettop_TopBelow.j1 k x1 x5 t112 bt113.1 true)))))
def thickettop_TopBelow.j1 : Nat → Nat → List Nat → Int → List Int → Bool → Option (Bool)
 | 0, _, _, _, _, _ => none
 | k + 1, x1, x5, x7, x8, x55 => if x55 = true then (some false) else ((qbl.f k x8).bind fun t118 => (if t118 = x7 then (thickettop_TopBelow.j2 k x1 x5 x8 t118 false) else (if t118 = (-1) then (thickettop_TopBelow.j2 k x1 x5 x8 t118 (!(x7 == (x5.length : Int)))) else (thickettop_TopBelow.j2 k x1 x5 x8 t118 (!false)))))
def thickettop_TopBelow.j2 : Nat → Nat → List Nat → List Int → Int → Bool → Option (Bool)
 | 0, _, _, _, _, _ => none
 | k + 1, x1, x5, x8, x10, x71 => if x71 = true then (some false) else (thickettop_TopBelow.l0 k x1 x5 x8 x10 x5 (x5.length : Int) 0)
def thickettop_TopBelow.l0 : Nat → Nat → List Nat → List Int → Int → List Nat → Int → Int → Option (Bool)
 | 0, _, _, _, _, _, _, _ => none
 | k + 1, x1, x5, x8, x10, x72, x73, x74 => if x74 < x73 then (if 0 ≤ x74 then (if x74 < (x72.length : Int) then ((qbh.f x8 x74).bind fun t120 => ((qoc.f (rdOf (0 : Nat) x72 x74) x1).bind fun t121 => (if (t120 == (decide (t121 < 0))) = true then (some false) else (if x74 > 0 then (if 0 ≤ (wrap64 (x74 - 1)) then (if (wrap64 (x74 - 1)) < (x5.length : Int) then ((qoc.f (rdOf (0 : Nat) x5 (wrap64 (x74 - 1))) (rdOf (0 : Nat) x72 x74)).bind fun t123 => (if t123 ≥ 0 then (some false) else (thickettop_TopBelow.l0 k x1 x5 x8 x10 x72 x73 (wrap64 (x74 + 1))))) else (none)) else (none)) else (thickettop_TopBelow.l0 k x1 x5 x8 x10 x72 x73 (wrap64 (x74 + 1))))))) else (none)) else (none)) else (if x10 < 0 then (if ((FloatKind.format .f64).order x1 x1 != some .eq) = true then (some true) else (if (x5.length : Int) = 0 then (some true) else (if 0 ≤ (wrap64 ((x5.length : Int) - 1)) then (if (wrap64 ((x5.length : Int) - 1)) < (x5.length : Int) then ((qoc.f (rdOf (0 : Nat) x5 (wrap64 ((x5.length : Int) - 1))) x1).bind fun t125 => (some (decide (t125 < 0)))) else (none)) else (none)))) else (if ((FloatKind.format .f64).order x1 x1 != some .eq) = true then (some false) else (if 0 ≤ x10 then (if x10 < (x5.length : Int) then ((qob.f k x1 (rdOf (0 : Nat) x5 x10)).bind fun bt127 => (if bt127.2 = 0 then (if bt127.1 > 0 then (if x10 = 0 then (some true) else (if 0 ≤ (wrap64 (x10 - 1)) then (if (wrap64 (x10 - 1)) < (x5.length : Int) then ((qoc.f (rdOf (0 : Nat) x5 (wrap64 (x10 - 1))) x1).bind fun t130 => (some (decide (t130 < 0)))) else (none)) else (none))) else (some false)) else (some false))) else (none)) else (none))))
end
def thickettop_TopBelow.f (k : Nat) (l0 : List Nat) (a1 : Nat) : Option (Bool) := (qod.f l0).bind fun t101 => ((qod.f (([4611686018427387904, 4607182418800017408, 4611686018427387904] : List Nat))).bind fun t107 => (if (t107.length : Int) = 2 then (if 0 < (t107.length : Int) then (if ((FloatKind.format .f64).order (rdOf (0 : Nat) t107 0) 4607182418800017408 != some .eq) = true then (thickettop_TopBelow.j0 k a1 t101 true) else ((qob1.f k t107 4611686018427387904).bind fun t111 => (thickettop_TopBelow.j0 k a1 t101 (t111 != 1)))) else (none)) else (thickettop_TopBelow.j0 k a1 t101 true)))
set_option maxHeartbeats 8000000 in
set_option maxRecDepth 100000 in
theorem thickettop_TopBelow.calls (k : Nat) (A0 : Option Addr) (c0 : Nat) (l0 : List Nat) (a1 : Nat) (r : Bool) (w : World) (hr0 : Kd.C (Kd.scalar (Value.float .f64) (fun _ => rfl)) w A0 l0.length l0) (hc0 : l0.length ≤ c0) (h : thickettop_TopBelow.f k l0 a1 = some r) (hT : Tab 0 w) (hg : 0 < w.heap.size) :
  Calls Tryd.prog 3 #[.slice A0 l0.length c0, .float .f64 a1] w fun e w' => e = .returned (.bool r) ∧ Below w.heap.size w w' := by
 have HR0 := Zs.mk hr0
 have HC0 := Zs.mk hc0
 have HTb := Zs.mk hT
 have HGb := Zs.mk hg
 clear hT hg
 clear hr0 hc0
 have HB := Zs.mk (Below.refl w.heap.size w)
 have H : ((qod.f l0).bind fun t101 => ((qod.f (([4611686018427387904, 4607182418800017408, 4611686018427387904] : List Nat))).bind fun t107 => (if (t107.length : Int) = 2 then (if 0 < (t107.length : Int) then (if ((FloatKind.format .f64).order (rdOf (0 : Nat) t107 0) 4607182418800017408 != some .eq) = true then (thickettop_TopBelow.j0 k a1 t101 true) else ((qob1.f k t107 4611686018427387904).bind fun t111 => (thickettop_TopBelow.j0 k a1 t101 (t111 != 1)))) else (none)) else (thickettop_TopBelow.j0 k a1 t101 true)))) = some r := h
 clear h
 replace H := Option.bind_eq_some_iff.mp H
 obtain ⟨t101, A30, H⟩ := H
 replace H : ((qod.f (([4611686018427387904, 4607182418800017408, 4611686018427387904] : List Nat))).bind fun t107 => (if (t107.length : Int) = 2 then (if 0 < (t107.length : Int) then (if ((FloatKind.format .f64).order (rdOf (0 : Nat) t107 0) 4607182418800017408 != some .eq) = true then (thickettop_TopBelow.j0 k a1 t101 true) else ((qob1.f k t107 4611686018427387904).bind fun t111 => (thickettop_TopBelow.j0 k a1 t101 (t111 != 1)))) else (none)) else (thickettop_TopBelow.j0 k a1 t101 true))) = some r := H
 have A3 := Zs.mk A30
 clear A30
 obtain ⟨y104, hy104⟩ : ∃ y_ : List Nat, y_ = (([4611686018427387904, 4607182418800017408, 4611686018427387904] : List Nat)) := ⟨_, rfl⟩
 replace H : ((qod.f y104).bind fun t107 => (if (t107.length : Int) = 2 then (if 0 < (t107.length : Int) then (if ((FloatKind.format .f64).order (rdOf (0 : Nat) t107 0) 4607182418800017408 != some .eq) = true then (thickettop_TopBelow.j0 k a1 t101 true) else ((qob1.f k t107 4611686018427387904).bind fun t111 => (thickettop_TopBelow.j0 k a1 t101 (t111 != 1)))) else (none)) else (thickettop_TopBelow.j0 k a1 t101 true))) = some r := by first | (rw [hy104]; with_reducible exact H) | (have H2_ := (Option.bind_some _ _).symm.trans H; rw [hy104]; with_reducible exact H2_) | (have H2_ := (Option.bind_some _ _).symm.trans H; with_reducible exact H2_) | with_reducible exact H | (rw [hy104]; exact H) | exact H
 have Ny104 := Zs.mk hy104
 clear hy104
 replace H := Option.bind_eq_some_iff.mp H
 obtain ⟨t107, A40, H⟩ := H
 replace H : (if (t107.length : Int) = 2 then (if 0 < (t107.length : Int) then (if ((FloatKind.format .f64).order (rdOf (0 : Nat) t107 0) 4607182418800017408 != some .eq) = true then (thickettop_TopBelow.j0 k a1 t101 true) else ((qob1.f k t107 4611686018427387904).bind fun t111 => (thickettop_TopBelow.j0 k a1 t101 (t111 != 1)))) else (none)) else (thickettop_TopBelow.j0 k a1 t101 true)) = some r := H
 have A4 := Zs.mk A40
 clear A40
 have HC5 := Zs.mk H
 clear H
 go_enter Tryd.func3, Tryd.ntmps3
 go_upto_region 3 with (first | ((with_reducible refine gate_callee (f := 7) rfl ?_); refine goesL_ (some 15) rfl rfl Tryd.func7 (by kernel_rfl) rfl #[.slice A0 l0.length c0] rfl (by (try simp only [List.map_toArray, List.map_cons, List.map_nil]); first | done | rfl | (simp only [List.length_drop, List.length_take]; rfl)) ?_; (with_reducible refine (qod.calls _ _ l0 t101 _ ?side1 ?side2 A3.out).mono ?_); (case side1 => repeat (first | exact HR0.out | (with_reducible refine Kd.C_alloc ?_ _) | (with_reducible refine Kd.C_drewN ?_ _) | (with_reducible refine Kd.C_drew ?_))); (case side2 => exact HC0.out); rintro e w6 ⟨v102, rfl, ho0, hb⟩; refine ⟨_, rfl, ?_⟩; have n0_ := Zs.mk (Kd.R_lower ho0 (below_size (by repeat (first | (with_reducible first | exact HB.out | apply zA | apply zB | apply zC) | exact HB.out)))); have n1_ := Zs.mk (below_step (by repeat (first | (with_reducible first | exact HB.out | apply zA | apply zB | apply zC) | exact HB.out)) hb); clear HB; have HO103 := n0_; have HB := n1_; clear n0_ n1_; (try clear hb); (try clear hb2); (try clear hk); (try clear hi); (try clear ho0)) | ((with_reducible refine gate_dst (N := 16) rfl ?_); (try (refine gate_guard (by rfl) ?_; dsimp only)); refine Kd.R_lit (Kd.scalar (Value.float .f64) (fun _ => rfl)) _ 23 ?hg (N := 16) ?hd (xs := ([4611686018427387904, 4607182418800017408, 4611686018427387904] : List Nat)) (inner := [.float .f64 4611686018427387904, .float .f64 4607182418800017408, .float .f64 4611686018427387904]) (ok := fun _ => True) (okp := fun _ => True) ?hr ?hp (fun _ hk => hk) trivial (Below.refl _ _) (Nat.le_refl _) (by simp) ?_; (case hd => rfl); (case hg => rfl); (case hr => first | (go_simp; done) | (go_simp; rfl)); (case hp => exact (Reps.one (show Kd.M (Kd.scalar (Value.float .f64) (fun _ => rfl)) _ _ _ 4611686018427387904 [.float .f64 4611686018427387904] from rfl) (Reps.one (show Kd.M (Kd.scalar (Value.float .f64) (fun _ => rfl)) _ _ _ 4607182418800017408 [.float .f64 4607182418800017408] from rfl) (Reps.one (show Kd.M (Kd.scalar (Value.float .f64) (fun _ => rfl)) _ _ _ 4611686018427387904 [.float .f64 4611686018427387904] from rfl) (Reps.none _ _))))); intro v105 w7 ho8 hb hg_ hnew_; clear hg_ hnew_; (first | rw [← Ny104.out] at ho8 | (simp only [Int.reduceToNat] at ho8; rw [← Ny104.out] at ho8)); have n0_ := Zs.mk (Kd.R_elder' (by (with_reducible repeat (first | apply Kd.R_alloc | apply Kd.R_drewN | apply Kd.R_drew)); exact HO103.out) (Kd.R_base ho8) hb); have n1_ := Zs.mk (Kd.R_lower (Kd.R_new' ho8 (Kd.R_lt (by (with_reducible repeat (first | apply Kd.R_alloc | apply Kd.R_drewN | apply Kd.R_drew)); exact HO103.out))) (below_size (by repeat (first | (with_reducible first | exact HB.out | apply zA | apply zB | apply zC) | exact HB.out)))); have n2_ := Zs.mk (below_step (by repeat (first | (with_reducible first | exact HB.out | apply zA | apply zB | apply zC) | exact HB.out)) hb); clear HO103; clear HB; have HO103 := n0_; have HO106 := n1_; have HB := n2_; clear n0_ n1_ n2_; clear hb ho8; obtain ⟨Ao9, co9, eo9⟩ := Kd.R_slice HO106.out; subst eo9) | ((with_reducible refine gate_callee (f := 7) rfl ?_); refine goesL_ (some 17) rfl rfl Tryd.func7 (by kernel_rfl) rfl #[.slice Ao9 y104.length co9] rfl (by (try simp only [List.map_toArray, List.map_cons, List.map_nil]); first | done | rfl | (simp only [List.length_drop, List.length_take]; rfl)) ?_; (with_reducible refine (qod.calls _ _ y104 t107 _ ?side1 ?side2 A4.out).mono ?_); (case side1 => repeat (first | exact (Kd.R_reads' HO106.out).2.2 | (with_reducible refine Kd.C_alloc ?_ _) | (with_reducible refine Kd.C_drewN ?_ _) | (with_reducible refine Kd.C_drew ?_))); (case side2 => exact (Kd.R_reads' HO106.out).2.1); rintro e w10 ⟨v108, rfl, ho0, hb⟩; refine ⟨_, rfl, ?_⟩; have n0_ := Zs.mk (Kd.R_elder' (by (with_reducible repeat (first | apply Kd.R_alloc | apply Kd.R_drewN | apply Kd.R_drew)); exact HO103.out) (Kd.R_base ho0) hb); have n1_ := Zs.mk (Kd.R_elder' (by (with_reducible repeat (first | apply Kd.R_alloc | apply Kd.R_drewN | apply Kd.R_drew)); exact HO106.out) (Kd.R_base ho0) hb); have n2_ := Zs.mk (Kd.R_lower (Kd.R_new' (Kd.R_new' ho0 (Kd.R_lt (by (with_reducible repeat (first | apply Kd.R_alloc | apply Kd.R_drewN | apply Kd.R_drew)); exact HO103.out))) (Kd.R_lt (by (with_reducible repeat (first | apply Kd.R_alloc | apply Kd.R_drewN | apply Kd.R_drew)); exact HO106.out))) (below_size (by repeat (first | (with_reducible first | exact HB.out | apply zA | apply zB | apply zC) | exact HB.out)))); have n3_ := Zs.mk (below_step (by repeat (first | (with_reducible first | exact HB.out | apply zA | apply zB | apply zC) | exact HB.out)) hb); clear HO103; clear HO106; clear HB; have HO103 := n0_; have HO106 := n1_; have HO109 := n2_; have HB := n3_; clear n0_ n1_ n2_ n3_; (try clear hb); (try clear hb2); (try clear hk); (try clear hi); (try clear ho0)))
 (try simp only [Act.put, List.setIfInBounds_toArray, List.set_cons_zero, List.set_cons_succ])
 go_cut [31] (fun v31 wc => ∃ (kq : Nat) (x31_4 : Bool), v31 = .bool x31_4 ∧ Zs (thickettop_TopBelow.j0 kq a1 t101 x31_4 = some r) ∧ Zs (kq ≤ k) ∧ Zs (Kd.R (Kd.scalar (Value.float .f64) (fun _ => rfl)) 23 wc w.heap.size (fun _ => True) v102 t101) ∧ Zs (Below w.heap.size w wc))
 case first =>
  have H := HC5.out
  clear HC5
  by_cases c11 : (t107.length : Int) = 2
  ·rw [if_pos c11] at H
   have c11b0 : ((t107.length : Int) == 2) = true := beq_iff_eq.mpr c11
   have c11b1 : ((t107.length : Int) != 2) = false := bne_eq_false_iff_eq.mpr c11
   clear c11
   (first | rw [c11b0] | (simp only [i64_w, i32_w]; rw [c11b0]) | skip)
   by_cases c12 : 0 < (t107.length : Int)
   ·rw [if_pos c12] at H
    have c12b0 : decide (0 < (t107.length : Int)) = true := decide_eq_true c12
    have c12b1 : decide (0 < t107.length) = true := decide_eq_true (by omega)
    clear c12
    by_cases c13 : ((FloatKind.format .f64).order (rdOf (0 : Nat) t107 0) 4607182418800017408 != some .eq) = true
    ·rw [if_pos c13] at H
     have c13b0 : ((FloatKind.format .f64).order (rdOf (0 : Nat) t107 0) 4607182418800017408 != some .eq) = true := c13
     (try (have c13b1 : decide ((FloatKind.format .f64).order (rdOf (0 : Nat) t107 0) 4607182418800017408 = some .eq) = false := by simpa using c13))
     (try (have c13b2 : ((FloatKind.format .f64).order (rdOf (0 : Nat) t107 0) 4607182418800017408 == some .eq) = false := by simpa using c13))
     (try (have c13b3 : ¬ ((FloatKind.format .f64).order (rdOf (0 : Nat) t107 0) 4607182418800017408 = some .eq) := by simpa using c13))
     clear c13
     have H' := Zs.mk H
     clear H
     obtain ⟨Ao14, co14, eo14⟩ := Kd.R_slice HO109.out
     subst eo14
     have p110 : 0 ≤ (0 : Int) := (by omega)
     have q110 : 0 < (t107.length : Int) := of_decide_eq_true (by first | (with_reducible assumption) | assumption)
     obtain ⟨ad110, e110, hx110_0⟩ := Kd.at_flo (Kd.R_reads' HO109.out).2.2 0 p110 q110
     cases e110
     have qi110 : (0 < t107.length) = True := eq_true (by omega)
     (try rw [show ((0 : Int)).toNat = 0 from rfl] at hx110_0)
     (try rw [Addr.add_zero'] at hx110_0)
     replace p110 := eq_true p110
     replace q110 := eq_true q110
     go_wp2
     go_meet
     case rel => exact ⟨_, (true), (by first | rfl | (simp; done) | (simp [*]; done)), H', ⟨by first | omega | exact Nat.le_refl _⟩, ⟨by (with_reducible repeat (first | apply Kd.R_alloc | apply Kd.R_drewN | apply Kd.R_drew)); exact Kd.R_mono HO103.out (fun _ hk => trivial)⟩, ⟨by repeat (first | (with_reducible first | exact HB.out | apply zA | apply zB | apply zC) | exact HB.out)⟩⟩
    ·rw [if_neg c13] at H
     have c13b0 : ((FloatKind.format .f64).order (rdOf (0 : Nat) t107 0) 4607182418800017408 != some .eq) = false := by simpa using c13
     (try (have c13b1 : decide ((FloatKind.format .f64).order (rdOf (0 : Nat) t107 0) 4607182418800017408 = some .eq) = true := by simpa using c13))
     (try (have c13b2 : ((FloatKind.format .f64).order (rdOf (0 : Nat) t107 0) 4607182418800017408 == some .eq) = true := by simpa using c13))
     clear c13
     replace H := Option.bind_eq_some_iff.mp H
     obtain ⟨t111, A150, H⟩ := H
     replace H : (thickettop_TopBelow.j0 k a1 t101 (t111 != 1)) = some r := H
     have A15 := Zs.mk A150
     clear A150
     have H' := Zs.mk H
     clear H
     obtain ⟨Ao16, co16, eo16⟩ := Kd.R_slice HO109.out
     subst eo16
     have p110 : 0 ≤ (0 : Int) := (by omega)
     have q110 : 0 < (t107.length : Int) := of_decide_eq_true (by first | (with_reducible assumption) | assumption)
     obtain ⟨ad110, e110, hx110_0⟩ := Kd.at_flo (Kd.R_reads' HO109.out).2.2 0 p110 q110
     cases e110
     have qi110 : (0 < t107.length) = True := eq_true (by omega)
     (try rw [show ((0 : Int)).toNat = 0 from rfl] at hx110_0)
     (try rw [Addr.add_zero'] at hx110_0)
     replace p110 := eq_true p110
     replace q110 := eq_true q110
     go_wp2_with (first | (go_at_call 8; (with_reducible refine (qob1.calls k _ _ t107 4611686018427387904 t111 _ ?side1 ?side2 A15.out).mono ?_); (case side1 => repeat (first | exact (Kd.R_reads' HO109.out).2.2 | (with_reducible refine Kd.C_alloc ?_ _) | (with_reducible refine Kd.C_drewN ?_ _) | (with_reducible refine Kd.C_drew ?_))); (case side2 => exact (Kd.R_reads' HO109.out).2.1); rintro e w' ⟨rfl, ⟨nd, rfl⟩⟩))
     go_meet
     case rel => exact ⟨_, ((t111 != 1)), (by first | rfl | (simp; done) | (simp [*]; done)), H', ⟨by first | omega | exact Nat.le_refl _⟩, ⟨by (with_reducible repeat (first | apply Kd.R_alloc | apply Kd.R_drewN | apply Kd.R_drew)); exact Kd.R_mono HO103.out (fun _ hk => trivial)⟩, ⟨by repeat (first | (with_reducible first | exact HB.out | apply zA | apply zB | apply zC) | exact HB.out)⟩⟩
   ·rw [if_neg c12] at H
    exact absurd H (by simp)
  ·rw [if_neg c11] at H
   have c11b0 : ((t107.length : Int) == 2) = false := beq_eq_false_iff_ne.mpr c11
   have c11b1 : ((t107.length : Int) != 2) = true := bne_iff_ne.mpr c11
   (first | rw [c11b0] | (simp only [i64_w, i32_w]; rw [c11b0]) | skip)
   have H' := Zs.mk H
   clear H
   obtain ⟨Ao17, co17, eo17⟩ := Kd.R_slice HO109.out
   subst eo17
   go_wp2
   go_meet
   case rel => exact ⟨_, (true), (by first | rfl | (simp; done) | (simp [*]; done)), H', ⟨by first | omega | exact Nat.le_refl _⟩, ⟨by (with_reducible repeat (first | apply Kd.R_alloc | apply Kd.R_drewN | apply Kd.R_drew)); exact Kd.R_mono HO103.out (fun _ hk => trivial)⟩, ⟨by repeat (first | (with_reducible first | exact HB.out | apply zA | apply zB | apply zC) | exact HB.out)⟩⟩
 case rest =>
  clear HC5
  try clear c11; try clear c11b0; try clear c11b1; try clear c12; try clear c12b0; try clear c12b1; try clear c13; try clear c13b0; try clear c13b1; try clear c13b2; try clear hx110_0; try clear p110; try clear q110
  obtain ⟨kq, x31_4, rfl, HA, HJ4, HO_5, HB⟩ := hcut
  cases kq with
  | zero => exact absurd HA.out (by simp [thickettop_TopBelow.j0])
  | succ kj4 =>
   have H := HA.out
   clear HA
   simp only [thickettop_TopBelow.j0] at H
   by_cases c18 : x31_4 = true
   ·subst c18
    have H1 : (some false) = some r := by rw [if_pos rfl] at H; exact H
    clear H
    have H := H1
    clear H1
    obtain rfl := Option.some.inj H
    go_wp2
    go_ret
    exact ⟨by first | rfl | (simp [zE, zF] <;> rfl) | (simp [*, zE, zF] <;> rfl), by repeat (first | (with_reducible first | exact HB.out | apply zA | apply zB | apply zC) | exact HB.out)⟩
   ·replace c18 := Bool.eq_false_iff.mpr c18
    subst c18
    have H1 : (if (t101.length : Int) > 1048576 then (some true) else ((qob1.f kj4 t101 a1).bind fun t112 => ((qbm.f kj4 (t101.length : Int) 0 t112).bind fun bt113 => (if bt113.2 = 0 then ((qbc.f kj4 bt113.1).bind fun t117 => (thickettop_TopBelow.j1 kj4 a1 t101 t112 bt113.1 (t117 != (wrap64 ((t101.length : Int) - t112))))) else (thickettop_TopBelow.j1 kj4 a1 t101 t112 bt113.1 true))))) = some r := by rw [if_neg (show ¬ (false = true) by decide)] at H; exact H
    clear H
    have H := H1
    clear H1
    by_cases c19 : (t101.length : Int) > 1048576
    ·rw [if_pos c19] at H
     have c19b0 : decide (1048576 < (t101.length : Int)) = true := decide_eq_true c19
     have c19b1 : decide (1048576 < t101.length) = true := decide_eq_true (by omega)
     clear c19
     obtain rfl := Option.some.inj H
     obtain ⟨Ao20, co20, eo20⟩ := Kd.R_slice HO_5.out
     subst eo20
     go_wp2
     go_ret
     exact ⟨by first | rfl | (simp [zE, zF] <;> rfl) | (simp [*, zE, zF] <;> rfl), by repeat (first | (with_reducible first | exact HB.out | apply zA | apply zB | apply zC) | exact HB.out)⟩
    ·rw [if_neg c19] at H
     have c19b0 : decide (1048576 < (t101.length : Int)) = false := decide_eq_false c19
     have c19b1 : decide (1048576 < t101.length) = false := decide_eq_false (by omega)
     clear c19
     replace H := Option.bind_eq_some_iff.mp H
     obtain ⟨t112, A210, H⟩ := H
     replace H : ((qbm.f kj4 (t101.length : Int) 0 t112).bind fun bt113 => (if bt113.2 = 0 then ((qbc.f kj4 bt113.1).bind fun t117 => (thickettop_TopBelow.j1 kj4 a1 t101 t112 bt113.1 (t117 != (wrap64 ((t101.length : Int) - t112))))) else (thickettop_TopBelow.j1 kj4 a1 t101 t112 bt113.1 true))) = some r := H
     have A21 := Zs.mk A210
     clear A210
     replace H := Option.bind_eq_some_iff.mp H
     obtain ⟨⟨t113, t114⟩, A220, H⟩ := H
     replace H : (if t114 = 0 then ((qbc.f kj4 t113).bind fun t117 => (thickettop_TopBelow.j1 kj4 a1 t101 t112 t113 (t117 != (wrap64 ((t101.length : Int) - t112))))) else (thickettop_TopBelow.j1 kj4 a1 t101 t112 t113 true)) = some r := H
     have A22 := Zs.mk A220
     clear A220
     have HC23 := Zs.mk H
     clear H
     obtain ⟨Ao24, co24, eo24⟩ := Kd.R_slice HO_5.out
     subst eo24
     go_upto_region 9 with (first | ((with_reducible refine gate_callee (f := 8) rfl ?_); refine goesL_ (some 37) rfl rfl Tryd.func8 (by kernel_rfl) rfl #[.slice Ao24 t101.length co24, .float .f64 a1] rfl (by (try simp only [List.map_toArray, List.map_cons, List.map_nil]); first | done | rfl | (simp only [List.length_drop, List.length_take]; rfl)) ?_; (with_reducible refine (qob1.calls kj4 _ _ t101 a1 t112 _ ?side1 ?side2 A21.out).mono ?_); (case side1 => repeat (first | exact (Kd.R_reads' HO_5.out).2.2 | (with_reducible refine Kd.C_alloc ?_ _) | (with_reducible refine Kd.C_drewN ?_ _) | (with_reducible refine Kd.C_drew ?_))); (case side2 => exact (Kd.R_reads' HO_5.out).2.1); rintro e w' ⟨rfl, ⟨nd, rfl⟩⟩; refine ⟨_, rfl, ?_⟩) | ((with_reducible refine gate_callee (f := 9) rfl ?_); refine goesL_ (some 42) rfl rfl Tryd.func9 (by kernel_rfl) rfl #[.int .i64 (t101.length : Int), .int .i64 0, .int .i64 t112] rfl (by (try simp only [List.map_toArray, List.map_cons, List.map_nil]); first | done | rfl | (simp only [List.length_drop, List.length_take]; rfl)) ?_; (with_reducible refine (qbm.calls kj4 (t101.length : Int) 0 t112 t113 t114 _ A22.out).mono ?_); rintro e w25 ⟨v115, rfl, ho0, hb⟩; refine ⟨_, rfl, ?_⟩; have n0_ := Zs.mk (Kd.R_below (by (with_reducible repeat (first | apply Kd.R_alloc | apply Kd.R_drewN | apply Kd.R_drew)); exact HO_5.out) hb); have n1_ := Zs.mk (Kd.R_lower ho0 (below_size (by repeat (first | (with_reducible first | exact HB.out | apply zA | apply zB | apply zC) | exact HB.out)))); have n2_ := Zs.mk (below_step (by repeat (first | (with_reducible first | exact HB.out | apply zA | apply zB | apply zC) | exact HB.out)) hb); clear HO_5; clear HB; have HO_5 := n0_; have HO116 := n1_; have HB := n2_; clear n0_ n1_ n2_; (try clear hb); (try clear hb2); (try clear hk); (try clear hi); (try clear ho0)))
     (try simp only [Act.put, List.setIfInBounds_toArray, List.set_cons_zero, List.set_cons_succ])
     go_cut [55] (fun v55 wc => ∃ (kq : Nat) (x55_22 : Bool), v55 = .bool x55_22 ∧ Zs (thickettop_TopBelow.j1 kq a1 t101 t112 t113 x55_22 = some r) ∧ Zs (kq ≤ kj4) ∧ Zs (Kd.R (Kd.scalar (Value.float .f64) (fun _ => rfl)) 23 wc w.heap.size (fun _ => True) (.slice Ao24 t101.length co24) t101) ∧ Zs (Kd.R (Kd.int .u64) 33 wc w.heap.size (fun _ => True) v115 t113) ∧ Zs (Below w.heap.size w wc))
     case first =>
      have H := HC23.out
      clear HC23
      by_cases c26 : t114 = 0
      ·rw [if_pos c26] at H
       have c26b0 : (t114 == 0) = true := beq_iff_eq.mpr c26
       have c26b1 : (t114 != 0) = false := bne_eq_false_iff_eq.mpr c26
       clear c26
       (first | rw [c26b0] | (simp only [i64_w, i32_w]; rw [c26b0]) | skip)
       replace H := Option.bind_eq_some_iff.mp H
       obtain ⟨t117, A270, H⟩ := H
       replace H : (thickettop_TopBelow.j1 kj4 a1 t101 t112 t113 (t117 != (wrap64 ((t101.length : Int) - t112)))) = some r := H
       have A27 := Zs.mk A270
       clear A270
       have H' := Zs.mk H
       clear H
       obtain ⟨Ao28, co28, eo28⟩ := Kd.R_slice HO116.out
       subst eo28
       go_wp2_with (first | (go_at_call 10; (with_reducible refine (qbc.calls kj4 _ _ t113 t117 _ ?side1 ?side2 A27.out).mono ?_); (case side1 => repeat (first | exact (Kd.R_reads' HO116.out).2.2 | (with_reducible refine Kd.C_alloc ?_ _) | (with_reducible refine Kd.C_drewN ?_ _) | (with_reducible refine Kd.C_drew ?_))); (case side2 => exact (Kd.R_reads' HO116.out).2.1); rintro e w' ⟨rfl, ⟨nd, rfl⟩⟩))
       go_meet
       case rel => exact ⟨_, ((t117 != (wrap64 ((t101.length : Int) - t112)))), (by first | rfl | (simp; done) | (simp [*]; done)), H', ⟨by have := HJ4.out; first | omega | exact Nat.le_refl _⟩, ⟨by (with_reducible repeat (first | apply Kd.R_alloc | apply Kd.R_drewN | apply Kd.R_drew)); exact HO_5.out⟩, ⟨by (with_reducible repeat (first | apply Kd.R_alloc | apply Kd.R_drewN | apply Kd.R_drew)); exact HO116.out⟩, ⟨by repeat (first | (with_reducible first | exact HB.out | apply zA | apply zB | apply zC) | exact HB.out)⟩⟩
      ·rw [if_neg c26] at H
       have c26b0 : (t114 == 0) = false := beq_eq_false_iff_ne.mpr c26
       have c26b1 : (t114 != 0) = true := bne_iff_ne.mpr c26
       (first | rw [c26b0] | (simp only [i64_w, i32_w]; rw [c26b0]) | skip)
       have H' := Zs.mk H
       clear H
       go_wp2
       go_meet
       case rel => exact ⟨_, (true), (by first | rfl | (simp; done) | (simp [*]; done)), H', ⟨by have := HJ4.out; first | omega | exact Nat.le_refl _⟩, ⟨by (with_reducible repeat (first | apply Kd.R_alloc | apply Kd.R_drewN | apply Kd.R_drew)); exact HO_5.out⟩, ⟨by (with_reducible repeat (first | apply Kd.R_alloc | apply Kd.R_drewN | apply Kd.R_drew)); exact HO116.out⟩, ⟨by repeat (first | (with_reducible first | exact HB.out | apply zA | apply zB | apply zC) | exact HB.out)⟩⟩
     case rest =>
      clear HC23
      try clear c11; try clear c11b0; try clear c11b1; try clear c12; try clear c12b0; try clear c12b1; try clear c13; try clear c13b0; try clear c13b1; try clear c13b2; try clear c18; try clear c19; try clear c19b0; try clear c19b1; try clear c26; try clear c26b0; try clear c26b1; try clear hx110_0; try clear p110; try clear q110
      obtain ⟨kq, x55_22, rfl, HA, HJ22, HO_5, HO_8, HB⟩ := hcut
      cases kq with
      | zero => exact absurd HA.out (by simp [thickettop_TopBelow.j1])
      | succ kj22 =>
       have H := HA.out
       clear HA
       simp only [thickettop_TopBelow.j1] at H
       by_cases c29 : x55_22 = true
       ·subst c29
        have H1 : (some false) = some r := by rw [if_pos rfl] at H; exact H
        clear H
        have H := H1
        clear H1
        obtain rfl := Option.some.inj H
        go_wp2
        go_ret
        exact ⟨by first | rfl | (simp [zE, zF] <;> rfl) | (simp [*, zE, zF] <;> rfl), by repeat (first | (with_reducible first | exact HB.out | apply zA | apply zB | apply zC) | exact HB.out)⟩
       ·replace c29 := Bool.eq_false_iff.mpr c29
        subst c29
        have H1 : ((qbl.f kj22 t113).bind fun t118 => (if t118 = t112 then (thickettop_TopBelow.j2 kj22 a1 t101 t113 t118 false) else (if t118 = (-1) then (thickettop_TopBelow.j2 kj22 a1 t101 t113 t118 (!(t112 == (t101.length : Int)))) else (thickettop_TopBelow.j2 kj22 a1 t101 t113 t118 (!false))))) = some r := by rw [if_neg (show ¬ (false = true) by decide)] at H; exact H
        clear H
        have H := H1
        clear H1
        replace H := Option.bind_eq_some_iff.mp H
        obtain ⟨t118, A300, H⟩ := H
        replace H : (if t118 = t112 then (thickettop_TopBelow.j2 kj22 a1 t101 t113 t118 false) else (if t118 = (-1) then (thickettop_TopBelow.j2 kj22 a1 t101 t113 t118 (!(t112 == (t101.length : Int)))) else (thickettop_TopBelow.j2 kj22 a1 t101 t113 t118 (!false)))) = some r := H
        have A30 := Zs.mk A300
        clear A300
        have HC31 := Zs.mk H
        clear H
        obtain ⟨Ao32, co32, eo32⟩ := Kd.R_slice HO_8.out
        subst eo32
        go_upto_region 12 with (first | ((with_reducible refine gate_callee (f := 11) rfl ?_); refine goesL_ (some 57) rfl rfl Tryd.func11 (by kernel_rfl) rfl #[.slice Ao32 t113.length co32] rfl (by (try simp only [List.map_toArray, List.map_cons, List.map_nil]); first | done | rfl | (simp only [List.length_drop, List.length_take]; rfl)) ?_; (with_reducible refine (qbl.calls kj22 _ _ t113 t118 _ ?side1 ?side2 A30.out ?side3).mono ?_); (case side3 => repeat (first | exact Tab.below HTb.out HGb.out HB.out | exact Tab.drewN (Tab.below HTb.out HGb.out HB.out) _)); (case side1 => repeat (first | exact (Kd.R_reads' HO_8.out).2.2 | (with_reducible refine Kd.C_alloc ?_ _) | (with_reducible refine Kd.C_drewN ?_ _) | (with_reducible refine Kd.C_drew ?_))); (case side2 => exact (Kd.R_reads' HO_8.out).2.1); rintro e w' ⟨rfl, ⟨nd, rfl⟩⟩; refine ⟨_, rfl, ?_⟩))
        (try simp only [Act.put, List.setIfInBounds_toArray, List.set_cons_zero, List.set_cons_succ])
        go_cut [71] (fun v71 wc => ∃ (kq : Nat) (x71_30 : Bool), v71 = .bool x71_30 ∧ Zs (thickettop_TopBelow.j2 kq a1 t101 t113 t118 x71_30 = some r) ∧ Zs (kq ≤ kj22) ∧ Zs (Kd.R (Kd.scalar (Value.float .f64) (fun _ => rfl)) 23 wc w.heap.size (fun _ => True) (.slice Ao24 t101.length co24) t101) ∧ Zs (Kd.R (Kd.int .u64) 33 wc w.heap.size (fun _ => True) (.slice Ao32 t113.length co32) t113) ∧ Zs (Below w.heap.size w wc))
        case first =>
         have H := HC31.out
         clear HC31
         by_cases c33 : t118 = t112
         ·rw [if_pos c33] at H
          have c33b0 : (t118 == t112) = true := beq_iff_eq.mpr c33
          have c33b1 : (t118 != t112) = false := bne_eq_false_iff_eq.mpr c33
          clear c33
          (first | rw [c33b0] | (simp only [i64_w, i32_w]; rw [c33b0]) | skip)
          have H' := Zs.mk H
          clear H
          go_wp2
          go_meet
          case rel => exact ⟨_, (false), (by first | rfl | (simp; done) | (simp [*]; done)), H', ⟨by have := HJ4.out; have := HJ22.out; first | omega | exact Nat.le_refl _⟩, ⟨by (with_reducible repeat (first | apply Kd.R_alloc | apply Kd.R_drewN | apply Kd.R_drew)); exact HO_5.out⟩, ⟨by (with_reducible repeat (first | apply Kd.R_alloc | apply Kd.R_drewN | apply Kd.R_drew)); exact HO_8.out⟩, ⟨by repeat (first | (with_reducible first | exact HB.out | apply zA | apply zB | apply zC) | exact HB.out)⟩⟩
         ·rw [if_neg c33] at H
          have c33b0 : (t118 == t112) = false := beq_eq_false_iff_ne.mpr c33
          have c33b1 : (t118 != t112) = true := bne_iff_ne.mpr c33
          (first | rw [c33b0] | (simp only [i64_w, i32_w]; rw [c33b0]) | skip)
          by_cases c34 : t118 = (-1)
          ·rw [if_pos c34] at H
           have c34b0 : (t118 == (-1)) = true := beq_iff_eq.mpr c34
           have c34b1 : (t118 != (-1)) = false := bne_eq_false_iff_eq.mpr c34
           clear c34
           have H' := Zs.mk H
           clear H
           go_wp2
           go_meet
           case rel => exact ⟨_, (!(t112 == (t101.length : Int))), (by first | rfl | (simp; done) | (simp [*]; done)), H', ⟨by have := HJ4.out; have := HJ22.out; first | omega | exact Nat.le_refl _⟩, ⟨by (with_reducible repeat (first | apply Kd.R_alloc | apply Kd.R_drewN | apply Kd.R_drew)); exact HO_5.out⟩, ⟨by (with_reducible repeat (first | apply Kd.R_alloc | apply Kd.R_drewN | apply Kd.R_drew)); exact HO_8.out⟩, ⟨by repeat (first | (with_reducible first | exact HB.out | apply zA | apply zB | apply zC) | exact HB.out)⟩⟩
          ·rw [if_neg c34] at H
           have c34b0 : (t118 == (-1)) = false := beq_eq_false_iff_ne.mpr c34
           have c34b1 : (t118 != (-1)) = true := bne_iff_ne.mpr c34
           have H' := Zs.mk H
           clear H
           go_wp2
           go_meet
           case rel => exact ⟨_, (!false), (by first | rfl | (simp; done) | (simp [*]; done)), H', ⟨by have := HJ4.out; have := HJ22.out; first | omega | exact Nat.le_refl _⟩, ⟨by (with_reducible repeat (first | apply Kd.R_alloc | apply Kd.R_drewN | apply Kd.R_drew)); exact HO_5.out⟩, ⟨by (with_reducible repeat (first | apply Kd.R_alloc | apply Kd.R_drewN | apply Kd.R_drew)); exact HO_8.out⟩, ⟨by repeat (first | (with_reducible first | exact HB.out | apply zA | apply zB | apply zC) | exact HB.out)⟩⟩
        case rest =>
         clear HC31
         try clear c11; try clear c11b0; try clear c11b1; try clear c12; try clear c12b0; try clear c12b1; try clear c13; try clear c13b0; try clear c13b1; try clear c13b2; try clear c18; try clear c19; try clear c19b0; try clear c19b1; try clear c26; try clear c26b0; try clear c26b1; try clear c29; try clear c33; try clear c33b0; try clear c33b1; try clear c34; try clear c34b0; try clear c34b1; try clear hx110_0; try clear p110; try clear q110
         obtain ⟨kq, x71_30, rfl, HA, HJ30, HO_5, HO_8, HB⟩ := hcut
         cases kq with
         | zero => exact absurd HA.out (by simp [thickettop_TopBelow.j2])
         | succ kj30 =>
          have H := HA.out
          clear HA
          simp only [thickettop_TopBelow.j2] at H
          by_cases c35 : x71_30 = true
          ·subst c35
           have H1 : (some false) = some r := by rw [if_pos rfl] at H; exact H
           clear H
           have H := H1
           clear H1
           obtain rfl := Option.some.inj H
           go_wp2
           go_ret
           exact ⟨by first | rfl | (simp [zE, zF] <;> rfl) | (simp [*, zE, zF] <;> rfl), by repeat (first | (with_reducible first | exact HB.out | apply zA | apply zB | apply zC) | exact HB.out)⟩
          ·replace c35 := Bool.eq_false_iff.mpr c35
           subst c35
           have H1 : (thickettop_TopBelow.l0 kj30 a1 t101 t113 t118 t101 (t101.length : Int) 0) = some r := by rw [if_neg (show ¬ (false = true) by decide)] at H; exact H
           clear H
           have H := H1
           clear H1
           have H' := Zs.mk H
           clear H
           go_wp2
           go_loopg [74] kj30 (fun kq v74 w' => ∃ (x74_4 : Int), v74 = .int .i64 x74_4 ∧ Zs (thickettop_TopBelow.l0 kq a1 t101 t113 t118 t101 (t101.length : Int) x74_4 = some r) ∧ Zs (kq ≤ kj30) ∧ Zs (Kd.R (Kd.scalar (Value.float .f64) (fun _ => rfl)) 23 w' w.heap.size (fun _ => True) (.slice Ao24 t101.length co24) t101) ∧ Zs (Kd.R (Kd.int .u64) 33 w' w.heap.size (fun _ => True) (.slice Ao32 t113.length co32) t113) ∧ Zs (Kd.R (Kd.scalar (Value.float .f64) (fun _ => rfl)) 23 w' w.heap.size (fun _ => True) (.slice Ao24 t101.length co24) t101) ∧ Zs (Below w.heap.size w w'))
           case atStart => exact ⟨(0), (by first | rfl | (simp; done) | (simp [*]; done)), H', ⟨Nat.le_refl _⟩, ⟨by (with_reducible repeat (first | apply Kd.R_alloc | apply Kd.R_drewN | apply Kd.R_drew)); exact HO_5.out⟩, ⟨by (with_reducible repeat (first | apply Kd.R_alloc | apply Kd.R_drewN | apply Kd.R_drew)); exact HO_8.out⟩, ⟨by (with_reducible repeat (first | apply Kd.R_alloc | apply Kd.R_drewN | apply Kd.R_drew)); exact HO_5.out⟩, ⟨by repeat (first | (with_reducible first | exact HB.out | apply zA | apply zB | apply zC) | exact HB.out)⟩⟩
           case round =>
            clear H'
            try clear c11; try clear c11b0; try clear c11b1; try clear c12; try clear c12b0; try clear c12b1; try clear c13; try clear c13b0; try clear c13b1; try clear c13b2; try clear c18; try clear c19; try clear c19b0; try clear c19b1; try clear c26; try clear c26b0; try clear c26b1; try clear c29; try clear c33; try clear c33b0; try clear c33b1; try clear c34; try clear c34b0; try clear c34b1; try clear c35; try clear hx110_0; try clear p110; try clear q110
            obtain ⟨x74_4, rfl, HA, HK4, HO_5, HO_8, HO_72, HB⟩ := hrel
            cases gk with
            | zero => exact absurd HA.out (by simp [thickettop_TopBelow.l0])
            | succ k4 =>
             have H := HA.out
             clear HA
             simp only [thickettop_TopBelow.l0] at H
             by_cases c36 : x74_4 < (t101.length : Int)
             ·rw [if_pos c36] at H
              have c36b0 : decide (x74_4 < (t101.length : Int)) = true := decide_eq_true c36
              clear c36
              by_cases c37 : 0 ≤ x74_4
              ·rw [if_pos c37] at H
               have c37b0 : decide (0 ≤ x74_4) = true := decide_eq_true c37
               clear c37
               by_cases c38 : x74_4 < (t101.length : Int)
               ·rw [if_pos c38] at H
                have c38b0 : decide (x74_4 < (t101.length : Int)) = true := decide_eq_true c38
                clear c38
                replace H := Option.bind_eq_some_iff.mp H
                obtain ⟨t120, A390, H⟩ := H
                replace H : ((qoc.f (rdOf (0 : Nat) t101 x74_4) a1).bind fun t121 => (if (t120 == (decide (t121 < 0))) = true then (some false) else (if x74_4 > 0 then (if 0 ≤ (wrap64 (x74_4 - 1)) then (if (wrap64 (x74_4 - 1)) < (t101.length : Int) then ((qoc.f (rdOf (0 : Nat) t101 (wrap64 (x74_4 - 1))) (rdOf (0 : Nat) t101 x74_4)).bind fun t123 => (if t123 ≥ 0 then (some false) else (thickettop_TopBelow.l0 k4 a1 t101 t113 t118 t101 (t101.length : Int) (wrap64 (x74_4 + 1))))) else (none)) else (none)) else (thickettop_TopBelow.l0 k4 a1 t101 t113 t118 t101 (t101.length : Int) (wrap64 (x74_4 + 1)))))) = some r := H
                have A39 := Zs.mk A390
                clear A390
                replace H := Option.bind_eq_some_iff.mp H
                obtain ⟨t121, A400, H⟩ := H
                replace H : (if (t120 == (decide (t121 < 0))) = true then (some false) else (if x74_4 > 0 then (if 0 ≤ (wrap64 (x74_4 - 1)) then (if (wrap64 (x74_4 - 1)) < (t101.length : Int) then ((qoc.f (rdOf (0 : Nat) t101 (wrap64 (x74_4 - 1))) (rdOf (0 : Nat) t101 x74_4)).bind fun t123 => (if t123 ≥ 0 then (some false) else (thickettop_TopBelow.l0 k4 a1 t101 t113 t118 t101 (t101.length : Int) (wrap64 (x74_4 + 1))))) else (none)) else (none)) else (thickettop_TopBelow.l0 k4 a1 t101 t113 t118 t101 (t101.length : Int) (wrap64 (x74_4 + 1))))) = some r := H
                have A40 := Zs.mk A400
                clear A400
                by_cases c41 : (t120 == (decide (t121 < 0))) = true
                ·rw [if_pos c41] at H
                 have c41b0 : (t120 == (decide (t121 < 0))) = true := c41
                 (try (have c41b1 : decide (t120 = (decide (t121 < 0))) = true := by simpa using c41))
                 (try (have c41b2 : (t120 == (decide (t121 < 0))) = true := by simpa using c41))
                 clear c41
                 obtain rfl := Option.some.inj H
                 have p119 : 0 ≤ (x74_4 : Int) := of_decide_eq_true (by first | (with_reducible assumption) | assumption)
                 have q119 : x74_4 < (t101.length : Int) := of_decide_eq_true (by first | (with_reducible assumption) | assumption)
                 obtain ⟨ad119, e119, hx119_0⟩ := Kd.at_flo (Kd.R_reads' HO_72.out).2.2 x74_4 p119 q119
                 cases e119
                 replace p119 := eq_true p119
                 replace q119 := eq_true q119
                 go_wp2_with (first | ((with_reducible refine gate_callee (f := 12) rfl ?_); refine goesL_ (some 81) rfl rfl Tryd.func12 (by kernel_rfl) rfl #[.slice Ao32 t113.length co32, .int .i64 x74_4] rfl (by (try simp only [List.map_toArray, List.map_cons, List.map_nil]); first | done | rfl | (simp only [List.length_drop, List.length_take]; rfl)) ?_; (with_reducible refine (qbh.calls _ _ t113 x74_4 t120 _ ?side1 ?side2 A39.out).mono ?_); (case side1 => repeat (first | exact (Kd.R_reads' HO_8.out).2.2 | (with_reducible refine Kd.C_alloc ?_ _) | (with_reducible refine Kd.C_drewN ?_ _) | (with_reducible refine Kd.C_drew ?_))); (case side2 => exact (Kd.R_reads' HO_8.out).2.1); rintro e w' ⟨rfl, ⟨nd, rfl⟩⟩; refine ⟨_, rfl, ?_⟩) | ((with_reducible refine gate_callee (f := 13) rfl ?_); refine goesL_ (some 84) rfl rfl Tryd.func13 (by kernel_rfl) rfl #[.float .f64 (rdOf (0 : Nat) t101 x74_4), .float .f64 a1] rfl (by (try simp only [List.map_toArray, List.map_cons, List.map_nil]); first | done | rfl | (simp only [List.length_drop, List.length_take]; rfl)) ?_; (with_reducible refine (qoc.calls (rdOf (0 : Nat) t101 x74_4) a1 t121 _ A40.out).mono ?_); rintro e w' ⟨rfl, ⟨nd, rfl⟩⟩; refine ⟨_, rfl, ?_⟩))
                 go_ret
                 exact ⟨by first | rfl | (simp [zE, zF] <;> rfl) | (simp [*, zE, zF] <;> rfl), by repeat (first | (with_reducible first | exact HB.out | apply zA | apply zB | apply zC) | exact HB.out)⟩
                ·rw [if_neg c41] at H
                 have c41b0 : (t120 == (decide (t121 < 0))) = false := by simpa using c41
                 (try (have c41b1 : decide (t120 = (decide (t121 < 0))) = false := by simpa using c41))
                 (try (have c41b2 : (t120 == (decide (t121 < 0))) = false := by simpa using c41))
                 (try (have c41b3 : ¬ (t120 = (decide (t121 < 0))) := by simpa using c41))
                 clear c41
                 by_cases c42 : x74_4 > 0
                 ·rw [if_pos c42] at H
                  have c42b0 : decide (0 < x74_4) = true := decide_eq_true c42
                  clear c42
                  obtain ⟨ji43, hji43⟩ : ∃ j_ : Int, (wrap64 (x74_4 - 1)) = j_ := ⟨_, rfl⟩
                  replace H : (if 0 ≤ (ji43) then (if (ji43) < (t101.length : Int) then ((qoc.f (rdOf (0 : Nat) t101 (ji43)) (rdOf (0 : Nat) t101 x74_4)).bind fun t123 => (if t123 ≥ 0 then (some false) else (thickettop_TopBelow.l0 k4 a1 t101 t113 t118 t101 (t101.length : Int) (wrap64 (x74_4 + 1))))) else (none)) else (none)) = some r := by first | (rw [hji43] at H; exact H) | (simp only [hji43] at H ⊢; exact H)
                  (try rw [hji43] at A39)
                  (try rw [hji43] at A40)
                  have hji43w : (IntKind.i64.wrap (x74_4 - 1)) = ji43 := (i64_w _).trans hji43
                  by_cases c44 : 0 ≤ (ji43)
                  ·rw [if_pos c44] at H
                   have c44b0 : decide (0 ≤ (ji43)) = true := decide_eq_true c44
                   clear c44
                   by_cases c45 : (ji43) < (t101.length : Int)
                   ·rw [if_pos c45] at H
                    have c45b0 : decide ((ji43) < (t101.length : Int)) = true := decide_eq_true c45
                    clear c45
                    replace H := Option.bind_eq_some_iff.mp H
                    obtain ⟨t123, A460, H⟩ := H
                    replace H : (if t123 ≥ 0 then (some false) else (thickettop_TopBelow.l0 k4 a1 t101 t113 t118 t101 (t101.length : Int) (wrap64 (x74_4 + 1)))) = some r := H
                    have A46 := Zs.mk A460
                    clear A460
                    by_cases c47 : t123 ≥ 0
                    ·rw [if_pos c47] at H
                     have c47b0 : decide (0 ≤ t123) = true := decide_eq_true c47
                     clear c47
                     obtain rfl := Option.some.inj H
                     have p119 : 0 ≤ (x74_4 : Int) := of_decide_eq_true (by first | (with_reducible assumption) | assumption)
                     have q119 : x74_4 < (t101.length : Int) := of_decide_eq_true (by first | (with_reducible assumption) | assumption)
                     obtain ⟨ad119, e119, hx119_0⟩ := Kd.at_flo (Kd.R_reads' HO_72.out).2.2 x74_4 p119 q119
                     cases e119
                     replace p119 := eq_true p119
                     replace q119 := eq_true q119
                     go_wp2_with (first | ((with_reducible refine gate_callee (f := 12) rfl ?_); refine goesL_ (some 81) rfl rfl Tryd.func12 (by kernel_rfl) rfl #[.slice Ao32 t113.length co32, .int .i64 x74_4] rfl (by (try simp only [List.map_toArray, List.map_cons, List.map_nil]); first | done | rfl | (simp only [List.length_drop, List.length_take]; rfl)) ?_; (with_reducible refine (qbh.calls _ _ t113 x74_4 t120 _ ?side1 ?side2 A39.out).mono ?_); (case side1 => repeat (first | exact (Kd.R_reads' HO_8.out).2.2 | (with_reducible refine Kd.C_alloc ?_ _) | (with_reducible refine Kd.C_drewN ?_ _) | (with_reducible refine Kd.C_drew ?_))); (case side2 => exact (Kd.R_reads' HO_8.out).2.1); rintro e w' ⟨rfl, ⟨nd, rfl⟩⟩; refine ⟨_, rfl, ?_⟩) | ((with_reducible refine gate_callee (f := 13) rfl ?_); refine goesL_ (some 84) rfl rfl Tryd.func13 (by kernel_rfl) rfl #[.float .f64 (rdOf (0 : Nat) t101 x74_4), .float .f64 a1] rfl (by (try simp only [List.map_toArray, List.map_cons, List.map_nil]); first | done | rfl | (simp only [List.length_drop, List.length_take]; rfl)) ?_; (with_reducible refine (qoc.calls (rdOf (0 : Nat) t101 x74_4) a1 t121 _ A40.out).mono ?_); rintro e w' ⟨rfl, ⟨nd, rfl⟩⟩; refine ⟨_, rfl, ?_⟩; have p122 : 0 ≤ ((ji43) : Int) := of_decide_eq_true (by first | (with_reducible assumption) | assumption); have q122 : (ji43) < (t101.length : Int) := of_decide_eq_true (by first | (with_reducible assumption) | assumption); obtain ⟨ad122, e122, hx122_0⟩ := Kd.at_flo (Kd.R_reads' HO_5.out).2.2 (ji43) p122 q122; obtain rfl : ad119 = ad122 := (by injection e122); replace p122 := eq_true p122; replace q122 := eq_true q122) | (go_at_call 13; (with_reducible refine (qoc.calls (rdOf (0 : Nat) t101 (ji43)) (rdOf (0 : Nat) t101 x74_4) t123 _ A46.out).mono ?_); rintro e w' ⟨rfl, ⟨nd, rfl⟩⟩))
                     go_ret
                     exact ⟨by first | rfl | (simp [zE, zF] <;> rfl) | (simp only [← hji43]; first | rfl | (simp [zE, zF] <;> rfl)) | (simp [*, zE, zF] <;> rfl), by repeat (first | (with_reducible first | exact HB.out | apply zA | apply zB | apply zC) | exact HB.out)⟩
                    ·rw [if_neg c47] at H
                     have c47b0 : decide (0 ≤ t123) = false := decide_eq_false c47
                     clear c47
                     have H' := Zs.mk H
                     clear H
                     have p119 : 0 ≤ (x74_4 : Int) := of_decide_eq_true (by first | (with_reducible assumption) | assumption)
                     have q119 : x74_4 < (t101.length : Int) := of_decide_eq_true (by first | (with_reducible assumption) | assumption)
                     obtain ⟨ad119, e119, hx119_0⟩ := Kd.at_flo (Kd.R_reads' HO_72.out).2.2 x74_4 p119 q119
                     cases e119
                     replace p119 := eq_true p119
                     replace q119 := eq_true q119
                     go_wp2_with (first | ((with_reducible refine gate_callee (f := 12) rfl ?_); refine goesL_ (some 81) rfl rfl Tryd.func12 (by kernel_rfl) rfl #[.slice Ao32 t113.length co32, .int .i64 x74_4] rfl (by (try simp only [List.map_toArray, List.map_cons, List.map_nil]); first | done | rfl | (simp only [List.length_drop, List.length_take]; rfl)) ?_; (with_reducible refine (qbh.calls _ _ t113 x74_4 t120 _ ?side1 ?side2 A39.out).mono ?_); (case side1 => repeat (first | exact (Kd.R_reads' HO_8.out).2.2 | (with_reducible refine Kd.C_alloc ?_ _) | (with_reducible refine Kd.C_drewN ?_ _) | (with_reducible refine Kd.C_drew ?_))); (case side2 => exact (Kd.R_reads' HO_8.out).2.1); rintro e w' ⟨rfl, ⟨nd, rfl⟩⟩; refine ⟨_, rfl, ?_⟩) | ((with_reducible refine gate_callee (f := 13) rfl ?_); refine goesL_ (some 84) rfl rfl Tryd.func13 (by kernel_rfl) rfl #[.float .f64 (rdOf (0 : Nat) t101 x74_4), .float .f64 a1] rfl (by (try simp only [List.map_toArray, List.map_cons, List.map_nil]); first | done | rfl | (simp only [List.length_drop, List.length_take]; rfl)) ?_; (with_reducible refine (qoc.calls (rdOf (0 : Nat) t101 x74_4) a1 t121 _ A40.out).mono ?_); rintro e w' ⟨rfl, ⟨nd, rfl⟩⟩; refine ⟨_, rfl, ?_⟩; have p122 : 0 ≤ ((ji43) : Int) := of_decide_eq_true (by first | (with_reducible assumption) | assumption); have q122 : (ji43) < (t101.length : Int) := of_decide_eq_true (by first | (with_reducible assumption) | assumption); obtain ⟨ad122, e122, hx122_0⟩ := Kd.at_flo (Kd.R_reads' HO_5.out).2.2 (ji43) p122 q122; obtain rfl : ad119 = ad122 := (by injection e122); replace p122 := eq_true p122; replace q122 := eq_true q122) | (go_at_call 13; (with_reducible refine (qoc.calls (rdOf (0 : Nat) t101 (ji43)) (rdOf (0 : Nat) t101 x74_4) t123 _ A46.out).mono ?_); rintro e w' ⟨rfl, ⟨nd, rfl⟩⟩))
                     go_roundg k4
                     case measure => have := HJ4.out; have := HJ22.out; have := HJ30.out; have := HK4.out; omega
                     case rel => exact ⟨(wrap64 (x74_4 + 1)), (by first | rfl | (simp; done) | (simp [*]; done)), H', ⟨by have := HJ4.out; have := HJ22.out; have := HJ30.out; have := HK4.out; omega⟩, ⟨by (with_reducible repeat (first | apply Kd.R_alloc | apply Kd.R_drewN | apply Kd.R_drew)); exact HO_5.out⟩, ⟨by (with_reducible repeat (first | apply Kd.R_alloc | apply Kd.R_drewN | apply Kd.R_drew)); exact HO_8.out⟩, ⟨by (with_reducible repeat (first | apply Kd.R_alloc | apply Kd.R_drewN | apply Kd.R_drew)); exact HO_72.out⟩, ⟨by repeat (first | (with_reducible first | exact HB.out | apply zA | apply zB | apply zC) | exact HB.out)⟩⟩
                   ·rw [if_neg c45] at H
                    exact absurd H (by simp)
                  ·rw [if_neg c44] at H
                   exact absurd H (by simp)
                 ·rw [if_neg c42] at H
                  have c42b0 : decide (0 < x74_4) = false := decide_eq_false c42
                  clear c42
                  have H' := Zs.mk H
                  clear H
                  have p119 : 0 ≤ (x74_4 : Int) := of_decide_eq_true (by first | (with_reducible assumption) | assumption)
                  have q119 : x74_4 < (t101.length : Int) := of_decide_eq_true (by first | (with_reducible assumption) | assumption)
                  obtain ⟨ad119, e119, hx119_0⟩ := Kd.at_flo (Kd.R_reads' HO_72.out).2.2 x74_4 p119 q119
                  cases e119
                  replace p119 := eq_true p119
                  replace q119 := eq_true q119
                  go_wp2_with (first | ((with_reducible refine gate_callee (f := 12) rfl ?_); refine goesL_ (some 81) rfl rfl Tryd.func12 (by kernel_rfl) rfl #[.slice Ao32 t113.length co32, .int .i64 x74_4] rfl (by (try simp only [List.map_toArray, List.map_cons, List.map_nil]); first | done | rfl | (simp only [List.length_drop, List.length_take]; rfl)) ?_; (with_reducible refine (qbh.calls _ _ t113 x74_4 t120 _ ?side1 ?side2 A39.out).mono ?_); (case side1 => repeat (first | exact (Kd.R_reads' HO_8.out).2.2 | (with_reducible refine Kd.C_alloc ?_ _) | (with_reducible refine Kd.C_drewN ?_ _) | (with_reducible refine Kd.C_drew ?_))); (case side2 => exact (Kd.R_reads' HO_8.out).2.1); rintro e w' ⟨rfl, ⟨nd, rfl⟩⟩; refine ⟨_, rfl, ?_⟩) | ((with_reducible refine gate_callee (f := 13) rfl ?_); refine goesL_ (some 84) rfl rfl Tryd.func13 (by kernel_rfl) rfl #[.float .f64 (rdOf (0 : Nat) t101 x74_4), .float .f64 a1] rfl (by (try simp only [List.map_toArray, List.map_cons, List.map_nil]); first | done | rfl | (simp only [List.length_drop, List.length_take]; rfl)) ?_; (with_reducible refine (qoc.calls (rdOf (0 : Nat) t101 x74_4) a1 t121 _ A40.out).mono ?_); rintro e w' ⟨rfl, ⟨nd, rfl⟩⟩; refine ⟨_, rfl, ?_⟩))
                  go_roundg k4
                  case measure => have := HJ4.out; have := HJ22.out; have := HJ30.out; have := HK4.out; omega
                  case rel => exact ⟨(wrap64 (x74_4 + 1)), (by first | rfl | (simp; done) | (simp [*]; done)), H', ⟨by have := HJ4.out; have := HJ22.out; have := HJ30.out; have := HK4.out; omega⟩, ⟨by (with_reducible repeat (first | apply Kd.R_alloc | apply Kd.R_drewN | apply Kd.R_drew)); exact HO_5.out⟩, ⟨by (with_reducible repeat (first | apply Kd.R_alloc | apply Kd.R_drewN | apply Kd.R_drew)); exact HO_8.out⟩, ⟨by (with_reducible repeat (first | apply Kd.R_alloc | apply Kd.R_drewN | apply Kd.R_drew)); exact HO_72.out⟩, ⟨by repeat (first | (with_reducible first | exact HB.out | apply zA | apply zB | apply zC) | exact HB.out)⟩⟩
               ·rw [if_neg c38] at H
                exact absurd H (by simp)
              ·rw [if_neg c37] at H
               exact absurd H (by simp)
             ·rw [if_neg c36] at H
              have c36b0 : decide (x74_4 < (t101.length : Int)) = false := decide_eq_false c36
              clear c36
              by_cases c48 : t118 < 0
              ·rw [if_pos c48] at H
               have c48b0 : decide (t118 < 0) = true := decide_eq_true c48
               clear c48
               by_cases c49 : ((FloatKind.format .f64).order a1 a1 != some .eq) = true
               ·rw [if_pos c49] at H
                have c49b0 : ((FloatKind.format .f64).order a1 a1 != some .eq) = true := c49
                (try (have c49b1 : decide ((FloatKind.format .f64).order a1 a1 = some .eq) = false := by simpa using c49))
                (try (have c49b2 : ((FloatKind.format .f64).order a1 a1 == some .eq) = false := by simpa using c49))
                (try (have c49b3 : ¬ ((FloatKind.format .f64).order a1 a1 = some .eq) := by simpa using c49))
                clear c49
                obtain rfl := Option.some.inj H
                go_wp2
                go_ret
                exact ⟨by first | rfl | (simp [zE, zF] <;> rfl) | (simp [*, zE, zF] <;> rfl), by repeat (first | (with_reducible first | exact HB.out | apply zA | apply zB | apply zC) | exact HB.out)⟩
               ·rw [if_neg c49] at H
                have c49b0 : ((FloatKind.format .f64).order a1 a1 != some .eq) = false := by simpa using c49
                (try (have c49b1 : decide ((FloatKind.format .f64).order a1 a1 = some .eq) = true := by simpa using c49))
                (try (have c49b2 : ((FloatKind.format .f64).order a1 a1 == some .eq) = true := by simpa using c49))
                clear c49
                by_cases c50 : (t101.length : Int) = 0
                ·rw [if_pos c50] at H
                 have c50b0 : ((t101.length : Int) == 0) = true := beq_iff_eq.mpr c50
                 have c50b1 : ((t101.length : Int) != 0) = false := bne_eq_false_iff_eq.mpr c50
                 clear c50
                 obtain rfl := Option.some.inj H
                 go_wp2
                 go_ret
                 exact ⟨by first | rfl | (simp [zE, zF] <;> rfl) | (simp [*, zE, zF] <;> rfl), by repeat (first | (with_reducible first | exact HB.out | apply zA | apply zB | apply zC) | exact HB.out)⟩
                ·rw [if_neg c50] at H
                 have c50b0 : ((t101.length : Int) == 0) = false := beq_eq_false_iff_ne.mpr c50
                 have c50b1 : ((t101.length : Int) != 0) = true := bne_iff_ne.mpr c50
                 have c50b2 : ¬ (t101 = []) := fun h_ => c50 (by rw [h_]; rfl)
                 obtain ⟨ji51, hji51⟩ : ∃ j_ : Int, (wrap64 ((t101.length : Int) - 1)) = j_ := ⟨_, rfl⟩
                 replace H : (if 0 ≤ (ji51) then (if (ji51) < (t101.length : Int) then ((qoc.f (rdOf (0 : Nat) t101 (ji51)) a1).bind fun t125 => (some (decide (t125 < 0)))) else (none)) else (none)) = some r := by first | (rw [hji51] at H; exact H) | (simp only [hji51] at H ⊢; exact H)
                 have hji51w : (IntKind.i64.wrap ((t101.length : Int) - 1)) = ji51 := (i64_w _).trans hji51
                 by_cases c52 : 0 ≤ (ji51)
                 ·rw [if_pos c52] at H
                  have c52b0 : decide (0 ≤ (ji51)) = true := decide_eq_true c52
                  clear c52
                  by_cases c53 : (ji51) < (t101.length : Int)
                  ·rw [if_pos c53] at H
                   have c53b0 : decide ((ji51) < (t101.length : Int)) = true := decide_eq_true c53
                   clear c53
                   replace H := Option.bind_eq_some_iff.mp H
                   obtain ⟨t125, A540, H⟩ := H
                   replace H : (some (decide (t125 < 0))) = some r := H
                   have A54 := Zs.mk A540
                   clear A540
                   obtain rfl := Option.some.inj H
                   have p124 : 0 ≤ ((ji51) : Int) := of_decide_eq_true (by first | (with_reducible assumption) | assumption)
                   have q124 : (ji51) < (t101.length : Int) := of_decide_eq_true (by first | (with_reducible assumption) | assumption)
                   obtain ⟨ad124, e124, hx124_0⟩ := Kd.at_flo (Kd.R_reads' HO_5.out).2.2 (ji51) p124 q124
                   cases e124
                   replace p124 := eq_true p124
                   replace q124 := eq_true q124
                   go_wp2_with (first | (go_at_call 13; (with_reducible refine (qoc.calls (rdOf (0 : Nat) t101 (ji51)) a1 t125 _ A54.out).mono ?_); rintro e w' ⟨rfl, ⟨nd, rfl⟩⟩))
                   go_ret
                   exact ⟨by first | rfl | (simp [zE, zF] <;> rfl) | (simp only [← hji51]; first | rfl | (simp [zE, zF] <;> rfl)) | (simp [*, zE, zF] <;> rfl), by repeat (first | (with_reducible first | exact HB.out | apply zA | apply zB | apply zC) | exact HB.out)⟩
                  ·rw [if_neg c53] at H
                   exact absurd H (by simp)
                 ·rw [if_neg c52] at H
                  exact absurd H (by simp)
              ·rw [if_neg c48] at H
               have c48b0 : decide (t118 < 0) = false := decide_eq_false c48
               clear c48
               by_cases c55 : ((FloatKind.format .f64).order a1 a1 != some .eq) = true
               ·rw [if_pos c55] at H
                have c55b0 : ((FloatKind.format .f64).order a1 a1 != some .eq) = true := c55
                (try (have c55b1 : decide ((FloatKind.format .f64).order a1 a1 = some .eq) = false := by simpa using c55))
                (try (have c55b2 : ((FloatKind.format .f64).order a1 a1 == some .eq) = false := by simpa using c55))
                (try (have c55b3 : ¬ ((FloatKind.format .f64).order a1 a1 = some .eq) := by simpa using c55))
                clear c55
                obtain rfl := Option.some.inj H
                go_wp2
                go_ret
                exact ⟨by first | rfl | (simp [zE, zF] <;> rfl) | (simp [*, zE, zF] <;> rfl), by repeat (first | (with_reducible first | exact HB.out | apply zA | apply zB | apply zC) | exact HB.out)⟩
               ·rw [if_neg c55] at H
                have c55b0 : ((FloatKind.format .f64).order a1 a1 != some .eq) = false := by simpa using c55
                (try (have c55b1 : decide ((FloatKind.format .f64).order a1 a1 = some .eq) = true := by simpa using c55))
                (try (have c55b2 : ((FloatKind.format .f64).order a1 a1 == some .eq) = true := by simpa using c55))
                clear c55
                by_cases c56 : 0 ≤ t118
                ·rw [if_pos c56] at H
                 have c56b0 : decide (0 ≤ t118) = true := decide_eq_true c56
                 clear c56
                 by_cases c57 : t118 < (t101.length : Int)
                 ·rw [if_pos c57] at H
                  have c57b0 : decide (t118 < (t101.length : Int)) = true := decide_eq_true c57
                  clear c57
                  replace H := Option.bind_eq_some_iff.mp H
                  obtain ⟨⟨t127, t128⟩, A580, H⟩ := H
                  replace H : (if t128 = 0 then (if t127 > 0 then (if t118 = 0 then (some true) else (if 0 ≤ (wrap64 (t118 - 1)) then (if (wrap64 (t118 - 1)) < (t101.length : Int) then ((qoc.f (rdOf (0 : Nat) t101 (wrap64 (t118 - 1))) a1).bind fun t130 => (some (decide (t130 < 0)))) else (none)) else (none))) else (some false)) else (some false)) = some r := H
                  have A58 := Zs.mk A580
                  clear A580
                  by_cases c59 : t128 = 0
                  ·rw [if_pos c59] at H
                   have c59b0 : (t128 == 0) = true := beq_iff_eq.mpr c59
                   have c59b1 : (t128 != 0) = false := bne_eq_false_iff_eq.mpr c59
                   clear c59
                   by_cases c60 : t127 > 0
                   ·rw [if_pos c60] at H
                    have c60b0 : decide (0 < t127) = true := decide_eq_true c60
                    clear c60
                    by_cases c61 : t118 = 0
                    ·rw [if_pos c61] at H
                     have c61b0 : (t118 == 0) = true := beq_iff_eq.mpr c61
                     have c61b1 : (t118 != 0) = false := bne_eq_false_iff_eq.mpr c61
                     clear c61
                     obtain rfl := Option.some.inj H
                     have p126 : 0 ≤ (t118 : Int) := of_decide_eq_true (by first | (with_reducible assumption) | assumption)
                     have q126 : t118 < (t101.length : Int) := of_decide_eq_true (by first | (with_reducible assumption) | assumption)
                     obtain ⟨ad126, e126, hx126_0⟩ := Kd.at_flo (Kd.R_reads' HO_5.out).2.2 t118 p126 q126
                     cases e126
                     replace p126 := eq_true p126
                     replace q126 := eq_true q126
                     go_wp2_with (first | ((with_reducible refine gate_callee (f := 14) rfl ?_); refine goesL_ (some 132) rfl rfl Tryd.func14 (by kernel_rfl) rfl #[.float .f64 a1, .float .f64 (rdOf (0 : Nat) t101 t118)] rfl (by (try simp only [List.map_toArray, List.map_cons, List.map_nil]); first | done | rfl | (simp only [List.length_drop, List.length_take]; rfl)) ?_; (with_reducible refine (qob.calls k4 a1 (rdOf (0 : Nat) t101 t118) t127 t128 _ A58.out).mono ?_); rintro e w' ⟨rfl, ⟨nd, rfl⟩⟩; refine ⟨_, rfl, ?_⟩))
                     go_ret
                     exact ⟨by first | rfl | (simp [zE, zF] <;> rfl) | (simp [*, zE, zF] <;> rfl), by repeat (first | (with_reducible first | exact HB.out | apply zA | apply zB | apply zC) | exact HB.out)⟩
                    ·rw [if_neg c61] at H
                     have c61b0 : (t118 == 0) = false := beq_eq_false_iff_ne.mpr c61
                     have c61b1 : (t118 != 0) = true := bne_iff_ne.mpr c61
                     obtain ⟨ji62, hji62⟩ : ∃ j_ : Int, (wrap64 (t118 - 1)) = j_ := ⟨_, rfl⟩
                     replace H : (if 0 ≤ (ji62) then (if (ji62) < (t101.length : Int) then ((qoc.f (rdOf (0 : Nat) t101 (ji62)) a1).bind fun t130 => (some (decide (t130 < 0)))) else (none)) else (none)) = some r := by first | (rw [hji62] at H; exact H) | (simp only [hji62] at H ⊢; exact H)
                     (try rw [hji62] at A58)
                     have hji62w : (IntKind.i64.wrap (t118 - 1)) = ji62 := (i64_w _).trans hji62
                     by_cases c63 : 0 ≤ (ji62)
                     ·rw [if_pos c63] at H
                      have c63b0 : decide (0 ≤ (ji62)) = true := decide_eq_true c63
                      clear c63
                      by_cases c64 : (ji62) < (t101.length : Int)
                      ·rw [if_pos c64] at H
                       have c64b0 : decide ((ji62) < (t101.length : Int)) = true := decide_eq_true c64
                       clear c64
                       replace H := Option.bind_eq_some_iff.mp H
                       obtain ⟨t130, A650, H⟩ := H
                       replace H : (some (decide (t130 < 0))) = some r := H
                       have A65 := Zs.mk A650
                       clear A650
                       obtain rfl := Option.some.inj H
                       have p126 : 0 ≤ (t118 : Int) := of_decide_eq_true (by first | (with_reducible assumption) | assumption)
                       have q126 : t118 < (t101.length : Int) := of_decide_eq_true (by first | (with_reducible assumption) | assumption)
                       obtain ⟨ad126, e126, hx126_0⟩ := Kd.at_flo (Kd.R_reads' HO_5.out).2.2 t118 p126 q126
                       cases e126
                       replace p126 := eq_true p126
                       replace q126 := eq_true q126
                       go_wp2_with (first | ((with_reducible refine gate_callee (f := 14) rfl ?_); refine goesL_ (some 132) rfl rfl Tryd.func14 (by kernel_rfl) rfl #[.float .f64 a1, .float .f64 (rdOf (0 : Nat) t101 t118)] rfl (by (try simp only [List.map_toArray, List.map_cons, List.map_nil]); first | done | rfl | (simp only [List.length_drop, List.length_take]; rfl)) ?_; (with_reducible refine (qob.calls k4 a1 (rdOf (0 : Nat) t101 t118) t127 t128 _ A58.out).mono ?_); rintro e w' ⟨rfl, ⟨nd, rfl⟩⟩; refine ⟨_, rfl, ?_⟩; have p129 : 0 ≤ ((ji62) : Int) := of_decide_eq_true (by first | (with_reducible assumption) | assumption); have q129 : (ji62) < (t101.length : Int) := of_decide_eq_true (by first | (with_reducible assumption) | assumption); obtain ⟨ad129, e129, hx129_0⟩ := Kd.at_flo (Kd.R_reads' HO_5.out).2.2 (ji62) p129 q129; obtain rfl : ad126 = ad129 := (by injection e129); replace p129 := eq_true p129; replace q129 := eq_true q129) | (go_at_call 13; (with_reducible refine (qoc.calls (rdOf (0 : Nat) t101 (ji62)) a1 t130 _ A65.out).mono ?_); rintro e w' ⟨rfl, ⟨nd, rfl⟩⟩))
                       go_ret
                       exact ⟨by first | rfl | (simp [zE, zF] <;> rfl) | (simp only [← hji62]; first | rfl | (simp [zE, zF] <;> rfl)) | (simp [*, zE, zF] <;> rfl), by repeat (first | (with_reducible first | exact HB.out | apply zA | apply zB | apply zC) | exact HB.out)⟩
                      ·rw [if_neg c64] at H
                       exact absurd H (by simp)
                     ·rw [if_neg c63] at H
                      exact absurd H (by simp)
                   ·rw [if_neg c60] at H
                    have c60b0 : decide (0 < t127) = false := decide_eq_false c60
                    clear c60
                    obtain rfl := Option.some.inj H
                    have p126 : 0 ≤ (t118 : Int) := of_decide_eq_true (by first | (with_reducible assumption) | assumption)
                    have q126 : t118 < (t101.length : Int) := of_decide_eq_true (by first | (with_reducible assumption) | assumption)
                    obtain ⟨ad126, e126, hx126_0⟩ := Kd.at_flo (Kd.R_reads' HO_5.out).2.2 t118 p126 q126
                    cases e126
                    replace p126 := eq_true p126
                    replace q126 := eq_true q126
                    go_wp2_with (first | ((with_reducible refine gate_callee (f := 14) rfl ?_); refine goesL_ (some 132) rfl rfl Tryd.func14 (by kernel_rfl) rfl #[.float .f64 a1, .float .f64 (rdOf (0 : Nat) t101 t118)] rfl (by (try simp only [List.map_toArray, List.map_cons, List.map_nil]); first | done | rfl | (simp only [List.length_drop, List.length_take]; rfl)) ?_; (with_reducible refine (qob.calls k4 a1 (rdOf (0 : Nat) t101 t118) t127 t128 _ A58.out).mono ?_); rintro e w' ⟨rfl, ⟨nd, rfl⟩⟩; refine ⟨_, rfl, ?_⟩))
                    go_ret
                    exact ⟨by first | rfl | (simp [zE, zF] <;> rfl) | (simp [*, zE, zF] <;> rfl), by repeat (first | (with_reducible first | exact HB.out | apply zA | apply zB | apply zC) | exact HB.out)⟩
                  ·rw [if_neg c59] at H
                   have c59b0 : (t128 == 0) = false := beq_eq_false_iff_ne.mpr c59
                   have c59b1 : (t128 != 0) = true := bne_iff_ne.mpr c59
                   obtain rfl := Option.some.inj H
                   have p126 : 0 ≤ (t118 : Int) := of_decide_eq_true (by first | (with_reducible assumption) | assumption)
                   have q126 : t118 < (t101.length : Int) := of_decide_eq_true (by first | (with_reducible assumption) | assumption)
                   obtain ⟨ad126, e126, hx126_0⟩ := Kd.at_flo (Kd.R_reads' HO_5.out).2.2 t118 p126 q126
                   cases e126
                   replace p126 := eq_true p126
                   replace q126 := eq_true q126
                   go_wp2_with (first | ((with_reducible refine gate_callee (f := 14) rfl ?_); refine goesL_ (some 132) rfl rfl Tryd.func14 (by kernel_rfl) rfl #[.float .f64 a1, .float .f64 (rdOf (0 : Nat) t101 t118)] rfl (by (try simp only [List.map_toArray, List.map_cons, List.map_nil]); first | done | rfl | (simp only [List.length_drop, List.length_take]; rfl)) ?_; (with_reducible refine (qob.calls k4 a1 (rdOf (0 : Nat) t101 t118) t127 t128 _ A58.out).mono ?_); rintro e w' ⟨rfl, ⟨nd, rfl⟩⟩; refine ⟨_, rfl, ?_⟩))
                   go_ret
                   exact ⟨by first | rfl | (simp [zE, zF] <;> rfl) | (simp [*, zE, zF] <;> rfl), by repeat (first | (with_reducible first | exact HB.out | apply zA | apply zB | apply zC) | exact HB.out)⟩
                 ·rw [if_neg c57] at H
                  exact absurd H (by simp)
                ·rw [if_neg c56] at H
                 exact absurd H (by simp)
end Go.Proofs.YtkmbgfhkdopigaaDoor.P
