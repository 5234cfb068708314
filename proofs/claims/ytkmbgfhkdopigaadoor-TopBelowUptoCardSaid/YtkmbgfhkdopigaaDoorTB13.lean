/- Texts that the statement's proof leans on, part 13. -/
import Derived.Test.YtkmbgfhkdopigaaDoorTB4
import Derived.Test.YtkmbgfhkdopigaaDoorTB5
import Derived.Test.YtkmbgfhkdopigaaDoorTB12
namespace Go.Proofs.YtkmbgfhkdopigaaDoor.P
open Go.RowKit Go.Proofs.YtkmbgfhkdopigaaDoorW.PrintWords Go.Proofs.YtkmbgfhkdopigaaDoorW.PrintLast Go.Proofs.YtkmbgfhkdopigaaDoorW.PrintMore
attribute [local go_sem] max2_int min2_int max_two min_two max_three min_three max_four min_four
attribute [local go_sem] Go.Proofs.YtkmbgfhkdopigaaDoor.Fl.store_float Go.Proofs.YtkmbgfhkdopigaaDoor.Fl.call58 Go.Proofs.YtkmbgfhkdopigaaDoor.Fl.call62
set_option linter.unusedVariables false
set_option linter.unusedSimpArgs false
def qssu6u6.f (k : Nat) (l0 : List Int) : Option (List Int) := (qbl1.f k (IntKind.u64.wrap ((l0.length : Int)))).bind fun t101 => ((qspou61.f k l0 0 (l0.length : Int) t101).bind fun t102 => (some t102))
set_option maxHeartbeats 8000000 in
set_option maxRecDepth 100000 in
theorem qssu6u6.calls (k : Nat) (P0_ : Nat → Prop) (u9000_ : Value) (l0 : List Int) (r : List Int) (w0 w : World) (hB : Below w0.heap.size w0 w) (ho0 : Kd.R (Kd.int .u64) 33 w w0.heap.size P0_ u9000_ l0) (h : qssu6u6.f k l0 = some r) :
  Calls Tryd.prog 31 #[u9000_] w fun e w' => e = .returned (.tuple #[]) ∧ Kd.R (Kd.int .u64) 33 w' w0.heap.size (fun k_ => (P0_ k_ ∨ w.heap.size ≤ k_)) u9000_ r ∧ Below w0.heap.size w0 w' ∧ Kept w w' (fun k_ => P0_ k_) := by
 have HO0 := Zs.mk (show Kd.R (Kd.int .u64) 33 w w0.heap.size (fun k_ => (P0_ k_ ∨ w.heap.size ≤ k_)) u9000_ l0 from Kd.R_mono ho0 (fun k_ hk => (.inl hk)))
 have HK := Zs.mk (Kept.refl w (fun k_ => P0_ k_))
 have HW0 := Zs.mk hB.size
 have HB := Zs.mk hB
 clear hB
 have H : ((qbl1.f k (IntKind.u64.wrap ((l0.length : Int)))).bind fun t101 => ((qspou61.f k l0 0 (l0.length : Int) t101).bind fun t102 => (some t102))) = some r := h
 clear h
 replace H := Option.bind_eq_some_iff.mp H
 obtain ⟨t101, A20, H⟩ := H
 replace H : ((qspou61.f k l0 0 (l0.length : Int) t101).bind fun t102 => (some t102)) = some r := H
 have A2 := Zs.mk A20
 clear A20
 replace H := Option.bind_eq_some_iff.mp H
 obtain ⟨t102, A30, H⟩ := H
 replace H : (some t102) = some r := H
 have A3 := Zs.mk A30
 clear A30
 obtain rfl := Option.some.inj H
 obtain ⟨Ao4, co4, eo4⟩ := Kd.R_slice HO0.out
 subst eo4
 go_enter Tryd.func31, Tryd.ntmps31
 go_wp2_with (first | ((with_reducible refine gate_callee (f := 60) rfl ?_); refine goesL_ (some 9) rfl rfl Tryd.func60 (by kernel_rfl) rfl #[.int .u64 (IntKind.u64.wrap ((l0.length : Int)))] rfl (by (try simp only [List.map_toArray, List.map_cons, List.map_nil]); first | done | rfl | (simp only [List.length_drop, List.length_take]; rfl)) ?_; (with_reducible refine (qbl1.calls k (IntKind.u64.wrap ((l0.length : Int))) t101 _ A2.out).mono ?_); rintro e w' ⟨rfl, ⟨nd, rfl⟩⟩; refine ⟨_, rfl, ?_⟩) | ((with_reducible refine gate_callee (f := 59) rfl ?_); refine goesL_ (some 10) rfl rfl Tryd.func59 (by kernel_rfl) rfl #[.slice Ao4 l0.length co4, .int .i64 0, .int .i64 (l0.length : Int), .int .i64 t101] rfl (by (try simp only [List.map_toArray, List.map_cons, List.map_nil]); first | done | rfl | (simp only [List.length_drop, List.length_take]; rfl)) ?_; (with_reducible refine (qspou61.calls k (fun k_ => some k_ = (.slice Ao4 l0.length co4 : Value).ownBlock) (.slice Ao4 l0.length co4) l0 0 (l0.length : Int) t101 t102 w0 _ ?side1 ?side2 A3.out).mono ?_); (case side1 => repeat (first | (with_reducible first | exact HB.out | apply zA | apply zB | apply zC) | exact HB.out)); (case side2 => exact Kd.R_tight rfl HO0.out); rintro e w5 ⟨rfl, hy0, hb, hkp⟩; refine ⟨_, rfl, ?_⟩; have n0_ := Zs.mk (Kd.R_reok rfl hy0 (fun k_ e_ => HO0.out.1 k_ e_)); have n1_ := Zs.mk (Kept.then_ (S := (fun k_ => P0_ k_)) (by repeat (first | (with_reducible first | exact HK.out | apply Kept.alloc | apply Kept.drewN | apply Kept.drew) | exact HK.out)) hkp (fun k_ hs_ => (fun e_ => (HO0.out.1 k_ e_.symm)) hs_)); have n2_ := Zs.mk (hb); clear HO0; clear HK; clear HB; have HO0 := n0_; have HK := n1_; have HB := n2_; clear n0_ n1_ n2_; (try clear hb); (try clear hkp); (try clear hy0)))
 first | go_end0 | ((try simp only [Exit.inBlock, Exit.then]); refine bodyPost_ret (results_none rfl _ _ _) rfl ?_)
 exact ⟨by first | rfl | (simp [zE, zF] <;> rfl) | (simp [*, zE, zF] <;> rfl), by (with_reducible repeat (first | apply Kd.R_alloc | apply Kd.R_drewN | apply Kd.R_drew)); exact HO0.out, by repeat (first | (with_reducible first | exact HB.out | apply zA | apply zB | apply zC) | exact HB.out), by repeat (first | (with_reducible first | exact HK.out | apply Kept.alloc | apply Kept.drewN | apply Kept.drew) | exact HK.out)⟩
def qmnn.f  : Option (Nat) := some 9221120237041090561
set_option maxHeartbeats 8000000 in
set_option maxRecDepth 100000 in
theorem qmnn.calls  (r : Nat) (w : World) (h : qmnn.f  = some r) :
  Calls Tryd.prog 61 #[] w fun e w' => e = .returned (.float .f64 r) ∧ Drawn0 w w' := by
 have H : (some 9221120237041090561) = some r := h
 clear h
 obtain rfl := Option.some.inj H
 go_enter Tryd.func61, Tryd.ntmps61
 go_wp2
 go_ret
 exact ⟨by first | rfl | (simp; done) | (simp [*]; done), by repeat (first | exact Drawn0.refl _ | apply Drawn0.step)⟩
def qoa.f (a0 : Int) : Option (Nat × Int) := if a0 > 18437736874454810625 then (some (0, 2)) else (if a0 = 18437736874454810625 then ((qmnn.f).bind fun t101 => (some (t101, 0))) else (if a0 ≥ 9218868437227405312 then (some ((IntKind.u64.wrap (a0 - 9218868437227405312)).toNat, 0)) else (some ((Go.bits .or .u64 9223372036854775808 (IntKind.u64.wrap (9218868437227405312 - a0))).toNat, 0))))
set_option maxHeartbeats 8000000 in
set_option maxRecDepth 100000 in
theorem qoa.calls (a0 : Int) (r1 : Nat) (r2 : Int) (w : World) (h : qoa.f a0 = some (r1, r2)) :
  Calls Tryd.prog 32 #[.int .u64 a0] w fun e w' => e = .returned (.tuple #[.float .f64 r1, .int .i64 r2]) ∧ Drawn0 w w' := by
 have H : (if a0 > 18437736874454810625 then (some (0, 2)) else (if a0 = 18437736874454810625 then ((qmnn.f).bind fun t101 => (some (t101, 0))) else (if a0 ≥ 9218868437227405312 then (some ((IntKind.u64.wrap (a0 - 9218868437227405312)).toNat, 0)) else (some ((Go.bits .or .u64 9223372036854775808 (IntKind.u64.wrap (9218868437227405312 - a0))).toNat, 0))))) = some (r1, r2) := h
 clear h
 by_cases c2 : a0 > 18437736874454810625
 ·rw [if_pos c2] at H
  have c2b0 : decide (18437736874454810625 < a0) = true := decide_eq_true c2
  clear c2
  simp only [Option.some.injEq, Prod.mk.injEq] at H
  obtain ⟨rfl, rfl⟩ := H
  go_enter Tryd.func32, Tryd.ntmps32
  go_wp2
  go_ret2
  exact ⟨by first | rfl | (simp; done) | (simp [*]; done), by repeat (first | exact Drawn0.refl _ | apply Drawn0.step)⟩
 ·rw [if_neg c2] at H
  have c2b0 : decide (18437736874454810625 < a0) = false := decide_eq_false c2
  clear c2
  by_cases c3 : a0 = 18437736874454810625
  ·rw [if_pos c3] at H
   have c3b0 : (a0 == 18437736874454810625) = true := beq_iff_eq.mpr c3
   have c3b1 : (a0 != 18437736874454810625) = false := bne_eq_false_iff_eq.mpr c3
   clear c3
   replace H := Option.bind_eq_some_iff.mp H
   obtain ⟨t101, A40, H⟩ := H
   replace H : (some (t101, 0)) = some (r1, r2) := H
   have A4 := Zs.mk A40
   clear A40
   simp only [Option.some.injEq, Prod.mk.injEq] at H
   obtain ⟨rfl, rfl⟩ := H
   go_enter Tryd.func32, Tryd.ntmps32
   go_wp2_with (first | ((with_reducible refine gate_callee (f := 61) rfl ?_); refine goesL_ (some 10) rfl rfl Tryd.func61 (by kernel_rfl) rfl #[] rfl (by (try simp only [List.map_toArray, List.map_cons, List.map_nil]); first | done | rfl | (simp only [List.length_drop, List.length_take]; rfl)) ?_; (with_reducible refine (qmnn.calls  t101 _ A4.out).mono ?_); rintro e w' ⟨rfl, ⟨nd, rfl⟩⟩; refine ⟨_, rfl, ?_⟩))
   go_ret2
   exact ⟨by first | rfl | (simp; done) | (simp [*]; done), by repeat (first | exact Drawn0.refl _ | apply Drawn0.step)⟩
  ·rw [if_neg c3] at H
   have c3b0 : (a0 == 18437736874454810625) = false := beq_eq_false_iff_ne.mpr c3
   have c3b1 : (a0 != 18437736874454810625) = true := bne_iff_ne.mpr c3
   by_cases c5 : a0 ≥ 9218868437227405312
   ·rw [if_pos c5] at H
    have c5b0 : decide (9218868437227405312 ≤ a0) = true := decide_eq_true c5
    clear c5
    simp only [Option.some.injEq, Prod.mk.injEq] at H
    obtain ⟨rfl, rfl⟩ := H
    go_enter Tryd.func32, Tryd.ntmps32
    go_wp2
    go_ret2
    exact ⟨by first | rfl | (simp; done) | (simp [*]; done), by repeat (first | exact Drawn0.refl _ | apply Drawn0.step)⟩
   ·rw [if_neg c5] at H
    have c5b0 : decide (9218868437227405312 ≤ a0) = false := decide_eq_false c5
    clear c5
    simp only [Option.some.injEq, Prod.mk.injEq] at H
    obtain ⟨rfl, rfl⟩ := H
    go_enter Tryd.func32, Tryd.ntmps32
    go_wp2
    go_ret2
    exact ⟨by first | rfl | (simp; done) | (simp [*]; done), by repeat (first | exact Drawn0.refl _ | apply Drawn0.step)⟩
end Go.Proofs.YtkmbgfhkdopigaaDoor.P
