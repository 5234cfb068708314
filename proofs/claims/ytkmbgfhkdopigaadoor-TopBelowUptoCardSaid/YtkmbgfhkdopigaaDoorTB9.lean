/- Texts that the statement's proof leans on, part 9. -/
import Derived.Test.YtkmbgfhkdopigaaDoorTB4
import Derived.Test.YtkmbgfhkdopigaaDoorTB5
namespace Go.Proofs.YtkmbgfhkdopigaaDoor.P
open Go.RowKit Go.Proofs.YtkmbgfhkdopigaaDoorW.PrintWords Go.Proofs.YtkmbgfhkdopigaaDoorW.PrintLast Go.Proofs.YtkmbgfhkdopigaaDoorW.PrintMore
attribute [local go_sem] max2_int min2_int max_two min_two max_three min_three max_four min_four
attribute [local go_sem] Go.Proofs.YtkmbgfhkdopigaaDoor.Fl.store_float Go.Proofs.YtkmbgfhkdopigaaDoor.Fl.call58 Go.Proofs.YtkmbgfhkdopigaaDoor.Fl.call62
set_option linter.unusedVariables false
set_option linter.unusedSimpArgs false
mutual
def qspisou6.l0 : Nat → List Int → Int → Int → Int → Int → Option (Bool × List Int)
 | 0, _, _, _, _, _ => none
 | k + 1, x0, x1, x2, x7, x8 => if x8 < 5 then (qspisou6.l1 k x0 x1 x2 x7 x8) else (some (false, x0))
def qspisou6.j2 : Nat → List Int → Int → Int → Int → Int → Option (Bool × List Int)
 | 0, _, _, _, _, _ => none
 | k + 1, x0, x1, x2, x7, x8 => if x7 = x2 then (some (true, x0)) else (if (wrap64 (x2 - x1)) < 50 then (some (false, x0)) else (if 0 ≤ (wrap64 (x7 - 1)) then (if (wrap64 (x7 - 1)) < (x0.length : Int) then (if 0 ≤ x7 then (if x7 < (x0.length : Int) then ((some ((x0.set (x7 : Int).toNat (rd x0 (wrap64 (x7 - 1)))).set ((wrap64 (x7 - 1)) : Int).toNat (rd x0 x7) : List Int)).bind fun y107 => (if (wrap64 (x7 - x1)) ≥ 2 then (qspisou6.l2 k y107 x1 x2 x7 x8 (wrap64 (x7 - 1))) else (qspisou6.j4 k y107 x1 x2 x7 x8))) else (none)) else (none)) else (none)) else (none)))
def qspisou6.j4 : Nat → List Int → Int → Int → Int → Int → Option (Bool × List Int)
 | 0, _, _, _, _, _ => none
 | k + 1, x0, x1, x2, x7, x8 => if (wrap64 (x2 - x7)) ≥ 2 then (qspisou6.l3 k x0 x1 x2 x7 x8 (wrap64 (x7 + 1))) else (qspisou6.l0 k x0 x1 x2 x7 (wrap64 (x8 + 1)))
def qspisou6.l3 : Nat → List Int → Int → Int → Int → Int → Int → Option (Bool × List Int)
 | 0, _, _, _, _, _, _ => none
 | k + 1, x0, x1, x2, x7, x8, x10 => if x10 < x2 then (if 0 ≤ x10 then (if x10 < (x0.length : Int) then (if 0 ≤ (wrap64 (x10 - 1)) then (if (wrap64 (x10 - 1)) < (x0.length : Int) then ((qclu6.f (rd x0 x10) (rd x0 (wrap64 (x10 - 1)))).bind fun t117 => (if t117 = true then (qspisou6.l3 k ((x0.set (x10 : Int).toNat (rd x0 (wrap64 (x10 - 1)))).set ((wrap64 (x10 - 1)) : Int).toNat (rd x0 x10)) x1 x2 x7 x8 (wrap64 (x10 + 1))) else (qspisou6.l0 k x0 x1 x2 x7 (wrap64 (x8 + 1))))) else (none)) else (none)) else (none)) else (none)) else (qspisou6.l0 k x0 x1 x2 x7 (wrap64 (x8 + 1)))
def qspisou6.l2 : Nat → List Int → Int → Int → Int → Int → Int → Option (Bool × List Int)
 | 0, _, _, _, _, _, _ => none
 | k + 1, x0, x1, x2, x7, x8, x9 => if x9 ≥ 1 then (if 0 ≤ x9 then (if x9 < (x0.length : Int) then (if 0 ≤ (wrap64 (x9 - 1)) then (if (wrap64 (x9 - 1)) < (x0.length : Int) then ((qclu6.f (rd x0 x9) (rd x0 (wrap64 (x9 - 1)))).bind fun t110 => (if t110 = true then (qspisou6.l2 k ((x0.set (x9 : Int).toNat (rd x0 (wrap64 (x9 - 1)))).set ((wrap64 (x9 - 1)) : Int).toNat (rd x0 x9)) x1 x2 x7 x8 (wrap64 (x9 - 1))) else (qspisou6.j4 k x0 x1 x2 x7 x8))) else (none)) else (none)) else (none)) else (none)) else (qspisou6.j4 k x0 x1 x2 x7 x8)
def qspisou6.l1 : Nat → List Int → Int → Int → Int → Int → Option (Bool × List Int)
 | 0, _, _, _, _, _ => none
 | k + 1, x0, x1, x2, x7, x8 => if x7 < x2 then (if 0 ≤ x7 then (if x7 < (x0.length : Int) then (if 0 ≤ (wrap64 (x7 - 1)) then (if (wrap64 (x7 - 1)) < (x0.length : Int) then ((qclu6.f (rd x0 x7) (rd x0 (wrap64 (x7 - 1)))).bind fun t103 => (if t103 = true then (qspisou6.j2 k x0 x1 x2 x7 x8) else (qspisou6.l1 k x0 x1 x2 (wrap64 (x7 + 1)) x8))) else (none)) else (none)) else (none)) else (none)) else (qspisou6.j2 k x0 x1 x2 x7 x8)
end
def qspisou6.f (k : Nat) (l0 : List Int) (a1 : Int) (a2 : Int) : Option (Bool × List Int) := qspisou6.l0 k l0 a1 a2 (wrap64 (a1 + 1)) 0
def qspisou6.T5 : Bool × List (List Nat × List Nat) := (true, [([], []), ([], []), ([0, 1], [0, 1]), ([2], [2]), ([3], [3]), ([3], [3]), ([4, 5, 3], [3, 4, 5]), ([6, 3], [3, 6]), ([3], [3]), ([3], [3]), ([9, 3], [3, 9]), ([8, 10, 3], [3, 8, 10]), ([11, 3], [3, 11]), ([7, 12, 3, 3], [3, 7, 12]), ([13, 3], [3, 13]), ([3, 14], [3, 14])])
def qspisou6.B5 : List Nat := [0, 0, 3, 7, 15, 15, 63, 127, 15, 15, 527, 1807, 3855, 8191, 16383, 32767]
theorem qspisou6.tab5 : rtab .any (opsOf Tryd.f94 5) = qspisou6.T5 := by kernel_rfl
theorem qspisou6.bits5 : waitsOk qspisou6.T5.2 qspisou6.B5 = true := by kernel_rfl
def qspisou6.T11 : Bool × List (List Nat × List Nat) := (true, [([], []), ([], []), ([], []), ([], []), ([3], [3]), ([], []), ([], []), ([6], [6]), ([5, 7], [5, 7]), ([8], [8]), ([], []), ([], []), ([10, 11], [10, 11]), ([12], [12]), ([0, 1, 0, 1, 5, 6, 7, 8, 9, 13], [0, 1]), ([14, 9, 0, 1, 5, 6, 7, 8, 9, 13], [9, 14]), ([2, 4, 0, 1, 2, 3, 4, 5, 6, 7, 8, 9, 10, 11, 12, 13, 14, 15], [2, 4]), ([16, 13, 15, 0, 1, 2, 3, 4, 5, 6, 7, 8, 9, 10, 11, 12, 13, 14, 15], [13, 16])])
def qspisou6.B11 : List Nat := [0, 0, 0, 0, 8, 0, 0, 64, 224, 480, 0, 0, 3072, 7168, 16355, 32739, 65535, 131071]
theorem qspisou6.tab11 : rtab .any (opsOf Tryd.f94 11) = qspisou6.T11 := by kernel_rfl
theorem qspisou6.bits11 : waitsOk qspisou6.T11.2 qspisou6.B11 = true := by kernel_rfl
def qspisou6.T16 : Bool × List (List Nat × List Nat) := (true, [([], []), ([], []), ([0, 1], [0, 1]), ([2], [2]), ([], []), ([], []), ([5], [5]), ([4, 6], [4, 6]), ([7], [7]), ([3, 8], [3, 8]), ([9], [9])])
def qspisou6.B16 : List Nat := [0, 0, 3, 7, 0, 0, 32, 112, 240, 511, 1023]
theorem qspisou6.tab16 : rtab .any (opsOf Tryd.f94 16) = qspisou6.T16 := by kernel_rfl
theorem qspisou6.bits16 : waitsOk qspisou6.T16.2 qspisou6.B16 = true := by kernel_rfl
def qspisou6.T17 : Bool × List (List Nat × List Nat) := (true, [([], []), ([], []), ([], []), ([], []), ([3], [3]), ([], []), ([], []), ([6], [6]), ([5, 7], [5, 7]), ([8], [8]), ([], []), ([], []), ([10, 11], [10, 11]), ([12], [12]), ([0, 1, 0, 1, 5, 6, 7, 8, 9, 13], [0, 1]), ([14, 9, 0, 1, 5, 6, 7, 8, 9, 13], [9, 14]), ([2, 4, 0, 1, 2, 3, 4, 5, 6, 7, 8, 9, 10, 11, 12, 13, 14, 15], [2, 4]), ([16, 13, 15, 0, 1, 2, 3, 4, 5, 6, 7, 8, 9, 10, 11, 12, 13, 14, 15], [13, 16])])
def qspisou6.B17 : List Nat := [0, 0, 0, 0, 8, 0, 0, 64, 224, 480, 0, 0, 3072, 7168, 16355, 32739, 65535, 131071]
theorem qspisou6.tab17 : rtab .any (opsOf Tryd.f94 17) = qspisou6.T17 := by kernel_rfl
theorem qspisou6.bits17 : waitsOk qspisou6.T17.2 qspisou6.B17 = true := by kernel_rfl
def qspisou6.T22 : Bool × List (List Nat × List Nat) := (true, [([], []), ([], []), ([0, 1], [0, 1]), ([2], [2]), ([], []), ([], []), ([5], [5]), ([4, 6], [4, 6]), ([7], [7]), ([3, 8], [3, 8]), ([9], [9])])
def qspisou6.B22 : List Nat := [0, 0, 3, 7, 0, 0, 32, 112, 240, 511, 1023]
theorem qspisou6.tab22 : rtab .any (opsOf Tryd.f94 22) = qspisou6.T22 := by kernel_rfl
theorem qspisou6.bits22 : waitsOk qspisou6.T22.2 qspisou6.B22 = true := by kernel_rfl
def qspisou6.T23 : Bool × List (List Nat × List Nat) := (true, [([], []), ([], []), ([], []), ([], []), ([3], [3]), ([], []), ([], []), ([6], [6]), ([5, 7], [5, 7]), ([8], [8]), ([], []), ([], []), ([10, 11], [10, 11]), ([12], [12]), ([0, 1, 0, 1, 5, 6, 7, 8, 9, 13], [0, 1]), ([14, 9, 0, 1, 5, 6, 7, 8, 9, 13], [9, 14]), ([2, 4, 0, 1, 2, 3, 4, 5, 6, 7, 8, 9, 10, 11, 12, 13, 14, 15], [2, 4]), ([16, 13, 15, 0, 1, 2, 3, 4, 5, 6, 7, 8, 9, 10, 11, 12, 13, 14, 15], [13, 16])])
def qspisou6.B23 : List Nat := [0, 0, 0, 0, 8, 0, 0, 64, 224, 480, 0, 0, 3072, 7168, 16355, 32739, 65535, 131071]
theorem qspisou6.tab23 : rtab .any (opsOf Tryd.f94 23) = qspisou6.T23 := by kernel_rfl
theorem qspisou6.bits23 : waitsOk qspisou6.T23.2 qspisou6.B23 = true := by kernel_rfl
set_option maxHeartbeats 8000000 in
set_option maxRecDepth 100000 in
theorem qspisou6.calls (k : Nat) (P0_ : Nat → Prop) (u9000_ : Value) (l0 : List Int) (a1 : Int) (a2 : Int) (r1 : Bool) (r2 : List Int) (w0 w : World) (hB : Below w0.heap.size w0 w) (ho0 : Kd.R (Kd.int .u64) 33 w w0.heap.size P0_ u9000_ l0) (h : qspisou6.f k l0 a1 a2 = some (r1, r2)) :
  Calls Tryd.prog 94 #[u9000_, .int .i64 a1, .int .i64 a2] w fun e w' => e = .returned (.bool r1) ∧ Kd.R (Kd.int .u64) 33 w' w0.heap.size (fun k_ => (P0_ k_ ∨ w.heap.size ≤ k_)) u9000_ r2 ∧ Below w0.heap.size w0 w' ∧ Kept w w' (fun k_ => P0_ k_) := by
 have HO0 := Zs.mk (show Kd.R (Kd.int .u64) 33 w w0.heap.size (fun k_ => (P0_ k_ ∨ w.heap.size ≤ k_)) u9000_ l0 from Kd.R_mono ho0 (fun k_ hk => (.inl hk)))
 have HK := Zs.mk (Kept.refl w (fun k_ => P0_ k_))
 have HW0 := Zs.mk hB.size
 have HB := Zs.mk hB
 clear hB
 have H : (qspisou6.l0 k l0 a1 a2 (wrap64 (a1 + 1)) 0) = some (r1, r2) := h
 clear h
 have H' := Zs.mk H
 clear H
 go_enter Tryd.func94, Tryd.ntmps94
 go_wp2
 go_loopg [7, 8] k (fun kq v7 v8 w' => ∃ (x0_1 : List Int) (x7_1 : Int) (x8_1 : Int), v7 = .int .i64 x7_1 ∧ v8 = .int .i64 x8_1 ∧ Zs (qspisou6.l0 kq x0_1 a1 a2 x7_1 x8_1 = some (r1, r2)) ∧ Zs (kq ≤ k) ∧ Zs (Kd.R (Kd.int .u64) 33 w' w0.heap.size (fun k_ => (P0_ k_ ∨ w.heap.size ≤ k_)) u9000_ x0_1) ∧ Zs (Kept w w' (fun k_ => P0_ k_)) ∧ Zs (Below w0.heap.size w0 w'))
 case atStart => exact ⟨(l0), (wrap64 (a1 + 1)), (0), (by first | rfl | (simp; done) | (simp [*]; done)), (by first | rfl | (simp; done) | (simp [*]; done)), H', ⟨Nat.le_refl _⟩, ⟨by (with_reducible repeat (first | apply Kd.R_alloc | apply Kd.R_drewN | apply Kd.R_drew)); exact HO0.out⟩, ⟨by repeat (first | (with_reducible first | exact HK.out | apply Kept.alloc | apply Kept.drewN | apply Kept.drew) | exact HK.out)⟩, ⟨by repeat (first | (with_reducible first | exact HB.out | apply zA | apply zB | apply zC) | exact HB.out)⟩⟩
 case round =>
  clear H'
  obtain ⟨x0_1, x7_1, x8_1, rfl, rfl, HA, HK1, HO_0, HK, HB⟩ := hrel
  cases gk with
  | zero => exact absurd HA.out (by simp [qspisou6.l0])
  | succ k1 =>
   have H := HA.out
   clear HA
   simp only [qspisou6.l0] at H
   by_cases c4 : x8_1 < 5
   ·rw [if_pos c4] at H
    have c4b0 : decide (x8_1 < 5) = true := decide_eq_true c4
    clear c4
    have HC5 := Zs.mk H
    clear H
    go_upto_block 2 with (fail)
    go_cut [7] (fun v7 wc => ∃ (kq : Nat) (x7_4 : Int), v7 = .int .i64 x7_4 ∧ Zs (qspisou6.j2 kq x0_1 a1 a2 x7_4 x8_1 = some (r1, r2)) ∧ Zs (kq ≤ k1) ∧ Zs (Kd.R (Kd.int .u64) 33 wc w0.heap.size (fun k_ => (P0_ k_ ∨ w.heap.size ≤ k_)) u9000_ x0_1) ∧ Zs (Kept w wc (fun k_ => P0_ k_)) ∧ Zs (Below w0.heap.size w0 wc))
    case first =>
     have H := HC5.out
     clear HC5
     have H' := Zs.mk H
     clear H
     go_wp2
     go_loopg [7] k1 (fun kq v7 w' => ∃ (x7_2 : Int), v7 = .int .i64 x7_2 ∧ Zs (qspisou6.l1 kq x0_1 a1 a2 x7_2 x8_1 = some (r1, r2)) ∧ Zs (kq ≤ k1) ∧ Zs (Kd.R (Kd.int .u64) 33 w' w0.heap.size (fun k_ => (P0_ k_ ∨ w.heap.size ≤ k_)) u9000_ x0_1) ∧ Zs (Kept w w' (fun k_ => P0_ k_)) ∧ Zs (Below w0.heap.size w0 w'))
     case atStart => exact ⟨(x7_1), (by first | rfl | (simp; done) | (simp [*]; done)), H', ⟨Nat.le_refl _⟩, ⟨by (with_reducible repeat (first | apply Kd.R_alloc | apply Kd.R_drewN | apply Kd.R_drew)); exact HO_0.out⟩, ⟨by repeat (first | (with_reducible first | exact HK.out | apply Kept.alloc | apply Kept.drewN | apply Kept.drew) | exact HK.out)⟩, ⟨by repeat (first | (with_reducible first | exact HB.out | apply zA | apply zB | apply zC) | exact HB.out)⟩⟩
     case round =>
      clear H'
      try clear c4; try clear c4b0
      obtain ⟨x7_2, rfl, HA, HK2, HO_0, HK, HB⟩ := hrel
      cases gk with
      | zero => exact absurd HA.out (by simp [qspisou6.l1])
      | succ k2 =>
       have H := HA.out
       clear HA
       simp only [qspisou6.l1] at H
       by_cases c6 : x7_2 < a2
       ·rw [if_pos c6] at H
        have c6b0 : decide (x7_2 < a2) = true := decide_eq_true c6
        clear c6
        (first | rw [c6b0] | (simp only [i64_w, i32_w]; rw [c6b0]) | skip)
        by_cases c7 : 0 ≤ x7_2
        ·rw [if_pos c7] at H
         have c7b0 : decide (0 ≤ x7_2) = true := decide_eq_true c7
         clear c7
         by_cases c8 : x7_2 < (x0_1.length : Int)
         ·rw [if_pos c8] at H
          have c8b0 : decide (x7_2 < (x0_1.length : Int)) = true := decide_eq_true c8
          clear c8
          obtain ⟨ji9, hji9⟩ : ∃ j_ : Int, (wrap64 (x7_2 - 1)) = j_ := ⟨_, rfl⟩
          replace H : (if 0 ≤ (ji9) then (if (ji9) < (x0_1.length : Int) then ((qclu6.f (rd x0_1 x7_2) (rd x0_1 (ji9))).bind fun t103 => (if t103 = true then (qspisou6.j2 k2 x0_1 a1 a2 x7_2 x8_1) else (qspisou6.l1 k2 x0_1 a1 a2 (wrap64 (x7_2 + 1)) x8_1))) else (none)) else (none)) = some (r1, r2) := by first | (rw [hji9] at H; exact H) | (simp only [hji9] at H ⊢; exact H)
          have hji9w : (IntKind.i64.wrap (x7_2 - 1)) = ji9 := (i64_w _).trans hji9
          by_cases c10 : 0 ≤ (ji9)
          ·rw [if_pos c10] at H
           have c10b0 : decide (0 ≤ (ji9)) = true := decide_eq_true c10
           clear c10
           by_cases c11 : (ji9) < (x0_1.length : Int)
           ·rw [if_pos c11] at H
            have c11b0 : decide ((ji9) < (x0_1.length : Int)) = true := decide_eq_true c11
            clear c11
            replace H := Option.bind_eq_some_iff.mp H
            obtain ⟨t103, A120, H⟩ := H
            replace H : (if t103 = true then (qspisou6.j2 k2 x0_1 a1 a2 x7_2 x8_1) else (qspisou6.l1 k2 x0_1 a1 a2 (wrap64 (x7_2 + 1)) x8_1)) = some (r1, r2) := H
            have A12 := Zs.mk A120
            clear A120
            by_cases c13 : t103 = true
            ·subst c13
             have H1 : (qspisou6.j2 k2 x0_1 a1 a2 x7_2 x8_1) = some (r1, r2) := by rw [if_pos rfl] at H; exact H
             clear H
             have H := H1
             clear H1
             have H' := Zs.mk H
             clear H
             try go_wp2
             have n0_ := Zs.mk (Kd.R_drew HO_0.out)
             have n1_ := Zs.mk (Kept.drew HK.out)
             have n2_ := Zs.mk (zC HB.out)
             clear HO_0
             clear HK
             clear HB
             have HO_0 := n0_
             have HK := n1_
             have HB := n2_
             clear n0_ n1_ n2_
             obtain ⟨Ao15, co15, eo15⟩ := Kd.R_slice HO_0.out
             (first | subst eo15 | (injection eo15 with f1_ f2_ f3_; have f4_ := f1_.symm; have f5_ := f3_.symm; clear f1_ f2_ f3_; subst f4_; subst f5_))
             have p101 : 0 ≤ (x7_2 : Int) := of_decide_eq_true (by first | (with_reducible assumption) | assumption)
             have q101 : x7_2 < (x0_1.length : Int) := of_decide_eq_true (by first | (with_reducible assumption) | assumption)
             obtain ⟨ad101, e101, hx101_0⟩ := Kd.at_int (Kd.R_reads' HO_0.out).2.2 x7_2 p101 q101
             cases e101
             replace p101 := eq_true p101
             replace q101 := eq_true q101
             have p102 : 0 ≤ ((ji9) : Int) := of_decide_eq_true (by first | (with_reducible assumption) | assumption)
             have q102 : (ji9) < (x0_1.length : Int) := of_decide_eq_true (by first | (with_reducible assumption) | assumption)
             obtain ⟨ad102, e102, hx102_0⟩ := Kd.at_int (Kd.R_reads' HO_0.out).2.2 (ji9) p102 q102
             obtain rfl : ad101 = ad102 := (by injection e102)
             replace p102 := eq_true p102
             replace q102 := eq_true q102
             refine start_ (n := 16) (S := fun w' => w'.cell? (ad101.add (x7_2).toNat) = some (.int .u64 (rd x0_1 x7_2)) ∧ w'.cell? (ad101.add ((ji9)).toNat) = some (.int .u64 (rd x0_1 (ji9)))) (ds := []) (ba 16 0) (by kernel_rfl) rfl rfl ⟨hx101_0, hx102_0⟩ (fun hHeld => ?_); refine zT qspisou6.tab5 qspisou6.bits5 (fun HT_ HW_ => ?_)
             generalize wr.drew = w14 at HO_0 HK HB hx101_0 hx102_0 hHeld ⊢
             refine' pu 0 (some 17) (ba 16 1) HT_ rfl rfl (by kernel_rfl) (fun _ _ _ => id) ?_ ?_ ?_ <| pu 1 (some 18) (ba 16 3) HT_ rfl rfl (by kernel_rfl) (fun _ _ _ => id) ?_ ?_ ?_ <| pu 2 (some 19) (ba 16 7) HT_ rfl rfl (by kernel_rfl) (fun _ _ _ => id) ?_ ?_ ?_ <| pu 3 (some 20) (ba 16 15) HT_ rfl rfl (by kernel_rfl) (fun _ _ _ => id) ?_ ?_ ?_ <| pu 4 (some 21) (ba 16 31) HT_ rfl rfl (by kernel_rfl) (fun _ _ _ => id) ?_ ?_ ?_ <| pu 5 (some 22) (ba 16 63) HT_ rfl rfl (by kernel_rfl) (fun _ _ _ => id) ?_ ?_ ?_ <| pu 6 (some 23) (ba 16 127) HT_ rfl rfl (by kernel_rfl) (fun _ _ _ => id) ?_ ?_ ?_ <| pu 8 (some 25) (ba 16 383) HT_ rfl rfl (by kernel_rfl) (fun _ _ _ => id) ?_ ?_ ?_ <| pu 9 (some 26) (ba 16 895) HT_ rfl rfl (by kernel_rfl) (fun _ _ _ => id) ?_ ?_ ?_ <| pu 10 (some 27) (ba 16 1919) HT_ rfl rfl (by kernel_rfl) (fun _ _ _ => id) ?_ ?_ ?_ <| pu 11 (some 28) (ba 16 3967) HT_ rfl rfl (by kernel_rfl) (fun _ _ _ => id) ?_ ?_ ?_ <| ta 7 (some 24) (ba 16 4095) HT_ HW_ rfl rfl (by kernel_rfl) (fun _ _ _ => id) ?_ ?_ hHeld ?_ <| ta 12 (some 29) (ba 16 8191) HT_ HW_ rfl rfl (by kernel_rfl) (fun _ _ _ => id) ?_ ?_ hHeld ?_ <| ?_
             any_goals (first | (show Region.wanted _ _ = _; rfl) | (rintro w' ⟨s0, s1⟩; go_simp; with_reducible rfl) | (intro w'; go_simp; with_reducible rfl) | (simp only [Act.put, List.setIfInBounds_toArray, List.set_cons_zero, List.set_cons_succ, i64_w, i32_w]; rfl))
             refine one_ (i := 13) (N := some 30) (ba 16 16383) rfl rfl (one_of HT_.out (by kernel_rfl)) (by decide) (fun K hK => ?_)
             refine goes_ Tryd.func95 (by kernel_rfl) rfl #[.int .u64 (rd x0_1 x7_2), .int .u64 (rd x0_1 (ji9))] (by rfl) rfl rfl (by (try simp only [List.map_toArray, List.map_cons, List.map_nil]); first | done | (simp only [hji9]; rfl) | rfl | (simp only [List.length_drop, List.length_take]; rfl)) ?_
             with_reducible refine (qclu6.calls (rd x0_1 x7_2) (rd x0_1 (ji9)) true _ A12.out).mono ?_
             rintro e w' ⟨rfl, ⟨nd, rfl⟩⟩
             refine ⟨_, rfl, ?_⟩
             refine hK.out _ _ ⟨hHeld.1, hHeld.2⟩ (fun hHeld => ?_)
             clear hK K
             refine norm_ (a' := ?_) ?_ ?_
             rotate_left
             ·show Act.put _ (some 30) _ = _
              simp only [Act.put, List.setIfInBounds_toArray, List.set_cons_zero, List.set_cons_succ, i64_w, i32_w]
              rfl
             refine' pu 14 (some 31) (ba 16 32767) HT_ rfl rfl (by kernel_rfl) (fun _ _ _ => id) ?_ ?_ ?_ <| pu 15 (some 32) (ba 16 65535) HT_ rfl rfl (by kernel_rfl) (fun _ _ _ => id) ?_ ?_ ?_ <| ?_
             any_goals (first | (show Region.wanted _ _ = _; rfl) | (intro w'; go_simp; with_reducible rfl) | (simp only [Act.put, List.setIfInBounds_toArray, List.set_cons_zero, List.set_cons_succ, i64_w, i32_w]; rfl))
             refine done_ (done_of HT_.out (by kernel_rfl)) ?_
             try go_wp2
             go_meet
             case rel => exact ⟨_, (x7_2), (by first | rfl | (simp; done) | (simp [*]; done)), H', ⟨by have := HK1.out; have := HK2.out; first | omega | exact Nat.le_refl _⟩, ⟨by (with_reducible repeat (first | apply Kd.R_alloc | apply Kd.R_drewN | apply Kd.R_drew)); exact HO_0.out⟩, ⟨by repeat (first | (with_reducible first | exact HK.out | apply Kept.alloc | apply Kept.drewN | apply Kept.drew) | exact HK.out)⟩, ⟨by repeat (first | (with_reducible first | exact HB.out | apply zA | apply zB | apply zC) | exact HB.out)⟩⟩
            ·replace c13 := Bool.eq_false_iff.mpr c13
             subst c13
             have H1 : (qspisou6.l1 k2 x0_1 a1 a2 (wrap64 (x7_2 + 1)) x8_1) = some (r1, r2) := by rw [if_neg (show ¬ (false = true) by decide)] at H; exact H
             clear H
             have H := H1
             clear H1
             have H' := Zs.mk H
             clear H
             try go_wp2
             have n0_ := Zs.mk (Kd.R_drew HO_0.out)
             have n1_ := Zs.mk (Kept.drew HK.out)
             have n2_ := Zs.mk (zC HB.out)
             clear HO_0
             clear HK
             clear HB
             have HO_0 := n0_
             have HK := n1_
             have HB := n2_
             clear n0_ n1_ n2_
             obtain ⟨Ao17, co17, eo17⟩ := Kd.R_slice HO_0.out
             (first | subst eo17 | (injection eo17 with f1_ f2_ f3_; have f4_ := f1_.symm; have f5_ := f3_.symm; clear f1_ f2_ f3_; subst f4_; subst f5_))
             have p101 : 0 ≤ (x7_2 : Int) := of_decide_eq_true (by first | (with_reducible assumption) | assumption)
             have q101 : x7_2 < (x0_1.length : Int) := of_decide_eq_true (by first | (with_reducible assumption) | assumption)
             obtain ⟨ad101, e101, hx101_0⟩ := Kd.at_int (Kd.R_reads' HO_0.out).2.2 x7_2 p101 q101
             cases e101
             replace p101 := eq_true p101
             replace q101 := eq_true q101
             have p102 : 0 ≤ ((ji9) : Int) := of_decide_eq_true (by first | (with_reducible assumption) | assumption)
             have q102 : (ji9) < (x0_1.length : Int) := of_decide_eq_true (by first | (with_reducible assumption) | assumption)
             obtain ⟨ad102, e102, hx102_0⟩ := Kd.at_int (Kd.R_reads' HO_0.out).2.2 (ji9) p102 q102
             obtain rfl : ad101 = ad102 := (by injection e102)
             replace p102 := eq_true p102
             replace q102 := eq_true q102
             refine start_ (n := 16) (S := fun w' => w'.cell? (ad101.add (x7_2).toNat) = some (.int .u64 (rd x0_1 x7_2)) ∧ w'.cell? (ad101.add ((ji9)).toNat) = some (.int .u64 (rd x0_1 (ji9)))) (ds := []) (ba 16 0) (by kernel_rfl) rfl rfl ⟨hx101_0, hx102_0⟩ (fun hHeld => ?_); refine zT qspisou6.tab5 qspisou6.bits5 (fun HT_ HW_ => ?_)
             generalize wr.drew = w16 at HO_0 HK HB hx101_0 hx102_0 hHeld ⊢
             refine' pu 0 (some 17) (ba 16 1) HT_ rfl rfl (by kernel_rfl) (fun _ _ _ => id) ?_ ?_ ?_ <| pu 1 (some 18) (ba 16 3) HT_ rfl rfl (by kernel_rfl) (fun _ _ _ => id) ?_ ?_ ?_ <| pu 2 (some 19) (ba 16 7) HT_ rfl rfl (by kernel_rfl) (fun _ _ _ => id) ?_ ?_ ?_ <| pu 3 (some 20) (ba 16 15) HT_ rfl rfl (by kernel_rfl) (fun _ _ _ => id) ?_ ?_ ?_ <| pu 4 (some 21) (ba 16 31) HT_ rfl rfl (by kernel_rfl) (fun _ _ _ => id) ?_ ?_ ?_ <| pu 5 (some 22) (ba 16 63) HT_ rfl rfl (by kernel_rfl) (fun _ _ _ => id) ?_ ?_ ?_ <| pu 6 (some 23) (ba 16 127) HT_ rfl rfl (by kernel_rfl) (fun _ _ _ => id) ?_ ?_ ?_ <| pu 8 (some 25) (ba 16 383) HT_ rfl rfl (by kernel_rfl) (fun _ _ _ => id) ?_ ?_ ?_ <| pu 9 (some 26) (ba 16 895) HT_ rfl rfl (by kernel_rfl) (fun _ _ _ => id) ?_ ?_ ?_ <| pu 10 (some 27) (ba 16 1919) HT_ rfl rfl (by kernel_rfl) (fun _ _ _ => id) ?_ ?_ ?_ <| pu 11 (some 28) (ba 16 3967) HT_ rfl rfl (by kernel_rfl) (fun _ _ _ => id) ?_ ?_ ?_ <| ta 7 (some 24) (ba 16 4095) HT_ HW_ rfl rfl (by kernel_rfl) (fun _ _ _ => id) ?_ ?_ hHeld ?_ <| ta 12 (some 29) (ba 16 8191) HT_ HW_ rfl rfl (by kernel_rfl) (fun _ _ _ => id) ?_ ?_ hHeld ?_ <| ?_
             any_goals (first | (show Region.wanted _ _ = _; rfl) | (rintro w' ⟨s0, s1⟩; go_simp; with_reducible rfl) | (intro w'; go_simp; with_reducible rfl) | (simp only [Act.put, List.setIfInBounds_toArray, List.set_cons_zero, List.set_cons_succ, i64_w, i32_w]; rfl))
             refine one_ (i := 13) (N := some 30) (ba 16 16383) rfl rfl (one_of HT_.out (by kernel_rfl)) (by decide) (fun K hK => ?_)
             refine goes_ Tryd.func95 (by kernel_rfl) rfl #[.int .u64 (rd x0_1 x7_2), .int .u64 (rd x0_1 (ji9))] (by rfl) rfl rfl (by (try simp only [List.map_toArray, List.map_cons, List.map_nil]); first | done | (simp only [hji9]; rfl) | rfl | (simp only [List.length_drop, List.length_take]; rfl)) ?_
             with_reducible refine (qclu6.calls (rd x0_1 x7_2) (rd x0_1 (ji9)) false _ A12.out).mono ?_
             rintro e w' ⟨rfl, ⟨nd, rfl⟩⟩
             refine ⟨_, rfl, ?_⟩
             refine hK.out _ _ ⟨hHeld.1, hHeld.2⟩ (fun hHeld => ?_)
             clear hK K
             refine norm_ (a' := ?_) ?_ ?_
             rotate_left
             ·show Act.put _ (some 30) _ = _
              simp only [Act.put, List.setIfInBounds_toArray, List.set_cons_zero, List.set_cons_succ, i64_w, i32_w]
              rfl
             refine' pu 14 (some 31) (ba 16 32767) HT_ rfl rfl (by kernel_rfl) (fun _ _ _ => id) ?_ ?_ ?_ <| pu 15 (some 32) (ba 16 65535) HT_ rfl rfl (by kernel_rfl) (fun _ _ _ => id) ?_ ?_ ?_ <| ?_
             any_goals (first | (show Region.wanted _ _ = _; rfl) | (intro w'; go_simp; with_reducible rfl) | (simp only [Act.put, List.setIfInBounds_toArray, List.set_cons_zero, List.set_cons_succ, i64_w, i32_w]; rfl))
             refine done_ (done_of HT_.out (by kernel_rfl)) ?_
             try go_wp2
             go_roundg k2
             case measure => have := HK1.out; have := HK2.out; omega
             case rel => exact ⟨(wrap64 (x7_2 + 1)), (by first | rfl | (simp; done) | (simp [*]; done)), H', ⟨by have := HK1.out; have := HK2.out; omega⟩, ⟨by (with_reducible repeat (first | apply Kd.R_alloc | apply Kd.R_drewN | apply Kd.R_drew)); exact HO_0.out⟩, ⟨by repeat (first | (with_reducible first | exact HK.out | apply Kept.alloc | apply Kept.drewN | apply Kept.drew) | exact HK.out)⟩, ⟨by repeat (first | (with_reducible first | exact HB.out | apply zA | apply zB | apply zC) | exact HB.out)⟩⟩
           ·rw [if_neg c11] at H
            exact absurd H (by simp)
          ·rw [if_neg c10] at H
           exact absurd H (by simp)
         ·rw [if_neg c8] at H
          exact absurd H (by simp)
        ·rw [if_neg c7] at H
         exact absurd H (by simp)
       ·rw [if_neg c6] at H
        have c6b0 : decide (x7_2 < a2) = false := decide_eq_false c6
        clear c6
        (first | rw [c6b0] | (simp only [i64_w, i32_w]; rw [c6b0]) | skip)
        have H' := Zs.mk H
        clear H
        try go_wp2
        have n0_ := Zs.mk (Kd.R_drew HO_0.out)
        have n1_ := Zs.mk (Kept.drew HK.out)
        have n2_ := Zs.mk (zC HB.out)
        clear HO_0
        clear HK
        clear HB
        have HO_0 := n0_
        have HK := n1_
        have HB := n2_
        clear n0_ n1_ n2_
        refine start_ (n := 16) (S := fun w' => True) (ds := []) (ba 16 0) (by kernel_rfl) rfl rfl trivial (fun hHeld => ?_); refine zT qspisou6.tab5 qspisou6.bits5 (fun HT_ HW_ => ?_)
        generalize wr.drew = w18 at HO_0 HK HB hHeld ⊢
        refine' pu 0 (some 17) (ba 16 1) HT_ rfl rfl (by kernel_rfl) (fun _ _ _ => id) ?_ ?_ ?_ <| pu 1 (some 18) (ba 16 3) HT_ rfl rfl (by kernel_rfl) (fun _ _ _ => id) ?_ ?_ ?_ <| pu 2 (some 19) (ba 16 7) HT_ rfl rfl (by kernel_rfl) (fun _ _ _ => id) ?_ ?_ ?_ <| pu 3 (some 20) (ba 16 15) HT_ rfl rfl (by kernel_rfl) (fun _ _ _ => id) ?_ ?_ ?_ <| un 4 (some 21) (ba 16 31) HT_ rfl rfl (by kernel_rfl) (fun _ _ _ => id) ?_ ?_ <| un 5 (some 22) (ba 16 63) HT_ rfl rfl (by kernel_rfl) (fun _ _ _ => id) ?_ ?_ <| un 6 (some 23) (ba 16 127) HT_ rfl rfl (by kernel_rfl) (fun _ _ _ => id) ?_ ?_ <| un 7 (some 24) (ba 16 255) HT_ rfl rfl (by kernel_rfl) (fun _ _ _ => id) ?_ ?_ <| un 8 (some 25) (ba 16 511) HT_ rfl rfl (by kernel_rfl) (fun _ _ _ => id) ?_ ?_ <| un 9 (some 26) (ba 16 1023) HT_ rfl rfl (by kernel_rfl) (fun _ _ _ => id) ?_ ?_ <| un 10 (some 27) (ba 16 2047) HT_ rfl rfl (by kernel_rfl) (fun _ _ _ => id) ?_ ?_ <| un 11 (some 28) (ba 16 4095) HT_ rfl rfl (by kernel_rfl) (fun _ _ _ => id) ?_ ?_ <| un 12 (some 29) (ba 16 8191) HT_ rfl rfl (by kernel_rfl) (fun _ _ _ => id) ?_ ?_ <| un 13 (some 30) (ba 16 16383) HT_ rfl rfl (by kernel_rfl) (fun _ _ _ => id) ?_ ?_ <| un 14 (some 31) (ba 16 32767) HT_ rfl rfl (by kernel_rfl) (fun _ _ _ => id) ?_ ?_ <| pu 15 (some 32) (ba 16 65535) HT_ rfl rfl (by kernel_rfl) (fun _ _ _ => id) ?_ ?_ ?_ <| ?_
        any_goals (first | (show Region.wanted _ _ = _; rfl) | (intro w'; go_simp; with_reducible rfl) | (simp only [Act.put, List.setIfInBounds_toArray, List.set_cons_zero, List.set_cons_succ, i64_w, i32_w]; rfl))
        refine done_ (done_of HT_.out (by kernel_rfl)) ?_
        try go_wp2
        go_meet
        case rel => exact ⟨_, (x7_2), (by first | rfl | (simp; done) | (simp [*]; done)), H', ⟨by have := HK1.out; have := HK2.out; first | omega | exact Nat.le_refl _⟩, ⟨by (with_reducible repeat (first | apply Kd.R_alloc | apply Kd.R_drewN | apply Kd.R_drew)); exact HO_0.out⟩, ⟨by repeat (first | (with_reducible first | exact HK.out | apply Kept.alloc | apply Kept.drewN | apply Kept.drew) | exact HK.out)⟩, ⟨by repeat (first | (with_reducible first | exact HB.out | apply zA | apply zB | apply zC) | exact HB.out)⟩⟩
    case rest =>
     clear HC5
     try clear c4; try clear c4b0; try clear c6; try clear c6b0; try clear c7; try clear c7b0; try clear c8; try clear c8b0; try clear c10; try clear c10b0; try clear c11; try clear c11b0; try clear c13; try clear hx101_0; try clear hx102_0; try clear p101; try clear p102; try clear q101; try clear q102
     obtain ⟨kq, x7_4, rfl, HA, HJ4, HO_0, HK, HB⟩ := hcut
     cases kq with
     | zero => exact absurd HA.out (by simp [qspisou6.j2])
     | succ kj4 =>
      have H := HA.out
      clear HA
      simp only [qspisou6.j2] at H
      by_cases c19 : x7_4 = a2
      ·rw [if_pos c19] at H
       have c19b0 : (x7_4 == a2) = true := beq_iff_eq.mpr c19
       have c19b1 : (x7_4 != a2) = false := bne_eq_false_iff_eq.mpr c19
       clear c19
       simp only [Option.some.injEq, Prod.mk.injEq] at H
       obtain ⟨rfl, rfl⟩ := H
       go_wp2
       go_ret
       exact ⟨by first | rfl | (simp [zE, zF] <;> rfl) | (simp [*, zE, zF] <;> rfl), by (with_reducible repeat (first | apply Kd.R_alloc | apply Kd.R_drewN | apply Kd.R_drew)); exact HO_0.out, by repeat (first | (with_reducible first | exact HB.out | apply zA | apply zB | apply zC) | exact HB.out), by repeat (first | (with_reducible first | exact HK.out | apply Kept.alloc | apply Kept.drewN | apply Kept.drew) | exact HK.out)⟩
      ·rw [if_neg c19] at H
       have c19b0 : (x7_4 == a2) = false := beq_eq_false_iff_ne.mpr c19
       have c19b1 : (x7_4 != a2) = true := bne_iff_ne.mpr c19
       by_cases c20 : (wrap64 (a2 - a1)) < 50
       ·rw [if_pos c20] at H
        have c20b0 : decide ((wrap64 (a2 - a1)) < 50) = true := decide_eq_true c20
        clear c20
        simp only [Option.some.injEq, Prod.mk.injEq] at H
        obtain ⟨rfl, rfl⟩ := H
        go_wp2
        go_ret
        exact ⟨by first | rfl | (simp [zE, zF] <;> rfl) | (simp [*, zE, zF] <;> rfl), by (with_reducible repeat (first | apply Kd.R_alloc | apply Kd.R_drewN | apply Kd.R_drew)); exact HO_0.out, by repeat (first | (with_reducible first | exact HB.out | apply zA | apply zB | apply zC) | exact HB.out), by repeat (first | (with_reducible first | exact HK.out | apply Kept.alloc | apply Kept.drewN | apply Kept.drew) | exact HK.out)⟩
       ·rw [if_neg c20] at H
        have c20b0 : decide ((wrap64 (a2 - a1)) < 50) = false := decide_eq_false c20
        clear c20
        obtain ⟨ji21, hji21⟩ : ∃ j_ : Int, (wrap64 (x7_4 - 1)) = j_ := ⟨_, rfl⟩
        replace H : (if 0 ≤ (ji21) then (if (ji21) < (x0_1.length : Int) then (if 0 ≤ x7_4 then (if x7_4 < (x0_1.length : Int) then ((some ((x0_1.set (x7_4 : Int).toNat (rd x0_1 (ji21))).set ((ji21) : Int).toNat (rd x0_1 x7_4) : List Int)).bind fun y107 => (if (wrap64 (x7_4 - a1)) ≥ 2 then (qspisou6.l2 kj4 y107 a1 a2 x7_4 x8_1 ji21) else (qspisou6.j4 kj4 y107 a1 a2 x7_4 x8_1))) else (none)) else (none)) else (none)) else (none)) = some (r1, r2) := by first | (rw [hji21] at H; exact H) | (simp only [hji21] at H ⊢; exact H)
        have hji21w : (IntKind.i64.wrap (x7_4 - 1)) = ji21 := (i64_w _).trans hji21
        by_cases c22 : 0 ≤ (ji21)
        ·rw [if_pos c22] at H
         have c22b0 : decide (0 ≤ (ji21)) = true := decide_eq_true c22
         clear c22
         by_cases c23 : (ji21) < (x0_1.length : Int)
         ·rw [if_pos c23] at H
          have c23b0 : decide ((ji21) < (x0_1.length : Int)) = true := decide_eq_true c23
          clear c23
          by_cases c24 : 0 ≤ x7_4
          ·rw [if_pos c24] at H
           have c24b0 : decide (0 ≤ x7_4) = true := decide_eq_true c24
           clear c24
           by_cases c25 : x7_4 < (x0_1.length : Int)
           ·rw [if_pos c25] at H
            have c25b0 : decide (x7_4 < (x0_1.length : Int)) = true := decide_eq_true c25
            clear c25
            obtain ⟨y106, hy106⟩ : ∃ y_ : List Int, y_ = (x0_1.set (x7_4 : Int).toNat (rd x0_1 (ji21))) := ⟨_, rfl⟩
            replace H : ((some (y106.set ((ji21) : Int).toNat (rd x0_1 x7_4) : List Int)).bind fun y107 => (if (wrap64 (x7_4 - a1)) ≥ 2 then (qspisou6.l2 kj4 y107 a1 a2 x7_4 x8_1 ji21) else (qspisou6.j4 kj4 y107 a1 a2 x7_4 x8_1))) = some (r1, r2) := by first | (rw [hy106]; with_reducible exact H) | (have H2_ := (Option.bind_some _ _).symm.trans H; rw [hy106]; with_reducible exact H2_) | (have H2_ := (Option.bind_some _ _).symm.trans H; with_reducible exact H2_) | with_reducible exact H | (rw [hy106]; exact H) | exact H
            have Ny106 := Zs.mk hy106
            clear hy106
            obtain ⟨y107, hy107⟩ : ∃ y_ : List Int, y_ = (y106.set ((ji21) : Int).toNat (rd x0_1 x7_4)) := ⟨_, rfl⟩
            replace H : (if (wrap64 (x7_4 - a1)) ≥ 2 then (qspisou6.l2 kj4 y107 a1 a2 x7_4 x8_1 ji21) else (qspisou6.j4 kj4 y107 a1 a2 x7_4 x8_1)) = some (r1, r2) := by first | (rw [hy107]; with_reducible exact H) | (have H2_ := (Option.bind_some _ _).symm.trans H; rw [hy107]; with_reducible exact H2_) | (have H2_ := (Option.bind_some _ _).symm.trans H; with_reducible exact H2_) | with_reducible exact H | (rw [hy107]; exact H) | exact H
            have Ny107 := Zs.mk hy107
            clear hy107
            have HC28 := Zs.mk H
            clear H
            try go_wp2
            have n0_ := Zs.mk (Kd.R_drew HO_0.out)
            have n1_ := Zs.mk (Kept.drew HK.out)
            have n2_ := Zs.mk (zC HB.out)
            clear HO_0
            clear HK
            clear HB
            have HO_0 := n0_
            have HK := n1_
            have HB := n2_
            clear n0_ n1_ n2_
            obtain ⟨Ao30, co30, eo30⟩ := Kd.R_slice HO_0.out
            (first | subst eo30 | (injection eo30 with f1_ f2_ f3_; have f4_ := f1_.symm; have f5_ := f3_.symm; clear f1_ f2_ f3_; subst f4_; subst f5_))
            have p104 : 0 ≤ ((ji21) : Int) := of_decide_eq_true (by first | (with_reducible assumption) | assumption)
            have q104 : (ji21) < (x0_1.length : Int) := of_decide_eq_true (by first | (with_reducible assumption) | assumption)
            obtain ⟨ad104, e104, hx104_0⟩ := Kd.at_int (Kd.R_reads' HO_0.out).2.2 (ji21) p104 q104
            cases e104
            replace p104 := eq_true p104
            replace q104 := eq_true q104
            have p105 : 0 ≤ (x7_4 : Int) := of_decide_eq_true (by first | (with_reducible assumption) | assumption)
            have q105 : x7_4 < (x0_1.length : Int) := of_decide_eq_true (by first | (with_reducible assumption) | assumption)
            obtain ⟨ad105, e105, hx105_0⟩ := Kd.at_int (Kd.R_reads' HO_0.out).2.2 x7_4 p105 q105
            obtain rfl : ad104 = ad105 := (by injection e105)
            replace p105 := eq_true p105
            replace q105 := eq_true q105
            have p26 : 0 ≤ (x7_4 : Int) := of_decide_eq_true (by first | (with_reducible assumption) | assumption)
            have q26 : (x7_4 : Int) < ((x0_1.length : Int) : Int) := of_decide_eq_true (by first | (with_reducible assumption) | assumption)
            obtain ⟨go26, co26, eo26, gb26, gl26, cl26, HG26⟩ := Kd.R_form HO_0.out (by omega)
            (first | cases eo26 | (injection eo26 with ea_ en_ ec_; (first | subst ea_ | (injection ea_ with ea_; subst ea_)); subst ec_; clear en_))
            have GB26 := Zs.mk gb26
            have GG26 := Zs.mk HG26
            clear gb26 gl26 HG26
            have HMgo26 := Zs.mk (show (P0_ go26 ∨ w.heap.size ≤ go26) from (HO_0.out.1 _ rfl))
            (first | simp only [add_plain] at hx104_0 | skip)
            (first | simp only [add_plain] at hx105_0 | skip)
            obtain ⟨hx26_0, hf26_0⟩ := Kd.R_celln 0 HO_0.out (x7_4 : Int) p26 q26
            replace p26 := eq_true p26
            replace q26 := eq_true q26
            have HP31 := Kd.R_putn HO_0.out (x7_4 : Int) (rd x0_1 (ji21))
            rw [← Ny106.out] at HP31
            have HQ31 := Zs.mk HP31
            clear HP31
            have p27 : 0 ≤ ((ji21) : Int) := of_decide_eq_true (by first | (with_reducible assumption) | assumption)
            have q27 : ((ji21) : Int) < ((x0_1.length : Int) : Int) := of_decide_eq_true (by first | (with_reducible assumption) | assumption)
            obtain ⟨hx27_0, hf27_0⟩ := Kd.R_celln 0 HQ31.out ((ji21) : Int) p27 q27
            replace p27 := eq_true p27
            replace q27 := eq_true q27
            have HP32 := Kd.R_putn HQ31.out ((ji21) : Int) (rd x0_1 x7_4)
            rw [← Ny107.out] at HP32
            have HQ32 := Zs.mk HP32
            clear HP32
            refine start_ (n := 18) (S := fun w' => w'.cell? ⟨go26, ((ji21)).toNat, none⟩ = some (.int .u64 (rd x0_1 (ji21))) ∧ w'.cell? ⟨go26, (x7_4).toNat, none⟩ = some (.int .u64 (rd x0_1 x7_4))) (ds := [15, 17]) (ba 18 0) (by kernel_rfl) rfl rfl ⟨hx104_0, hx105_0⟩ (fun hHeld => ?_); refine zT qspisou6.tab11 qspisou6.bits11 (fun HT_ HW_ => ?_)
            generalize wc.drew = w29 at HO_0 HK HB GG26 HQ31 HQ32 hf26_0 hf27_0 hx104_0 hx105_0 hx26_0 hx27_0 hHeld ⊢
            refine' pu 0 (some 42) (ba 18 1) HT_ rfl rfl (by kernel_rfl) (fun _ _ _ => id) ?_ ?_ ?_ <| pu 1 (some 43) (ba 18 3) HT_ rfl rfl (by kernel_rfl) (fun _ _ _ => id) ?_ ?_ ?_ <| pu 2 (some 44) (ba 18 7) HT_ rfl rfl (by kernel_rfl) (fun _ _ _ => id) ?_ ?_ ?_ <| pu 3 (some 45) (ba 18 15) HT_ rfl rfl (by kernel_rfl) (fun _ _ _ => id) ?_ ?_ ?_ <| pu 4 (some 46) (ba 18 31) HT_ rfl rfl (by kernel_rfl) (fun _ _ _ => id) ?_ ?_ ?_ <| pu 5 (some 47) (ba 18 63) HT_ rfl rfl (by kernel_rfl) (fun _ _ _ => id) ?_ ?_ ?_ <| pu 6 (some 48) (ba 18 127) HT_ rfl rfl (by kernel_rfl) (fun _ _ _ => id) ?_ ?_ ?_ <| pu 7 (some 49) (ba 18 255) HT_ rfl rfl (by kernel_rfl) (fun _ _ _ => id) ?_ ?_ ?_ <| pu 8 (some 50) (ba 18 511) HT_ rfl rfl (by kernel_rfl) (fun _ _ _ => id) ?_ ?_ ?_ <| pu 10 (some 52) (ba 18 1535) HT_ rfl rfl (by kernel_rfl) (fun _ _ _ => id) ?_ ?_ ?_ <| pu 11 (some 53) (ba 18 3583) HT_ rfl rfl (by kernel_rfl) (fun _ _ _ => id) ?_ ?_ ?_ <| pu 12 (some 54) (ba 18 7679) HT_ rfl rfl (by kernel_rfl) (fun _ _ _ => id) ?_ ?_ ?_ <| ta 9 (some 51) (ba 18 8191) HT_ HW_ rfl rfl (by kernel_rfl) (fun _ _ _ => id) ?_ ?_ hHeld ?_ <| ta 13 (some 55) (ba 18 16383) HT_ HW_ rfl rfl (by kernel_rfl) (fun _ _ _ => id) ?_ ?_ hHeld ?_ <| pu 14 (some 56) (ba 18 32767) HT_ rfl rfl (by kernel_rfl) (fun _ _ _ => id) ?_ ?_ ?_ <| ?_
            any_goals (first | (show Region.wanted _ _ = _; rfl) | (rintro w' ⟨s0, s1⟩; go_simp; with_reducible rfl) | (intro w'; go_simp; with_reducible rfl) | (simp only [Act.put, List.setIfInBounds_toArray, List.set_cons_zero, List.set_cons_succ, i64_w, i32_w]; rfl))
            refine last_ (i := 15) (N := none) (ba 18 65535) rfl rfl (one_of HT_.out (by kernel_rfl)) (by decide) (fun K hK => ?_)
            refine skip_ (w1 := ?_) (by rfl) rfl ?_ ?_
            rotate_left
            ·go_simp
             rfl
            refine hK.out _ _ ?_
            clear hK K
            refine' pu 16 (some 57) (ba 18 131071) HT_ rfl rfl (by kernel_rfl) (fun _ _ _ => id) ?_ ?_ ?_ <| ?_
            any_goals (first | (show Region.wanted _ _ = _; rfl) | (intro w'; go_simp; with_reducible rfl) | (simp only [Act.put, List.setIfInBounds_toArray, List.set_cons_zero, List.set_cons_succ, i64_w, i32_w]; rfl))
            refine last_ (i := 17) (N := none) (ba 18 262143) rfl rfl (one_of HT_.out (by kernel_rfl)) (by decide) (fun K hK => ?_)
            refine skip_ (w1 := ?_) (by rfl) rfl ?_ ?_
            rotate_left
            ·go_simp
             rfl
            refine hK.out _ _ ?_
            clear hK K
            refine done_ (done_of HT_.out (by kernel_rfl)) ?_
            go_upto_if 61 with (fail)
            go_cut [] (fun wc => ∃ (kq : Nat) (x0_27 : List Int), Zs (qspisou6.j4 kq x0_27 a1 a2 x7_4 x8_1 = some (r1, r2)) ∧ Zs (kq ≤ kj4) ∧ Zs (Kd.R (Kd.int .u64) 33 wc w0.heap.size (fun k_ => (P0_ k_ ∨ w.heap.size ≤ k_)) (.slice (some ⟨go26, 0, none⟩) x0_1.length co30) x0_27) ∧ Zs (Kept w wc (fun k_ => P0_ k_)) ∧ Zs (Below w0.heap.size w0 wc))
            case first =>
             have H := HC28.out
             clear HC28
             by_cases c33 : (wrap64 (x7_4 - a1)) ≥ 2
             ·rw [if_pos c33] at H
              have c33b0 : decide (2 ≤ (wrap64 (x7_4 - a1))) = true := decide_eq_true c33
              clear c33
              (first | rw [c33b0] | (simp only [i64_w, i32_w]; rw [c33b0]) | skip)
              have H' := Zs.mk H
              clear H
              go_wp2
              go_loopg [9] kj4 (fun kq v9 w' => ∃ (x0_3 : List Int) (x9_3 : Int), v9 = .int .i64 x9_3 ∧ Zs (qspisou6.l2 kq x0_3 a1 a2 x7_4 x8_1 x9_3 = some (r1, r2)) ∧ Zs (kq ≤ kj4) ∧ Zs (Kd.R (Kd.int .u64) 33 w' w0.heap.size (fun k_ => (P0_ k_ ∨ w.heap.size ≤ k_)) (.slice (some ⟨go26, 0, none⟩) x0_1.length co30) x0_3) ∧ Zs (Kept w w' (fun k_ => P0_ k_)) ∧ Zs (Below w0.heap.size w0 w'))
              case atStart => exact ⟨(y107), (ji21), (by first | rfl | (simp; done) | (simp only [← hji21] <;> (first | rfl | simp)) | (simp [*]; done)), H', ⟨Nat.le_refl _⟩, ⟨by (with_reducible repeat (first | apply Kd.R_alloc | apply Kd.R_drewN | apply Kd.R_drew)); exact HQ32.out⟩, ⟨by repeat (first | (with_reducible first | exact HK.out | apply Kept.alloc | apply Kept.drewN | apply Kept.drew | refine Kept.setCell ?_ HMgo26.out _ | refine Kept.setCell ?_ HMgo26.out _) | exact HK.out)⟩, ⟨by repeat (first | (with_reducible first | exact HB.out | apply zA | apply zB | apply zC | refine below_set ?_ GB26.out | refine below_set ?_ GB26.out) | exact HB.out)⟩⟩
              case round =>
               clear H'
               try clear c4; try clear c4b0; try clear c6; try clear c6b0; try clear c7; try clear c7b0; try clear c8; try clear c8b0; try clear c10; try clear c10b0; try clear c11; try clear c11b0; try clear c13; try clear c19; try clear c19b0; try clear c19b1; try clear c20; try clear c20b0; try clear c22; try clear c22b0; try clear c23; try clear c23b0; try clear c24; try clear c24b0; try clear c25; try clear c25b0; try clear p26; try clear q26; try clear p27; try clear q27; try clear c33; try clear c33b0; try clear hx101_0; try clear hx102_0; try clear hx104_0; try clear hx105_0; try clear hx26_0; try clear hx27_0; try clear p101; try clear p102; try clear p104; try clear p105; try clear p26; try clear p27; try clear q101; try clear q102; try clear q104; try clear q105; try clear q26; try clear q27
               obtain ⟨x0_3, x9_3, rfl, HA, HK3, HO_0, HK, HB⟩ := hrel
               have hl0_3 := (Kd.R_reads' HO_0.out).1
               rw [hl0_3] at HO_0
               (try simp only [hl0_3])
               cases gk with
               | zero => exact absurd HA.out (by simp [qspisou6.l2])
               | succ k3 =>
                have H := HA.out
                clear HA
                simp only [qspisou6.l2] at H
                by_cases c34 : x9_3 ≥ 1
                ·rw [if_pos c34] at H
                 have c34b0 : decide (1 ≤ x9_3) = true := decide_eq_true c34
                 clear c34
                 by_cases c35 : 0 ≤ x9_3
                 ·rw [if_pos c35] at H
                  have c35b0 : decide (0 ≤ x9_3) = true := decide_eq_true c35
                  clear c35
                  by_cases c36 : x9_3 < (x0_3.length : Int)
                  ·rw [if_pos c36] at H
                   have c36b0 : decide (x9_3 < (x0_3.length : Int)) = true := decide_eq_true c36
                   clear c36
                   obtain ⟨ji37, hji37⟩ : ∃ j_ : Int, (wrap64 (x9_3 - 1)) = j_ := ⟨_, rfl⟩
                   replace H : (if 0 ≤ (ji37) then (if (ji37) < (x0_3.length : Int) then ((qclu6.f (rd x0_3 x9_3) (rd x0_3 (ji37))).bind fun t110 => (if t110 = true then (qspisou6.l2 k3 ((x0_3.set (x9_3 : Int).toNat (rd x0_3 (ji37))).set ((ji37) : Int).toNat (rd x0_3 x9_3)) a1 a2 x7_4 x8_1 ji37) else (qspisou6.j4 k3 x0_3 a1 a2 x7_4 x8_1))) else (none)) else (none)) = some (r1, r2) := by first | (rw [hji37] at H; exact H) | (simp only [hji37] at H ⊢; exact H)
                   have hji37w : (IntKind.i64.wrap (x9_3 - 1)) = ji37 := (i64_w _).trans hji37
                   by_cases c38 : 0 ≤ (ji37)
                   ·rw [if_pos c38] at H
                    have c38b0 : decide (0 ≤ (ji37)) = true := decide_eq_true c38
                    clear c38
                    by_cases c39 : (ji37) < (x0_3.length : Int)
                    ·rw [if_pos c39] at H
                     have c39b0 : decide ((ji37) < (x0_3.length : Int)) = true := decide_eq_true c39
                     clear c39
                     replace H := Option.bind_eq_some_iff.mp H
                     obtain ⟨t110, A400, H⟩ := H
                     replace H : (if t110 = true then (qspisou6.l2 k3 ((x0_3.set (x9_3 : Int).toNat (rd x0_3 (ji37))).set ((ji37) : Int).toNat (rd x0_3 x9_3)) a1 a2 x7_4 x8_1 ji37) else (qspisou6.j4 k3 x0_3 a1 a2 x7_4 x8_1)) = some (r1, r2) := H
                     have A40 := Zs.mk A400
                     clear A400
                     by_cases c41 : t110 = true
                     ·subst c41
                      have H1 : (qspisou6.l2 k3 ((x0_3.set (x9_3 : Int).toNat (rd x0_3 (ji37))).set ((ji37) : Int).toNat (rd x0_3 x9_3)) a1 a2 x7_4 x8_1 ji37) = some (r1, r2) := by rw [if_pos rfl] at H; exact H
                      clear H
                      have H := H1
                      clear H1
                      obtain ⟨y113, hy113⟩ : ∃ y_ : List Int, y_ = (x0_3.set (x9_3 : Int).toNat (rd x0_3 (ji37))) := ⟨_, rfl⟩
                      replace H : (qspisou6.l2 k3 (y113.set ((ji37) : Int).toNat (rd x0_3 x9_3)) a1 a2 x7_4 x8_1 ji37) = some (r1, r2) := by first | (rw [hy113]; with_reducible exact H) | (have H2_ := (Option.bind_some _ _).symm.trans H; rw [hy113]; with_reducible exact H2_) | (have H2_ := (Option.bind_some _ _).symm.trans H; with_reducible exact H2_) | with_reducible exact H | (rw [hy113]; exact H) | exact H
                      have Ny113 := Zs.mk hy113
                      clear hy113
                      obtain ⟨y114, hy114⟩ : ∃ y_ : List Int, y_ = (y113.set ((ji37) : Int).toNat (rd x0_3 x9_3)) := ⟨_, rfl⟩
                      replace H : (qspisou6.l2 k3 y114 a1 a2 x7_4 x8_1 ji37) = some (r1, r2) := by first | (rw [hy114]; with_reducible exact H) | (have H2_ := (Option.bind_some _ _).symm.trans H; rw [hy114]; with_reducible exact H2_) | (have H2_ := (Option.bind_some _ _).symm.trans H; with_reducible exact H2_) | with_reducible exact H | (rw [hy114]; exact H) | exact H
                      have Ny114 := Zs.mk hy114
                      clear hy114
                      have H' := Zs.mk H
                      clear H
                      try go_wp2
                      have n0_ := Zs.mk (Kd.R_drew HO_0.out)
                      have n1_ := Zs.mk (Kept.drew HK.out)
                      have n2_ := Zs.mk (zC HB.out)
                      clear HO_0
                      clear HK
                      clear HB
                      have HO_0 := n0_
                      have HK := n1_
                      have HB := n2_
                      clear n0_ n1_ n2_
                      have p108 : 0 ≤ (x9_3 : Int) := of_decide_eq_true (by first | (with_reducible assumption) | assumption)
                      have q108 : x9_3 < (x0_3.length : Int) := of_decide_eq_true (by first | (with_reducible assumption) | assumption)
                      obtain ⟨ad108, e108, hx108_0⟩ := Kd.at_int (Kd.R_reads' HO_0.out).2.2 x9_3 p108 q108
                      obtain rfl : (⟨go26, 0, none⟩ : Addr) = ad108 := (by injection e108)
                      (first | simp only [add_plain] at hx108_0 | simp only [add_at] at hx108_0 | simp only [Addr.add, Nat.zero_add] at hx108_0 | skip)
                      replace p108 := eq_true p108
                      replace q108 := eq_true q108
                      have p109 : 0 ≤ ((ji37) : Int) := of_decide_eq_true (by first | (with_reducible assumption) | assumption)
                      have q109 : (ji37) < (x0_3.length : Int) := of_decide_eq_true (by first | (with_reducible assumption) | assumption)
                      obtain ⟨ad109, e109, hx109_0⟩ := Kd.at_int (Kd.R_reads' HO_0.out).2.2 (ji37) p109 q109
                      obtain rfl : (⟨go26, 0, none⟩ : Addr) = ad109 := (by injection e109)
                      (first | simp only [add_plain] at hx109_0 | simp only [add_at] at hx109_0 | simp only [Addr.add, Nat.zero_add] at hx109_0 | skip)
                      replace p109 := eq_true p109
                      replace q109 := eq_true q109
                      refine start_ (n := 11) (S := fun w' => w'.cell? ⟨go26, (x9_3).toNat, none⟩ = some (.int .u64 (rd x0_3 x9_3)) ∧ w'.cell? ⟨go26, ((ji37)).toNat, none⟩ = some (.int .u64 (rd x0_3 (ji37)))) (ds := []) (ba 11 0) (by kernel_rfl) rfl rfl ⟨hx108_0, hx109_0⟩ (fun hHeld => ?_); refine zT qspisou6.tab16 qspisou6.bits16 (fun HT_ HW_ => ?_)
                      generalize wr.drew = w44 at HO_0 HK HB hx108_0 hx109_0 hHeld ⊢
                      refine' pu 0 (some 68) (ba 11 1) HT_ rfl rfl (by kernel_rfl) (fun _ _ _ => id) ?_ ?_ ?_ <| pu 1 (some 69) (ba 11 3) HT_ rfl rfl (by kernel_rfl) (fun _ _ _ => id) ?_ ?_ ?_ <| pu 2 (some 70) (ba 11 7) HT_ rfl rfl (by kernel_rfl) (fun _ _ _ => id) ?_ ?_ ?_ <| pu 4 (some 72) (ba 11 23) HT_ rfl rfl (by kernel_rfl) (fun _ _ _ => id) ?_ ?_ ?_ <| pu 5 (some 73) (ba 11 55) HT_ rfl rfl (by kernel_rfl) (fun _ _ _ => id) ?_ ?_ ?_ <| pu 6 (some 74) (ba 11 119) HT_ rfl rfl (by kernel_rfl) (fun _ _ _ => id) ?_ ?_ ?_ <| pu 7 (some 75) (ba 11 247) HT_ rfl rfl (by kernel_rfl) (fun _ _ _ => id) ?_ ?_ ?_ <| ta 3 (some 71) (ba 11 255) HT_ HW_ rfl rfl (by kernel_rfl) (fun _ _ _ => id) ?_ ?_ hHeld ?_ <| ta 8 (some 76) (ba 11 511) HT_ HW_ rfl rfl (by kernel_rfl) (fun _ _ _ => id) ?_ ?_ hHeld ?_ <| ?_
                      any_goals (first | (show Region.wanted _ _ = _; rfl) | (rintro w' ⟨s0, s1⟩; go_simp; with_reducible rfl) | (intro w'; go_simp; with_reducible rfl) | (simp only [Act.put, List.setIfInBounds_toArray, List.set_cons_zero, List.set_cons_succ, i64_w, i32_w]; rfl))
                      refine one_ (i := 9) (N := some 77) (ba 11 1023) rfl rfl (one_of HT_.out (by kernel_rfl)) (by decide) (fun K hK => ?_)
                      refine goes_ Tryd.func95 (by kernel_rfl) rfl #[.int .u64 (rd x0_3 x9_3), .int .u64 (rd x0_3 (ji37))] (by rfl) rfl rfl (by (try simp only [List.map_toArray, List.map_cons, List.map_nil]); first | done | (simp only [hji37]; rfl) | rfl | (simp only [List.length_drop, List.length_take]; rfl)) ?_
                      with_reducible refine (qclu6.calls (rd x0_3 x9_3) (rd x0_3 (ji37)) true _ A40.out).mono ?_
                      rintro e w' ⟨rfl, ⟨nd, rfl⟩⟩
                      refine ⟨_, rfl, ?_⟩
                      refine hK.out _ _ ⟨hHeld.1, hHeld.2⟩ (fun hHeld => ?_)
                      clear hK K
                      refine norm_ (a' := ?_) ?_ ?_
                      rotate_left
                      ·show Act.put _ (some 77) _ = _
                       simp only [Act.put, List.setIfInBounds_toArray, List.set_cons_zero, List.set_cons_succ, i64_w, i32_w]
                       rfl
                      refine' pu 10 (some 78) (ba 11 2047) HT_ rfl rfl (by kernel_rfl) (fun _ _ _ => id) ?_ ?_ ?_ <| ?_
                      any_goals (first | (show Region.wanted _ _ = _; rfl) | (intro w'; go_simp; with_reducible rfl) | (simp only [Act.put, List.setIfInBounds_toArray, List.set_cons_zero, List.set_cons_succ, i64_w, i32_w]; rfl))
                      refine done_ (done_of HT_.out (by kernel_rfl)) ?_
                      try go_wp2
                      (try (rw [drewN_self w44]; generalize hq_ : World.drewN w44 _ = w44; have n0_ : Zs (Kd.R (Kd.int .u64) 33 w44 w0.heap.size (fun k_ => (P0_ k_ ∨ w.heap.size ≤ k_)) (.slice (some ⟨go26, 0, none⟩) x0_3.length co30) x0_3) := ⟨by rw [← hq_]; exact (by (with_reducible repeat (first | apply Kd.R_alloc | apply Kd.R_drewN | apply Kd.R_drew)); exact HO_0.out)⟩; have n1_ : Zs (Kept w w44 (fun k_ => P0_ k_)) := ⟨by rw [← hq_]; exact (by repeat (first | (with_reducible first | exact HK.out | apply Kept.alloc | apply Kept.drewN | apply Kept.drew) | exact HK.out))⟩; have n2_ : Zs (Below w0.heap.size w0 w44) := ⟨by rw [← hq_]; exact (by repeat (first | (with_reducible first | exact HB.out | apply zA | apply zB | apply zC) | exact HB.out))⟩; clear HO_0 HK HB hq_; have HO_0 := n0_; have HK := n1_; have HB := n2_; clear n0_ n1_ n2_))
                      have n0_ := Zs.mk (Kd.R_drew HO_0.out)
                      have n1_ := Zs.mk (Kept.drew HK.out)
                      have n2_ := Zs.mk (zC HB.out)
                      clear HO_0
                      clear HK
                      clear HB
                      have HO_0 := n0_
                      have HK := n1_
                      have HB := n2_
                      clear n0_ n1_ n2_
                      have p111 : 0 ≤ ((ji37) : Int) := of_decide_eq_true (by first | (with_reducible assumption) | assumption)
                      have q111 : (ji37) < (x0_3.length : Int) := of_decide_eq_true (by first | (with_reducible assumption) | assumption)
                      obtain ⟨ad111, e111, hx111_0⟩ := Kd.at_int (Kd.R_reads' HO_0.out).2.2 (ji37) p111 q111
                      obtain rfl : (⟨go26, 0, none⟩ : Addr) = ad111 := (by injection e111)
                      (first | simp only [add_plain] at hx111_0 | simp only [add_at] at hx111_0 | simp only [Addr.add, Nat.zero_add] at hx111_0 | skip)
                      replace p111 := eq_true p111
                      replace q111 := eq_true q111
                      have p112 : 0 ≤ (x9_3 : Int) := of_decide_eq_true (by first | (with_reducible assumption) | assumption)
                      have q112 : x9_3 < (x0_3.length : Int) := of_decide_eq_true (by first | (with_reducible assumption) | assumption)
                      obtain ⟨ad112, e112, hx112_0⟩ := Kd.at_int (Kd.R_reads' HO_0.out).2.2 x9_3 p112 q112
                      obtain rfl : (⟨go26, 0, none⟩ : Addr) = ad112 := (by injection e112)
                      (first | simp only [add_plain] at hx112_0 | simp only [add_at] at hx112_0 | simp only [Addr.add, Nat.zero_add] at hx112_0 | skip)
                      replace p112 := eq_true p112
                      replace q112 := eq_true q112
                      have p42 : 0 ≤ (x9_3 : Int) := of_decide_eq_true (by first | (with_reducible assumption) | assumption)
                      have q42 : (x9_3 : Int) < ((x0_3.length : Int) : Int) := of_decide_eq_true (by first | (with_reducible assumption) | assumption)
                      obtain ⟨hx42_0, hf42_0⟩ := Kd.R_celln 0 HO_0.out (x9_3 : Int) p42 q42
                      replace p42 := eq_true p42
                      replace q42 := eq_true q42
                      have HP46 := Kd.R_putn HO_0.out (x9_3 : Int) (rd x0_3 (ji37))
                      rw [← Ny113.out] at HP46
                      have HQ46 := Zs.mk HP46
                      clear HP46
                      have p43 : 0 ≤ ((ji37) : Int) := of_decide_eq_true (by first | (with_reducible assumption) | assumption)
                      have q43 : ((ji37) : Int) < ((x0_3.length : Int) : Int) := of_decide_eq_true (by first | (with_reducible assumption) | assumption)
                      obtain ⟨hx43_0, hf43_0⟩ := Kd.R_celln 0 HQ46.out ((ji37) : Int) p43 q43
                      replace p43 := eq_true p43
                      replace q43 := eq_true q43
                      have HP47 := Kd.R_putn HQ46.out ((ji37) : Int) (rd x0_3 x9_3)
                      rw [← Ny114.out] at HP47
                      have HQ47 := Zs.mk HP47
                      clear HP47
                      refine start_ (n := 18) (S := fun w' => w'.cell? ⟨go26, ((ji37)).toNat, none⟩ = some (.int .u64 (rd x0_3 (ji37))) ∧ w'.cell? ⟨go26, (x9_3).toNat, none⟩ = some (.int .u64 (rd x0_3 x9_3))) (ds := [15, 17]) (ba 18 0) (by kernel_rfl) rfl rfl ⟨hx111_0, hx112_0⟩ (fun hHeld => ?_); refine zT qspisou6.tab17 qspisou6.bits17 (fun HT_ HW_ => ?_)
                      generalize w44.drew = w45 at HO_0 HK HB HQ46 HQ47 hf42_0 hf43_0 hx111_0 hx112_0 hx42_0 hx43_0 hHeld ⊢
                      refine' pu 0 (some 79) (ba 18 1) HT_ rfl rfl (by kernel_rfl) (fun _ _ _ => id) ?_ ?_ ?_ <| pu 1 (some 80) (ba 18 3) HT_ rfl rfl (by kernel_rfl) (fun _ _ _ => id) ?_ ?_ ?_ <| pu 2 (some 81) (ba 18 7) HT_ rfl rfl (by kernel_rfl) (fun _ _ _ => id) ?_ ?_ ?_ <| pu 3 (some 82) (ba 18 15) HT_ rfl rfl (by kernel_rfl) (fun _ _ _ => id) ?_ ?_ ?_ <| pu 4 (some 83) (ba 18 31) HT_ rfl rfl (by kernel_rfl) (fun _ _ _ => id) ?_ ?_ ?_ <| pu 5 (some 84) (ba 18 63) HT_ rfl rfl (by kernel_rfl) (fun _ _ _ => id) ?_ ?_ ?_ <| pu 6 (some 85) (ba 18 127) HT_ rfl rfl (by kernel_rfl) (fun _ _ _ => id) ?_ ?_ ?_ <| pu 7 (some 86) (ba 18 255) HT_ rfl rfl (by kernel_rfl) (fun _ _ _ => id) ?_ ?_ ?_ <| pu 8 (some 87) (ba 18 511) HT_ rfl rfl (by kernel_rfl) (fun _ _ _ => id) ?_ ?_ ?_ <| pu 10 (some 89) (ba 18 1535) HT_ rfl rfl (by kernel_rfl) (fun _ _ _ => id) ?_ ?_ ?_ <| pu 11 (some 90) (ba 18 3583) HT_ rfl rfl (by kernel_rfl) (fun _ _ _ => id) ?_ ?_ ?_ <| pu 12 (some 91) (ba 18 7679) HT_ rfl rfl (by kernel_rfl) (fun _ _ _ => id) ?_ ?_ ?_ <| ta 9 (some 88) (ba 18 8191) HT_ HW_ rfl rfl (by kernel_rfl) (fun _ _ _ => id) ?_ ?_ hHeld ?_ <| ta 13 (some 92) (ba 18 16383) HT_ HW_ rfl rfl (by kernel_rfl) (fun _ _ _ => id) ?_ ?_ hHeld ?_ <| pu 14 (some 93) (ba 18 32767) HT_ rfl rfl (by kernel_rfl) (fun _ _ _ => id) ?_ ?_ ?_ <| ?_
                      any_goals (first | (show Region.wanted _ _ = _; rfl) | (rintro w' ⟨s0, s1⟩; go_simp; with_reducible rfl) | (intro w'; go_simp; with_reducible rfl) | (simp only [Act.put, List.setIfInBounds_toArray, List.set_cons_zero, List.set_cons_succ, i64_w, i32_w]; rfl))
                      refine last_ (i := 15) (N := none) (ba 18 65535) rfl rfl (one_of HT_.out (by kernel_rfl)) (by decide) (fun K hK => ?_)
                      refine skip_ (w1 := ?_) (by rfl) rfl ?_ ?_
                      rotate_left
                      ·go_simp
                       rfl
                      refine hK.out _ _ ?_
                      clear hK K
                      refine' pu 16 (some 94) (ba 18 131071) HT_ rfl rfl (by kernel_rfl) (fun _ _ _ => id) ?_ ?_ ?_ <| ?_
                      any_goals (first | (show Region.wanted _ _ = _; rfl) | (intro w'; go_simp; with_reducible rfl) | (simp only [Act.put, List.setIfInBounds_toArray, List.set_cons_zero, List.set_cons_succ, i64_w, i32_w]; rfl))
                      refine last_ (i := 17) (N := none) (ba 18 262143) rfl rfl (one_of HT_.out (by kernel_rfl)) (by decide) (fun K hK => ?_)
                      refine skip_ (w1 := ?_) (by rfl) rfl ?_ ?_
                      rotate_left
                      ·go_simp
                       rfl
                      refine hK.out _ _ ?_
                      clear hK K
                      refine done_ (done_of HT_.out (by kernel_rfl)) ?_
                      try go_wp2
                      (try simp only [← hl0_3])
                      go_roundg k3
                      case measure => have := HK1.out; have := HJ4.out; have := HK3.out; omega
                      case rel => exact ⟨(y114), (ji37), (by first | rfl | (simp; done) | (simp only [← hji37] <;> (first | rfl | simp)) | (simp [*]; done)), H', ⟨by have := HK1.out; have := HJ4.out; have := HK3.out; omega⟩, ⟨by (try simp only [hl0_3]); (with_reducible repeat (first | apply Kd.R_alloc | apply Kd.R_drewN | apply Kd.R_drew)); exact HQ47.out⟩, ⟨by repeat (first | (with_reducible first | exact HK.out | apply Kept.alloc | apply Kept.drewN | apply Kept.drew | refine Kept.setCell ?_ HMgo26.out _ | refine Kept.setCell ?_ HMgo26.out _) | exact HK.out)⟩, ⟨by repeat (first | (with_reducible first | exact HB.out | apply zA | apply zB | apply zC | refine below_set ?_ GB26.out | refine below_set ?_ GB26.out) | exact HB.out)⟩⟩
                     ·replace c41 := Bool.eq_false_iff.mpr c41
                      subst c41
                      have H1 : (qspisou6.j4 k3 x0_3 a1 a2 x7_4 x8_1) = some (r1, r2) := by rw [if_neg (show ¬ (false = true) by decide)] at H; exact H
                      clear H
                      have H := H1
                      clear H1
                      have H' := Zs.mk H
                      clear H
                      try go_wp2
                      have n0_ := Zs.mk (Kd.R_drew HO_0.out)
                      have n1_ := Zs.mk (Kept.drew HK.out)
                      have n2_ := Zs.mk (zC HB.out)
                      clear HO_0
                      clear HK
                      clear HB
                      have HO_0 := n0_
                      have HK := n1_
                      have HB := n2_
                      clear n0_ n1_ n2_
                      have p108 : 0 ≤ (x9_3 : Int) := of_decide_eq_true (by first | (with_reducible assumption) | assumption)
                      have q108 : x9_3 < (x0_3.length : Int) := of_decide_eq_true (by first | (with_reducible assumption) | assumption)
                      obtain ⟨ad108, e108, hx108_0⟩ := Kd.at_int (Kd.R_reads' HO_0.out).2.2 x9_3 p108 q108
                      obtain rfl : (⟨go26, 0, none⟩ : Addr) = ad108 := (by injection e108)
                      (first | simp only [add_plain] at hx108_0 | simp only [add_at] at hx108_0 | simp only [Addr.add, Nat.zero_add] at hx108_0 | skip)
                      replace p108 := eq_true p108
                      replace q108 := eq_true q108
                      have p109 : 0 ≤ ((ji37) : Int) := of_decide_eq_true (by first | (with_reducible assumption) | assumption)
                      have q109 : (ji37) < (x0_3.length : Int) := of_decide_eq_true (by first | (with_reducible assumption) | assumption)
                      obtain ⟨ad109, e109, hx109_0⟩ := Kd.at_int (Kd.R_reads' HO_0.out).2.2 (ji37) p109 q109
                      obtain rfl : (⟨go26, 0, none⟩ : Addr) = ad109 := (by injection e109)
                      (first | simp only [add_plain] at hx109_0 | simp only [add_at] at hx109_0 | simp only [Addr.add, Nat.zero_add] at hx109_0 | skip)
                      replace p109 := eq_true p109
                      replace q109 := eq_true q109
                      refine start_ (n := 11) (S := fun w' => w'.cell? ⟨go26, (x9_3).toNat, none⟩ = some (.int .u64 (rd x0_3 x9_3)) ∧ w'.cell? ⟨go26, ((ji37)).toNat, none⟩ = some (.int .u64 (rd x0_3 (ji37)))) (ds := []) (ba 11 0) (by kernel_rfl) rfl rfl ⟨hx108_0, hx109_0⟩ (fun hHeld => ?_); refine zT qspisou6.tab16 qspisou6.bits16 (fun HT_ HW_ => ?_)
                      generalize wr.drew = w48 at HO_0 HK HB hx108_0 hx109_0 hHeld ⊢
                      refine' pu 0 (some 68) (ba 11 1) HT_ rfl rfl (by kernel_rfl) (fun _ _ _ => id) ?_ ?_ ?_ <| pu 1 (some 69) (ba 11 3) HT_ rfl rfl (by kernel_rfl) (fun _ _ _ => id) ?_ ?_ ?_ <| pu 2 (some 70) (ba 11 7) HT_ rfl rfl (by kernel_rfl) (fun _ _ _ => id) ?_ ?_ ?_ <| pu 4 (some 72) (ba 11 23) HT_ rfl rfl (by kernel_rfl) (fun _ _ _ => id) ?_ ?_ ?_ <| pu 5 (some 73) (ba 11 55) HT_ rfl rfl (by kernel_rfl) (fun _ _ _ => id) ?_ ?_ ?_ <| pu 6 (some 74) (ba 11 119) HT_ rfl rfl (by kernel_rfl) (fun _ _ _ => id) ?_ ?_ ?_ <| pu 7 (some 75) (ba 11 247) HT_ rfl rfl (by kernel_rfl) (fun _ _ _ => id) ?_ ?_ ?_ <| ta 3 (some 71) (ba 11 255) HT_ HW_ rfl rfl (by kernel_rfl) (fun _ _ _ => id) ?_ ?_ hHeld ?_ <| ta 8 (some 76) (ba 11 511) HT_ HW_ rfl rfl (by kernel_rfl) (fun _ _ _ => id) ?_ ?_ hHeld ?_ <| ?_
                      any_goals (first | (show Region.wanted _ _ = _; rfl) | (rintro w' ⟨s0, s1⟩; go_simp; with_reducible rfl) | (intro w'; go_simp; with_reducible rfl) | (simp only [Act.put, List.setIfInBounds_toArray, List.set_cons_zero, List.set_cons_succ, i64_w, i32_w]; rfl))
                      refine one_ (i := 9) (N := some 77) (ba 11 1023) rfl rfl (one_of HT_.out (by kernel_rfl)) (by decide) (fun K hK => ?_)
                      refine goes_ Tryd.func95 (by kernel_rfl) rfl #[.int .u64 (rd x0_3 x9_3), .int .u64 (rd x0_3 (ji37))] (by rfl) rfl rfl (by (try simp only [List.map_toArray, List.map_cons, List.map_nil]); first | done | (simp only [hji37]; rfl) | rfl | (simp only [List.length_drop, List.length_take]; rfl)) ?_
                      with_reducible refine (qclu6.calls (rd x0_3 x9_3) (rd x0_3 (ji37)) false _ A40.out).mono ?_
                      rintro e w' ⟨rfl, ⟨nd, rfl⟩⟩
                      refine ⟨_, rfl, ?_⟩
                      refine hK.out _ _ ⟨hHeld.1, hHeld.2⟩ (fun hHeld => ?_)
                      clear hK K
                      refine norm_ (a' := ?_) ?_ ?_
                      rotate_left
                      ·show Act.put _ (some 77) _ = _
                       simp only [Act.put, List.setIfInBounds_toArray, List.set_cons_zero, List.set_cons_succ, i64_w, i32_w]
                       rfl
                      refine' pu 10 (some 78) (ba 11 2047) HT_ rfl rfl (by kernel_rfl) (fun _ _ _ => id) ?_ ?_ ?_ <| ?_
                      any_goals (first | (show Region.wanted _ _ = _; rfl) | (intro w'; go_simp; with_reducible rfl) | (simp only [Act.put, List.setIfInBounds_toArray, List.set_cons_zero, List.set_cons_succ, i64_w, i32_w]; rfl))
                      refine done_ (done_of HT_.out (by kernel_rfl)) ?_
                      try go_wp2
                      (try simp only [← hl0_3])
                      go_meet
                      case rel => exact ⟨_, (x0_3), H', ⟨by have := HK1.out; have := HJ4.out; have := HK3.out; first | omega | exact Nat.le_refl _⟩, ⟨by (try simp only [hl0_3]); (with_reducible repeat (first | apply Kd.R_alloc | apply Kd.R_drewN | apply Kd.R_drew)); exact HO_0.out⟩, ⟨by repeat (first | (with_reducible first | exact HK.out | apply Kept.alloc | apply Kept.drewN | apply Kept.drew) | exact HK.out)⟩, ⟨by repeat (first | (with_reducible first | exact HB.out | apply zA | apply zB | apply zC) | exact HB.out)⟩⟩
                    ·rw [if_neg c39] at H
                     exact absurd H (by simp)
                   ·rw [if_neg c38] at H
                    exact absurd H (by simp)
                  ·rw [if_neg c36] at H
                   exact absurd H (by simp)
                 ·rw [if_neg c35] at H
                  exact absurd H (by simp)
                ·rw [if_neg c34] at H
                 have c34b0 : decide (1 ≤ x9_3) = false := decide_eq_false c34
                 clear c34
                 have H' := Zs.mk H
                 clear H
                 go_wp2
                 (try simp only [← hl0_3])
                 go_meet
                 case rel => exact ⟨_, (x0_3), H', ⟨by have := HK1.out; have := HJ4.out; have := HK3.out; first | omega | exact Nat.le_refl _⟩, ⟨by (try simp only [hl0_3]); (with_reducible repeat (first | apply Kd.R_alloc | apply Kd.R_drewN | apply Kd.R_drew)); exact HO_0.out⟩, ⟨by repeat (first | (with_reducible first | exact HK.out | apply Kept.alloc | apply Kept.drewN | apply Kept.drew) | exact HK.out)⟩, ⟨by repeat (first | (with_reducible first | exact HB.out | apply zA | apply zB | apply zC) | exact HB.out)⟩⟩
             ·rw [if_neg c33] at H
              have c33b0 : decide (2 ≤ (wrap64 (x7_4 - a1))) = false := decide_eq_false c33
              clear c33
              (first | rw [c33b0] | (simp only [i64_w, i32_w]; rw [c33b0]) | skip)
              have H' := Zs.mk H
              clear H
              go_wp2
              go_meet
              case rel => exact ⟨_, (y107), H', ⟨by have := HK1.out; have := HJ4.out; first | omega | exact Nat.le_refl _⟩, ⟨by (with_reducible repeat (first | apply Kd.R_alloc | apply Kd.R_drewN | apply Kd.R_drew)); exact HQ32.out⟩, ⟨by repeat (first | (with_reducible first | exact HK.out | apply Kept.alloc | apply Kept.drewN | apply Kept.drew | refine Kept.setCell ?_ HMgo26.out _ | refine Kept.setCell ?_ HMgo26.out _) | exact HK.out)⟩, ⟨by repeat (first | (with_reducible first | exact HB.out | apply zA | apply zB | apply zC | refine below_set ?_ GB26.out | refine below_set ?_ GB26.out) | exact HB.out)⟩⟩
            case rest =>
             clear HC28
             try clear c4; try clear c4b0; try clear c6; try clear c6b0; try clear c7; try clear c7b0; try clear c8; try clear c8b0; try clear c10; try clear c10b0; try clear c11; try clear c11b0; try clear c13; try clear c19; try clear c19b0; try clear c19b1; try clear c20; try clear c20b0; try clear c22; try clear c22b0; try clear c23; try clear c23b0; try clear c24; try clear c24b0; try clear c25; try clear c25b0; try clear p26; try clear q26; try clear p27; try clear q27; try clear c33; try clear c33b0; try clear c34; try clear c34b0; try clear c35; try clear c35b0; try clear c36; try clear c36b0; try clear c38; try clear c38b0; try clear c39; try clear c39b0; try clear c41; try clear p42; try clear q42; try clear p43; try clear q43; try clear hx101_0; try clear hx102_0; try clear hx104_0; try clear hx105_0; try clear hx108_0; try clear hx109_0; try clear hx111_0; try clear hx112_0; try clear hx26_0; try clear hx27_0; try clear hx42_0; try clear hx43_0; try clear p101; try clear p102; try clear p104; try clear p105; try clear p108; try clear p109; try clear p111; try clear p112; try clear p26; try clear p27; try clear p42; try clear p43; try clear q101; try clear q102; try clear q104; try clear q105; try clear q108; try clear q109; try clear q111; try clear q112; try clear q26; try clear q27; try clear q42; try clear q43
             obtain ⟨kq, x0_27, HA, HJ27, HO_0, HK, HB⟩ := hcut
             have hl0_27 := (Kd.R_reads' HO_0.out).1
             rw [hl0_27] at HO_0
             (try simp only [hl0_27])
             cases kq with
             | zero => exact absurd HA.out (by simp [qspisou6.j4])
             | succ kj27 =>
              have H := HA.out
              clear HA
              simp only [qspisou6.j4] at H
              by_cases c49 : (wrap64 (a2 - x7_4)) ≥ 2
              ·rw [if_pos c49] at H
               have c49b0 : decide (2 ≤ (wrap64 (a2 - x7_4))) = true := decide_eq_true c49
               clear c49
               have H' := Zs.mk H
               clear H
               go_wp2
               go_loopg [10] kj27 (fun kq v10 w' => ∃ (x0_4 : List Int) (x10_4 : Int), v10 = .int .i64 x10_4 ∧ Zs (qspisou6.l3 kq x0_4 a1 a2 x7_4 x8_1 x10_4 = some (r1, r2)) ∧ Zs (kq ≤ kj27) ∧ Zs (Kd.R (Kd.int .u64) 33 w' w0.heap.size (fun k_ => (P0_ k_ ∨ w.heap.size ≤ k_)) (.slice (some ⟨go26, 0, none⟩) x0_27.length co30) x0_4) ∧ Zs (Kept w w' (fun k_ => P0_ k_)) ∧ Zs (Below w0.heap.size w0 w'))
               case atStart => exact ⟨(x0_27), (wrap64 (x7_4 + 1)), (by first | rfl | (simp; done) | (simp [*]; done)), H', ⟨Nat.le_refl _⟩, ⟨by (try simp only [hl0_27]); (with_reducible repeat (first | apply Kd.R_alloc | apply Kd.R_drewN | apply Kd.R_drew)); exact HO_0.out⟩, ⟨by repeat (first | (with_reducible first | exact HK.out | apply Kept.alloc | apply Kept.drewN | apply Kept.drew) | exact HK.out)⟩, ⟨by repeat (first | (with_reducible first | exact HB.out | apply zA | apply zB | apply zC) | exact HB.out)⟩⟩
               case round =>
                clear H'
                try clear c4; try clear c4b0; try clear c6; try clear c6b0; try clear c7; try clear c7b0; try clear c8; try clear c8b0; try clear c10; try clear c10b0; try clear c11; try clear c11b0; try clear c13; try clear c19; try clear c19b0; try clear c19b1; try clear c20; try clear c20b0; try clear c22; try clear c22b0; try clear c23; try clear c23b0; try clear c24; try clear c24b0; try clear c25; try clear c25b0; try clear p26; try clear q26; try clear p27; try clear q27; try clear c33; try clear c33b0; try clear c34; try clear c34b0; try clear c35; try clear c35b0; try clear c36; try clear c36b0; try clear c38; try clear c38b0; try clear c39; try clear c39b0; try clear c41; try clear p42; try clear q42; try clear p43; try clear q43; try clear c49; try clear c49b0; try clear hx101_0; try clear hx102_0; try clear hx104_0; try clear hx105_0; try clear hx108_0; try clear hx109_0; try clear hx111_0; try clear hx112_0; try clear hx26_0; try clear hx27_0; try clear hx42_0; try clear hx43_0; try clear p101; try clear p102; try clear p104; try clear p105; try clear p108; try clear p109; try clear p111; try clear p112; try clear p26; try clear p27; try clear p42; try clear p43; try clear q101; try clear q102; try clear q104; try clear q105; try clear q108; try clear q109; try clear q111; try clear q112; try clear q26; try clear q27; try clear q42; try clear q43
                obtain ⟨x0_4, x10_4, rfl, HA, HK4, HO_0, HK, HB⟩ := hrel
                have hl0_4 := (Kd.R_reads' HO_0.out).1
                rw [hl0_4] at HO_0
                (try simp only [hl0_4])
                cases gk with
                | zero => exact absurd HA.out (by simp [qspisou6.l3])
                | succ k4 =>
                 have H := HA.out
                 clear HA
                 simp only [qspisou6.l3] at H
                 by_cases c50 : x10_4 < a2
                 ·rw [if_pos c50] at H
                  have c50b0 : decide (x10_4 < a2) = true := decide_eq_true c50
                  clear c50
                  by_cases c51 : 0 ≤ x10_4
                  ·rw [if_pos c51] at H
                   have c51b0 : decide (0 ≤ x10_4) = true := decide_eq_true c51
                   clear c51
                   by_cases c52 : x10_4 < (x0_4.length : Int)
                   ·rw [if_pos c52] at H
                    have c52b0 : decide (x10_4 < (x0_4.length : Int)) = true := decide_eq_true c52
                    clear c52
                    obtain ⟨ji53, hji53⟩ : ∃ j_ : Int, (wrap64 (x10_4 - 1)) = j_ := ⟨_, rfl⟩
                    replace H : (if 0 ≤ (ji53) then (if (ji53) < (x0_4.length : Int) then ((qclu6.f (rd x0_4 x10_4) (rd x0_4 (ji53))).bind fun t117 => (if t117 = true then (qspisou6.l3 k4 ((x0_4.set (x10_4 : Int).toNat (rd x0_4 (ji53))).set ((ji53) : Int).toNat (rd x0_4 x10_4)) a1 a2 x7_4 x8_1 (wrap64 (x10_4 + 1))) else (qspisou6.l0 k4 x0_4 a1 a2 x7_4 (wrap64 (x8_1 + 1))))) else (none)) else (none)) = some (r1, r2) := by first | (rw [hji53] at H; exact H) | (simp only [hji53] at H ⊢; exact H)
                    have hji53w : (IntKind.i64.wrap (x10_4 - 1)) = ji53 := (i64_w _).trans hji53
                    by_cases c54 : 0 ≤ (ji53)
                    ·rw [if_pos c54] at H
                     have c54b0 : decide (0 ≤ (ji53)) = true := decide_eq_true c54
                     clear c54
                     by_cases c55 : (ji53) < (x0_4.length : Int)
                     ·rw [if_pos c55] at H
                      have c55b0 : decide ((ji53) < (x0_4.length : Int)) = true := decide_eq_true c55
                      clear c55
                      replace H := Option.bind_eq_some_iff.mp H
                      obtain ⟨t117, A560, H⟩ := H
                      replace H : (if t117 = true then (qspisou6.l3 k4 ((x0_4.set (x10_4 : Int).toNat (rd x0_4 (ji53))).set ((ji53) : Int).toNat (rd x0_4 x10_4)) a1 a2 x7_4 x8_1 (wrap64 (x10_4 + 1))) else (qspisou6.l0 k4 x0_4 a1 a2 x7_4 (wrap64 (x8_1 + 1)))) = some (r1, r2) := H
                      have A56 := Zs.mk A560
                      clear A560
                      by_cases c57 : t117 = true
                      ·subst c57
                       have H1 : (qspisou6.l3 k4 ((x0_4.set (x10_4 : Int).toNat (rd x0_4 (ji53))).set ((ji53) : Int).toNat (rd x0_4 x10_4)) a1 a2 x7_4 x8_1 (wrap64 (x10_4 + 1))) = some (r1, r2) := by rw [if_pos rfl] at H; exact H
                       clear H
                       have H := H1
                       clear H1
                       obtain ⟨y120, hy120⟩ : ∃ y_ : List Int, y_ = (x0_4.set (x10_4 : Int).toNat (rd x0_4 (ji53))) := ⟨_, rfl⟩
                       replace H : (qspisou6.l3 k4 (y120.set ((ji53) : Int).toNat (rd x0_4 x10_4)) a1 a2 x7_4 x8_1 (wrap64 (x10_4 + 1))) = some (r1, r2) := by first | (rw [hy120]; with_reducible exact H) | (have H2_ := (Option.bind_some _ _).symm.trans H; rw [hy120]; with_reducible exact H2_) | (have H2_ := (Option.bind_some _ _).symm.trans H; with_reducible exact H2_) | with_reducible exact H | (rw [hy120]; exact H) | exact H
                       have Ny120 := Zs.mk hy120
                       clear hy120
                       obtain ⟨y121, hy121⟩ : ∃ y_ : List Int, y_ = (y120.set ((ji53) : Int).toNat (rd x0_4 x10_4)) := ⟨_, rfl⟩
                       replace H : (qspisou6.l3 k4 y121 a1 a2 x7_4 x8_1 (wrap64 (x10_4 + 1))) = some (r1, r2) := by first | (rw [hy121]; with_reducible exact H) | (have H2_ := (Option.bind_some _ _).symm.trans H; rw [hy121]; with_reducible exact H2_) | (have H2_ := (Option.bind_some _ _).symm.trans H; with_reducible exact H2_) | with_reducible exact H | (rw [hy121]; exact H) | exact H
                       have Ny121 := Zs.mk hy121
                       clear hy121
                       have H' := Zs.mk H
                       clear H
                       try go_wp2
                       have n0_ := Zs.mk (Kd.R_drew HO_0.out)
                       have n1_ := Zs.mk (Kept.drew HK.out)
                       have n2_ := Zs.mk (zC HB.out)
                       clear HO_0
                       clear HK
                       clear HB
                       have HO_0 := n0_
                       have HK := n1_
                       have HB := n2_
                       clear n0_ n1_ n2_
                       have p115 : 0 ≤ (x10_4 : Int) := of_decide_eq_true (by first | (with_reducible assumption) | assumption)
                       have q115 : x10_4 < (x0_4.length : Int) := of_decide_eq_true (by first | (with_reducible assumption) | assumption)
                       obtain ⟨ad115, e115, hx115_0⟩ := Kd.at_int (Kd.R_reads' HO_0.out).2.2 x10_4 p115 q115
                       obtain rfl : (⟨go26, 0, none⟩ : Addr) = ad115 := (by injection e115)
                       (first | simp only [add_plain] at hx115_0 | simp only [add_at] at hx115_0 | simp only [Addr.add, Nat.zero_add] at hx115_0 | skip)
                       replace p115 := eq_true p115
                       replace q115 := eq_true q115
                       have p116 : 0 ≤ ((ji53) : Int) := of_decide_eq_true (by first | (with_reducible assumption) | assumption)
                       have q116 : (ji53) < (x0_4.length : Int) := of_decide_eq_true (by first | (with_reducible assumption) | assumption)
                       obtain ⟨ad116, e116, hx116_0⟩ := Kd.at_int (Kd.R_reads' HO_0.out).2.2 (ji53) p116 q116
                       obtain rfl : (⟨go26, 0, none⟩ : Addr) = ad116 := (by injection e116)
                       (first | simp only [add_plain] at hx116_0 | simp only [add_at] at hx116_0 | simp only [Addr.add, Nat.zero_add] at hx116_0 | skip)
                       replace p116 := eq_true p116
                       replace q116 := eq_true q116
                       refine start_ (n := 11) (S := fun w' => w'.cell? ⟨go26, (x10_4).toNat, none⟩ = some (.int .u64 (rd x0_4 x10_4)) ∧ w'.cell? ⟨go26, ((ji53)).toNat, none⟩ = some (.int .u64 (rd x0_4 (ji53)))) (ds := []) (ba 11 0) (by kernel_rfl) rfl rfl ⟨hx115_0, hx116_0⟩ (fun hHeld => ?_); refine zT qspisou6.tab22 qspisou6.bits22 (fun HT_ HW_ => ?_)
                       generalize wr.drew = w60 at HO_0 HK HB hx115_0 hx116_0 hHeld ⊢
                       refine' pu 0 (some 106) (ba 11 1) HT_ rfl rfl (by kernel_rfl) (fun _ _ _ => id) ?_ ?_ ?_ <| pu 1 (some 107) (ba 11 3) HT_ rfl rfl (by kernel_rfl) (fun _ _ _ => id) ?_ ?_ ?_ <| pu 2 (some 108) (ba 11 7) HT_ rfl rfl (by kernel_rfl) (fun _ _ _ => id) ?_ ?_ ?_ <| pu 4 (some 110) (ba 11 23) HT_ rfl rfl (by kernel_rfl) (fun _ _ _ => id) ?_ ?_ ?_ <| pu 5 (some 111) (ba 11 55) HT_ rfl rfl (by kernel_rfl) (fun _ _ _ => id) ?_ ?_ ?_ <| pu 6 (some 112) (ba 11 119) HT_ rfl rfl (by kernel_rfl) (fun _ _ _ => id) ?_ ?_ ?_ <| pu 7 (some 113) (ba 11 247) HT_ rfl rfl (by kernel_rfl) (fun _ _ _ => id) ?_ ?_ ?_ <| ta 3 (some 109) (ba 11 255) HT_ HW_ rfl rfl (by kernel_rfl) (fun _ _ _ => id) ?_ ?_ hHeld ?_ <| ta 8 (some 114) (ba 11 511) HT_ HW_ rfl rfl (by kernel_rfl) (fun _ _ _ => id) ?_ ?_ hHeld ?_ <| ?_
                       any_goals (first | (show Region.wanted _ _ = _; rfl) | (rintro w' ⟨s0, s1⟩; go_simp; with_reducible rfl) | (intro w'; go_simp; with_reducible rfl) | (simp only [Act.put, List.setIfInBounds_toArray, List.set_cons_zero, List.set_cons_succ, i64_w, i32_w]; rfl))
                       refine one_ (i := 9) (N := some 115) (ba 11 1023) rfl rfl (one_of HT_.out (by kernel_rfl)) (by decide) (fun K hK => ?_)
                       refine goes_ Tryd.func95 (by kernel_rfl) rfl #[.int .u64 (rd x0_4 x10_4), .int .u64 (rd x0_4 (ji53))] (by rfl) rfl rfl (by (try simp only [List.map_toArray, List.map_cons, List.map_nil]); first | done | (simp only [hji53]; rfl) | rfl | (simp only [List.length_drop, List.length_take]; rfl)) ?_
                       with_reducible refine (qclu6.calls (rd x0_4 x10_4) (rd x0_4 (ji53)) true _ A56.out).mono ?_
                       rintro e w' ⟨rfl, ⟨nd, rfl⟩⟩
                       refine ⟨_, rfl, ?_⟩
                       refine hK.out _ _ ⟨hHeld.1, hHeld.2⟩ (fun hHeld => ?_)
                       clear hK K
                       refine norm_ (a' := ?_) ?_ ?_
                       rotate_left
                       ·show Act.put _ (some 115) _ = _
                        simp only [Act.put, List.setIfInBounds_toArray, List.set_cons_zero, List.set_cons_succ, i64_w, i32_w]
                        rfl
                       refine' pu 10 (some 116) (ba 11 2047) HT_ rfl rfl (by kernel_rfl) (fun _ _ _ => id) ?_ ?_ ?_ <| ?_
                       any_goals (first | (show Region.wanted _ _ = _; rfl) | (intro w'; go_simp; with_reducible rfl) | (simp only [Act.put, List.setIfInBounds_toArray, List.set_cons_zero, List.set_cons_succ, i64_w, i32_w]; rfl))
                       refine done_ (done_of HT_.out (by kernel_rfl)) ?_
                       try go_wp2
                       (try (rw [drewN_self w60]; generalize hq_ : World.drewN w60 _ = w60; have n0_ : Zs (Kd.R (Kd.int .u64) 33 w60 w0.heap.size (fun k_ => (P0_ k_ ∨ w.heap.size ≤ k_)) (.slice (some ⟨go26, 0, none⟩) x0_4.length co30) x0_4) := ⟨by rw [← hq_]; exact (by (with_reducible repeat (first | apply Kd.R_alloc | apply Kd.R_drewN | apply Kd.R_drew)); exact HO_0.out)⟩; have n1_ : Zs (Kept w w60 (fun k_ => P0_ k_)) := ⟨by rw [← hq_]; exact (by repeat (first | (with_reducible first | exact HK.out | apply Kept.alloc | apply Kept.drewN | apply Kept.drew) | exact HK.out))⟩; have n2_ : Zs (Below w0.heap.size w0 w60) := ⟨by rw [← hq_]; exact (by repeat (first | (with_reducible first | exact HB.out | apply zA | apply zB | apply zC) | exact HB.out))⟩; clear HO_0 HK HB hq_; have HO_0 := n0_; have HK := n1_; have HB := n2_; clear n0_ n1_ n2_))
                       have n0_ := Zs.mk (Kd.R_drew HO_0.out)
                       have n1_ := Zs.mk (Kept.drew HK.out)
                       have n2_ := Zs.mk (zC HB.out)
                       clear HO_0
                       clear HK
                       clear HB
                       have HO_0 := n0_
                       have HK := n1_
                       have HB := n2_
                       clear n0_ n1_ n2_
                       have p118 : 0 ≤ ((ji53) : Int) := of_decide_eq_true (by first | (with_reducible assumption) | assumption)
                       have q118 : (ji53) < (x0_4.length : Int) := of_decide_eq_true (by first | (with_reducible assumption) | assumption)
                       obtain ⟨ad118, e118, hx118_0⟩ := Kd.at_int (Kd.R_reads' HO_0.out).2.2 (ji53) p118 q118
                       obtain rfl : (⟨go26, 0, none⟩ : Addr) = ad118 := (by injection e118)
                       (first | simp only [add_plain] at hx118_0 | simp only [add_at] at hx118_0 | simp only [Addr.add, Nat.zero_add] at hx118_0 | skip)
                       replace p118 := eq_true p118
                       replace q118 := eq_true q118
                       have p119 : 0 ≤ (x10_4 : Int) := of_decide_eq_true (by first | (with_reducible assumption) | assumption)
                       have q119 : x10_4 < (x0_4.length : Int) := of_decide_eq_true (by first | (with_reducible assumption) | assumption)
                       obtain ⟨ad119, e119, hx119_0⟩ := Kd.at_int (Kd.R_reads' HO_0.out).2.2 x10_4 p119 q119
                       obtain rfl : (⟨go26, 0, none⟩ : Addr) = ad119 := (by injection e119)
                       (first | simp only [add_plain] at hx119_0 | simp only [add_at] at hx119_0 | simp only [Addr.add, Nat.zero_add] at hx119_0 | skip)
                       replace p119 := eq_true p119
                       replace q119 := eq_true q119
                       have p58 : 0 ≤ (x10_4 : Int) := of_decide_eq_true (by first | (with_reducible assumption) | assumption)
                       have q58 : (x10_4 : Int) < ((x0_4.length : Int) : Int) := of_decide_eq_true (by first | (with_reducible assumption) | assumption)
                       obtain ⟨hx58_0, hf58_0⟩ := Kd.R_celln 0 HO_0.out (x10_4 : Int) p58 q58
                       replace p58 := eq_true p58
                       replace q58 := eq_true q58
                       have HP62 := Kd.R_putn HO_0.out (x10_4 : Int) (rd x0_4 (ji53))
                       rw [← Ny120.out] at HP62
                       have HQ62 := Zs.mk HP62
                       clear HP62
                       have p59 : 0 ≤ ((ji53) : Int) := of_decide_eq_true (by first | (with_reducible assumption) | assumption)
                       have q59 : ((ji53) : Int) < ((x0_4.length : Int) : Int) := of_decide_eq_true (by first | (with_reducible assumption) | assumption)
                       obtain ⟨hx59_0, hf59_0⟩ := Kd.R_celln 0 HQ62.out ((ji53) : Int) p59 q59
                       replace p59 := eq_true p59
                       replace q59 := eq_true q59
                       have HP63 := Kd.R_putn HQ62.out ((ji53) : Int) (rd x0_4 x10_4)
                       rw [← Ny121.out] at HP63
                       have HQ63 := Zs.mk HP63
                       clear HP63
                       refine start_ (n := 18) (S := fun w' => w'.cell? ⟨go26, ((ji53)).toNat, none⟩ = some (.int .u64 (rd x0_4 (ji53))) ∧ w'.cell? ⟨go26, (x10_4).toNat, none⟩ = some (.int .u64 (rd x0_4 x10_4))) (ds := [15, 17]) (ba 18 0) (by kernel_rfl) rfl rfl ⟨hx118_0, hx119_0⟩ (fun hHeld => ?_); refine zT qspisou6.tab23 qspisou6.bits23 (fun HT_ HW_ => ?_)
                       generalize w60.drew = w61 at HO_0 HK HB HQ62 HQ63 hf58_0 hf59_0 hx118_0 hx119_0 hx58_0 hx59_0 hHeld ⊢
                       refine' pu 0 (some 117) (ba 18 1) HT_ rfl rfl (by kernel_rfl) (fun _ _ _ => id) ?_ ?_ ?_ <| pu 1 (some 118) (ba 18 3) HT_ rfl rfl (by kernel_rfl) (fun _ _ _ => id) ?_ ?_ ?_ <| pu 2 (some 119) (ba 18 7) HT_ rfl rfl (by kernel_rfl) (fun _ _ _ => id) ?_ ?_ ?_ <| pu 3 (some 120) (ba 18 15) HT_ rfl rfl (by kernel_rfl) (fun _ _ _ => id) ?_ ?_ ?_ <| pu 4 (some 121) (ba 18 31) HT_ rfl rfl (by kernel_rfl) (fun _ _ _ => id) ?_ ?_ ?_ <| pu 5 (some 122) (ba 18 63) HT_ rfl rfl (by kernel_rfl) (fun _ _ _ => id) ?_ ?_ ?_ <| pu 6 (some 123) (ba 18 127) HT_ rfl rfl (by kernel_rfl) (fun _ _ _ => id) ?_ ?_ ?_ <| pu 7 (some 124) (ba 18 255) HT_ rfl rfl (by kernel_rfl) (fun _ _ _ => id) ?_ ?_ ?_ <| pu 8 (some 125) (ba 18 511) HT_ rfl rfl (by kernel_rfl) (fun _ _ _ => id) ?_ ?_ ?_ <| pu 10 (some 127) (ba 18 1535) HT_ rfl rfl (by kernel_rfl) (fun _ _ _ => id) ?_ ?_ ?_ <| pu 11 (some 128) (ba 18 3583) HT_ rfl rfl (by kernel_rfl) (fun _ _ _ => id) ?_ ?_ ?_ <| pu 12 (some 129) (ba 18 7679) HT_ rfl rfl (by kernel_rfl) (fun _ _ _ => id) ?_ ?_ ?_ <| ta 9 (some 126) (ba 18 8191) HT_ HW_ rfl rfl (by kernel_rfl) (fun _ _ _ => id) ?_ ?_ hHeld ?_ <| ta 13 (some 130) (ba 18 16383) HT_ HW_ rfl rfl (by kernel_rfl) (fun _ _ _ => id) ?_ ?_ hHeld ?_ <| pu 14 (some 131) (ba 18 32767) HT_ rfl rfl (by kernel_rfl) (fun _ _ _ => id) ?_ ?_ ?_ <| ?_
                       any_goals (first | (show Region.wanted _ _ = _; rfl) | (rintro w' ⟨s0, s1⟩; go_simp; with_reducible rfl) | (intro w'; go_simp; with_reducible rfl) | (simp only [Act.put, List.setIfInBounds_toArray, List.set_cons_zero, List.set_cons_succ, i64_w, i32_w]; rfl))
                       refine last_ (i := 15) (N := none) (ba 18 65535) rfl rfl (one_of HT_.out (by kernel_rfl)) (by decide) (fun K hK => ?_)
                       refine skip_ (w1 := ?_) (by rfl) rfl ?_ ?_
                       rotate_left
                       ·go_simp
                        rfl
                       refine hK.out _ _ ?_
                       clear hK K
                       refine' pu 16 (some 132) (ba 18 131071) HT_ rfl rfl (by kernel_rfl) (fun _ _ _ => id) ?_ ?_ ?_ <| ?_
                       any_goals (first | (show Region.wanted _ _ = _; rfl) | (intro w'; go_simp; with_reducible rfl) | (simp only [Act.put, List.setIfInBounds_toArray, List.set_cons_zero, List.set_cons_succ, i64_w, i32_w]; rfl))
                       refine last_ (i := 17) (N := none) (ba 18 262143) rfl rfl (one_of HT_.out (by kernel_rfl)) (by decide) (fun K hK => ?_)
                       refine skip_ (w1 := ?_) (by rfl) rfl ?_ ?_
                       rotate_left
                       ·go_simp
                        rfl
                       refine hK.out _ _ ?_
                       clear hK K
                       refine done_ (done_of HT_.out (by kernel_rfl)) ?_
                       try go_wp2
                       (try simp only [← hl0_4])
                       go_roundg k4
                       case measure => have := HK1.out; have := HJ4.out; have := HJ27.out; have := HK4.out; omega
                       case rel => exact ⟨(y121), (wrap64 (x10_4 + 1)), (by first | rfl | (simp; done) | (simp [*]; done)), H', ⟨by have := HK1.out; have := HJ4.out; have := HJ27.out; have := HK4.out; omega⟩, ⟨by (try simp only [hl0_27]); (try simp only [hl0_4]); (with_reducible repeat (first | apply Kd.R_alloc | apply Kd.R_drewN | apply Kd.R_drew)); exact HQ63.out⟩, ⟨by repeat (first | (with_reducible first | exact HK.out | apply Kept.alloc | apply Kept.drewN | apply Kept.drew | refine Kept.setCell ?_ HMgo26.out _ | refine Kept.setCell ?_ HMgo26.out _) | exact HK.out)⟩, ⟨by repeat (first | (with_reducible first | exact HB.out | apply zA | apply zB | apply zC | refine below_set ?_ GB26.out | refine below_set ?_ GB26.out) | exact HB.out)⟩⟩
                      ·replace c57 := Bool.eq_false_iff.mpr c57
                       subst c57
                       have H1 : (qspisou6.l0 k4 x0_4 a1 a2 x7_4 (wrap64 (x8_1 + 1))) = some (r1, r2) := by rw [if_neg (show ¬ (false = true) by decide)] at H; exact H
                       clear H
                       have H := H1
                       clear H1
                       have H' := Zs.mk H
                       clear H
                       try go_wp2
                       have n0_ := Zs.mk (Kd.R_drew HO_0.out)
                       have n1_ := Zs.mk (Kept.drew HK.out)
                       have n2_ := Zs.mk (zC HB.out)
                       clear HO_0
                       clear HK
                       clear HB
                       have HO_0 := n0_
                       have HK := n1_
                       have HB := n2_
                       clear n0_ n1_ n2_
                       have p115 : 0 ≤ (x10_4 : Int) := of_decide_eq_true (by first | (with_reducible assumption) | assumption)
                       have q115 : x10_4 < (x0_4.length : Int) := of_decide_eq_true (by first | (with_reducible assumption) | assumption)
                       obtain ⟨ad115, e115, hx115_0⟩ := Kd.at_int (Kd.R_reads' HO_0.out).2.2 x10_4 p115 q115
                       obtain rfl : (⟨go26, 0, none⟩ : Addr) = ad115 := (by injection e115)
                       (first | simp only [add_plain] at hx115_0 | simp only [add_at] at hx115_0 | simp only [Addr.add, Nat.zero_add] at hx115_0 | skip)
                       replace p115 := eq_true p115
                       replace q115 := eq_true q115
                       have p116 : 0 ≤ ((ji53) : Int) := of_decide_eq_true (by first | (with_reducible assumption) | assumption)
                       have q116 : (ji53) < (x0_4.length : Int) := of_decide_eq_true (by first | (with_reducible assumption) | assumption)
                       obtain ⟨ad116, e116, hx116_0⟩ := Kd.at_int (Kd.R_reads' HO_0.out).2.2 (ji53) p116 q116
                       obtain rfl : (⟨go26, 0, none⟩ : Addr) = ad116 := (by injection e116)
                       (first | simp only [add_plain] at hx116_0 | simp only [add_at] at hx116_0 | simp only [Addr.add, Nat.zero_add] at hx116_0 | skip)
                       replace p116 := eq_true p116
                       replace q116 := eq_true q116
                       refine start_ (n := 11) (S := fun w' => w'.cell? ⟨go26, (x10_4).toNat, none⟩ = some (.int .u64 (rd x0_4 x10_4)) ∧ w'.cell? ⟨go26, ((ji53)).toNat, none⟩ = some (.int .u64 (rd x0_4 (ji53)))) (ds := []) (ba 11 0) (by kernel_rfl) rfl rfl ⟨hx115_0, hx116_0⟩ (fun hHeld => ?_); refine zT qspisou6.tab22 qspisou6.bits22 (fun HT_ HW_ => ?_)
                       generalize wr.drew = w64 at HO_0 HK HB hx115_0 hx116_0 hHeld ⊢
                       refine' pu 0 (some 106) (ba 11 1) HT_ rfl rfl (by kernel_rfl) (fun _ _ _ => id) ?_ ?_ ?_ <| pu 1 (some 107) (ba 11 3) HT_ rfl rfl (by kernel_rfl) (fun _ _ _ => id) ?_ ?_ ?_ <| pu 2 (some 108) (ba 11 7) HT_ rfl rfl (by kernel_rfl) (fun _ _ _ => id) ?_ ?_ ?_ <| pu 4 (some 110) (ba 11 23) HT_ rfl rfl (by kernel_rfl) (fun _ _ _ => id) ?_ ?_ ?_ <| pu 5 (some 111) (ba 11 55) HT_ rfl rfl (by kernel_rfl) (fun _ _ _ => id) ?_ ?_ ?_ <| pu 6 (some 112) (ba 11 119) HT_ rfl rfl (by kernel_rfl) (fun _ _ _ => id) ?_ ?_ ?_ <| pu 7 (some 113) (ba 11 247) HT_ rfl rfl (by kernel_rfl) (fun _ _ _ => id) ?_ ?_ ?_ <| ta 3 (some 109) (ba 11 255) HT_ HW_ rfl rfl (by kernel_rfl) (fun _ _ _ => id) ?_ ?_ hHeld ?_ <| ta 8 (some 114) (ba 11 511) HT_ HW_ rfl rfl (by kernel_rfl) (fun _ _ _ => id) ?_ ?_ hHeld ?_ <| ?_
                       any_goals (first | (show Region.wanted _ _ = _; rfl) | (rintro w' ⟨s0, s1⟩; go_simp; with_reducible rfl) | (intro w'; go_simp; with_reducible rfl) | (simp only [Act.put, List.setIfInBounds_toArray, List.set_cons_zero, List.set_cons_succ, i64_w, i32_w]; rfl))
                       refine one_ (i := 9) (N := some 115) (ba 11 1023) rfl rfl (one_of HT_.out (by kernel_rfl)) (by decide) (fun K hK => ?_)
                       refine goes_ Tryd.func95 (by kernel_rfl) rfl #[.int .u64 (rd x0_4 x10_4), .int .u64 (rd x0_4 (ji53))] (by rfl) rfl rfl (by (try simp only [List.map_toArray, List.map_cons, List.map_nil]); first | done | (simp only [hji53]; rfl) | rfl | (simp only [List.length_drop, List.length_take]; rfl)) ?_
                       with_reducible refine (qclu6.calls (rd x0_4 x10_4) (rd x0_4 (ji53)) false _ A56.out).mono ?_
                       rintro e w' ⟨rfl, ⟨nd, rfl⟩⟩
                       refine ⟨_, rfl, ?_⟩
                       refine hK.out _ _ ⟨hHeld.1, hHeld.2⟩ (fun hHeld => ?_)
                       clear hK K
                       refine norm_ (a' := ?_) ?_ ?_
                       rotate_left
                       ·show Act.put _ (some 115) _ = _
                        simp only [Act.put, List.setIfInBounds_toArray, List.set_cons_zero, List.set_cons_succ, i64_w, i32_w]
                        rfl
                       refine' pu 10 (some 116) (ba 11 2047) HT_ rfl rfl (by kernel_rfl) (fun _ _ _ => id) ?_ ?_ ?_ <| ?_
                       any_goals (first | (show Region.wanted _ _ = _; rfl) | (intro w'; go_simp; with_reducible rfl) | (simp only [Act.put, List.setIfInBounds_toArray, List.set_cons_zero, List.set_cons_succ, i64_w, i32_w]; rfl))
                       refine done_ (done_of HT_.out (by kernel_rfl)) ?_
                       try go_wp2
                       (try simp only [← hl0_27, ← hl0_4])
                       go_roundg k4
                       case measure => have := HK1.out; have := HJ4.out; have := HJ27.out; have := HK4.out; omega
                       case rel => exact ⟨(x0_4), (x7_4), (wrap64 (x8_1 + 1)), (by first | rfl | (simp; done) | (simp [*]; done)), (by first | rfl | (simp; done) | (simp [*]; done)), H', ⟨by have := HK1.out; have := HJ4.out; have := HJ27.out; have := HK4.out; omega⟩, ⟨by (try simp only [hl0_27]); (try simp only [hl0_4]); (with_reducible repeat (first | apply Kd.R_alloc | apply Kd.R_drewN | apply Kd.R_drew)); exact HO_0.out⟩, ⟨by repeat (first | (with_reducible first | exact HK.out | apply Kept.alloc | apply Kept.drewN | apply Kept.drew) | exact HK.out)⟩, ⟨by repeat (first | (with_reducible first | exact HB.out | apply zA | apply zB | apply zC) | exact HB.out)⟩⟩
                     ·rw [if_neg c55] at H
                      exact absurd H (by simp)
                    ·rw [if_neg c54] at H
                     exact absurd H (by simp)
                   ·rw [if_neg c52] at H
                    exact absurd H (by simp)
                  ·rw [if_neg c51] at H
                   exact absurd H (by simp)
                 ·rw [if_neg c50] at H
                  have c50b0 : decide (x10_4 < a2) = false := decide_eq_false c50
                  clear c50
                  have H' := Zs.mk H
                  clear H
                  go_wp2
                  (try simp only [← hl0_27, ← hl0_4])
                  go_roundg k4
                  case measure => have := HK1.out; have := HJ4.out; have := HJ27.out; have := HK4.out; omega
                  case rel => exact ⟨(x0_4), (x7_4), (wrap64 (x8_1 + 1)), (by first | rfl | (simp; done) | (simp [*]; done)), (by first | rfl | (simp; done) | (simp [*]; done)), H', ⟨by have := HK1.out; have := HJ4.out; have := HJ27.out; have := HK4.out; omega⟩, ⟨by (try simp only [hl0_27]); (try simp only [hl0_4]); (with_reducible repeat (first | apply Kd.R_alloc | apply Kd.R_drewN | apply Kd.R_drew)); exact HO_0.out⟩, ⟨by repeat (first | (with_reducible first | exact HK.out | apply Kept.alloc | apply Kept.drewN | apply Kept.drew) | exact HK.out)⟩, ⟨by repeat (first | (with_reducible first | exact HB.out | apply zA | apply zB | apply zC) | exact HB.out)⟩⟩
              ·rw [if_neg c49] at H
               have c49b0 : decide (2 ≤ (wrap64 (a2 - x7_4))) = false := decide_eq_false c49
               clear c49
               have H' := Zs.mk H
               clear H
               go_wp2
               (try simp only [← hl0_27])
               go_roundg kj27
               case measure => have := HK1.out; have := HJ4.out; have := HJ27.out; omega
               case rel => exact ⟨(x0_27), (x7_4), (wrap64 (x8_1 + 1)), (by first | rfl | (simp; done) | (simp [*]; done)), (by first | rfl | (simp; done) | (simp [*]; done)), H', ⟨by have := HK1.out; have := HJ4.out; have := HJ27.out; omega⟩, ⟨by (try simp only [hl0_27]); (with_reducible repeat (first | apply Kd.R_alloc | apply Kd.R_drewN | apply Kd.R_drew)); exact HO_0.out⟩, ⟨by repeat (first | (with_reducible first | exact HK.out | apply Kept.alloc | apply Kept.drewN | apply Kept.drew) | exact HK.out)⟩, ⟨by repeat (first | (with_reducible first | exact HB.out | apply zA | apply zB | apply zC) | exact HB.out)⟩⟩
           ·rw [if_neg c25] at H
            exact absurd H (by simp)
          ·rw [if_neg c24] at H
           exact absurd H (by simp)
         ·rw [if_neg c23] at H
          exact absurd H (by simp)
        ·rw [if_neg c22] at H
         exact absurd H (by simp)
   ·rw [if_neg c4] at H
    have c4b0 : decide (x8_1 < 5) = false := decide_eq_false c4
    clear c4
    simp only [Option.some.injEq, Prod.mk.injEq] at H
    obtain ⟨rfl, rfl⟩ := H
    go_wp2
    go_ret
    exact ⟨by first | rfl | (simp [zE, zF] <;> rfl) | (simp [*, zE, zF] <;> rfl), by (with_reducible repeat (first | apply Kd.R_alloc | apply Kd.R_drewN | apply Kd.R_drew)); exact HO_0.out, by repeat (first | (with_reducible first | exact HB.out | apply zA | apply zB | apply zC) | exact HB.out), by repeat (first | (with_reducible first | exact HK.out | apply Kept.alloc | apply Kept.drewN | apply Kept.drew) | exact HK.out)⟩
end Go.Proofs.YtkmbgfhkdopigaaDoor.P
