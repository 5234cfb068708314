/- Texts that the statement's proof leans on, part 7. -/
import Derived.Test.YtkmbgfhkdopigaaDoorTB4
import Derived.Test.YtkmbgfhkdopigaaDoorTB5
import Derived.Test.YtkmbgfhkdopigaaDoorTB6
namespace Go.Proofs.YtkmbgfhkdopigaaDoor.P
open Go.RowKit Go.Proofs.YtkmbgfhkdopigaaDoorW.PrintWords Go.Proofs.YtkmbgfhkdopigaaDoorW.PrintLast Go.Proofs.YtkmbgfhkdopigaaDoorW.PrintMore
attribute [local go_sem] max2_int min2_int max_two min_two max_three min_three max_four min_four
attribute [local go_sem] Go.Proofs.YtkmbgfhkdopigaaDoor.Fl.store_float Go.Proofs.YtkmbgfhkdopigaaDoor.Fl.call58 Go.Proofs.YtkmbgfhkdopigaaDoor.Fl.call62
set_option linter.unusedVariables false
set_option linter.unusedSimpArgs false
mutual
def qshsou6.l0 : Nat → List Int → Int → Int → Int → Int → Option (List Int)
 | 0, _, _, _, _, _ => none
 | k + 1, x0, x6, x7, x8, x9 => if x9 ≥ 0 then ((qssdou6.f k x0 x9 x8 x6).bind fun t101 => (qshsou6.l0 k t101 x6 x7 x8 (wrap64 (x9 - 1)))) else (qshsou6.l1 k x0 x6 x7 (wrap64 (x8 - 1)))
def qshsou6.l1 : Nat → List Int → Int → Int → Int → Option (List Int)
 | 0, _, _, _, _ => none
 | k + 1, x0, x6, x7, x10 => if x10 ≥ 0 then (if 0 ≤ (wrap64 (x6 + x10)) then (if (wrap64 (x6 + x10)) < (x0.length : Int) then (if 0 ≤ x6 then (if x6 < (x0.length : Int) then ((qssdou6.f k ((x0.set (x6 : Int).toNat (rd x0 (wrap64 (x6 + x10)))).set ((wrap64 (x6 + x10)) : Int).toNat (rd x0 x6)) x7 x10 x6).bind fun t106 => (qshsou6.l1 k t106 x6 x7 (wrap64 (x10 - 1)))) else (none)) else (none)) else (none)) else (none)) else (some x0)
end
def qshsou6.f (k : Nat) (l0 : List Int) (a1 : Int) (a2 : Int) : Option (List Int) := qshsou6.l0 k l0 a1 0 (wrap64 (a2 - a1)) (wrap64 (Int.tdiv (wrap64 ((wrap64 (a2 - a1)) - 1)) 2))
def qshsou6.T10 : Bool × List (List Nat × List Nat) := (true, [([], []), ([], []), ([], []), ([], []), ([], []), ([3, 4], [3, 4]), ([], []), ([], []), ([], []), ([7, 8], [7, 8]), ([6, 9], [6, 9]), ([10], [10]), ([], []), ([], []), ([12, 13], [12, 13]), ([14], [14]), ([0, 1, 0, 1, 6, 7, 8, 9, 10, 11, 15], [0, 1]), ([16, 11, 0, 1, 6, 7, 8, 9, 10, 11, 15], [11, 16]), ([2, 5, 0, 1, 2, 3, 4, 5, 6, 7, 8, 9, 10, 11, 12, 13, 14, 15, 16, 17], [2, 5]), ([18, 15, 17, 0, 1, 2, 3, 4, 5, 6, 7, 8, 9, 10, 11, 12, 13, 14, 15, 16, 17], [15, 18])])
def qshsou6.B10 : List Nat := [0, 0, 0, 0, 0, 24, 0, 0, 0, 384, 960, 1984, 0, 0, 12288, 28672, 65475, 131011, 262143, 524287]
theorem qshsou6.tab10 : rtab .any (opsOf Tryd.f90 10) = qshsou6.T10 := by kernel_rfl
theorem qshsou6.bits10 : waitsOk qshsou6.T10.2 qshsou6.B10 = true := by kernel_rfl
set_option maxHeartbeats 8000000 in
set_option maxRecDepth 100000 in
theorem qshsou6.calls (k : Nat) (P0_ : Nat → Prop) (u9000_ : Value) (l0 : List Int) (a1 : Int) (a2 : Int) (r : List Int) (w0 w : World) (hB : Below w0.heap.size w0 w) (ho0 : Kd.R (Kd.int .u64) 33 w w0.heap.size P0_ u9000_ l0) (h : qshsou6.f k l0 a1 a2 = some r) :
  Calls Tryd.prog 90 #[u9000_, .int .i64 a1, .int .i64 a2] w fun e w' => e = .returned (.tuple #[]) ∧ Kd.R (Kd.int .u64) 33 w' w0.heap.size (fun k_ => (P0_ k_ ∨ w.heap.size ≤ k_)) u9000_ r ∧ Below w0.heap.size w0 w' ∧ Kept w w' (fun k_ => P0_ k_) := by
 have HO0 := Zs.mk (show Kd.R (Kd.int .u64) 33 w w0.heap.size (fun k_ => (P0_ k_ ∨ w.heap.size ≤ k_)) u9000_ l0 from Kd.R_mono ho0 (fun k_ hk => (.inl hk)))
 have HK := Zs.mk (Kept.refl w (fun k_ => P0_ k_))
 have HW0 := Zs.mk hB.size
 have HB := Zs.mk hB
 clear hB
 have H : (qshsou6.l0 k l0 a1 0 (wrap64 (a2 - a1)) (wrap64 (Int.tdiv (wrap64 ((wrap64 (a2 - a1)) - 1)) 2))) = some r := h
 clear h
 have H' := Zs.mk H
 clear H
 go_enter Tryd.func90, Tryd.ntmps90
 go_wp2
 go_loopg [9] k (fun kq v9 w' => ∃ (x0_1 : List Int) (x9_1 : Int), v9 = .int .i64 x9_1 ∧ Zs (qshsou6.l0 kq x0_1 a1 0 (wrap64 (a2 - a1)) x9_1 = some r) ∧ Zs (kq ≤ k) ∧ Zs (Kd.R (Kd.int .u64) 33 w' w0.heap.size (fun k_ => (P0_ k_ ∨ w.heap.size ≤ k_)) u9000_ x0_1) ∧ Zs (Kept w w' (fun k_ => P0_ k_)) ∧ Zs (Below w0.heap.size w0 w'))
 case atStart => exact ⟨(l0), (wrap64 (Int.tdiv (wrap64 ((wrap64 (a2 - a1)) - 1)) 2)), (by first | rfl | (simp; done) | (simp [*]; done)), H', ⟨Nat.le_refl _⟩, ⟨by (with_reducible repeat (first | apply Kd.R_alloc | apply Kd.R_drewN | apply Kd.R_drew)); exact HO0.out⟩, ⟨by repeat (first | (with_reducible first | exact HK.out | apply Kept.alloc | apply Kept.drewN | apply Kept.drew) | exact HK.out)⟩, ⟨by repeat (first | (with_reducible first | exact HB.out | apply zA | apply zB | apply zC) | exact HB.out)⟩⟩
 case round =>
  clear H'
  obtain ⟨x0_1, x9_1, rfl, HA, HK1, HO_0, HK, HB⟩ := hrel
  cases gk with
  | zero => exact absurd HA.out (by simp [qshsou6.l0])
  | succ k1 =>
   have H := HA.out
   clear HA
   simp only [qshsou6.l0] at H
   by_cases c4 : x9_1 ≥ 0
   ·rw [if_pos c4] at H
    have c4b0 : decide (0 ≤ x9_1) = true := decide_eq_true c4
    clear c4
    replace H := Option.bind_eq_some_iff.mp H
    obtain ⟨t101, A50, H⟩ := H
    replace H : (qshsou6.l0 k1 t101 a1 0 (wrap64 (a2 - a1)) (wrap64 (x9_1 - 1))) = some r := H
    have A5 := Zs.mk A50
    clear A50
    have H' := Zs.mk H
    clear H
    obtain ⟨Ao6, co6, eo6⟩ := Kd.R_slice HO_0.out
    subst eo6
    go_wp2_with (first | ((with_reducible refine gate_callee (f := 126) rfl ?_); refine goesL_ (some 26) rfl rfl Tryd.func126 (by kernel_rfl) rfl #[.slice Ao6 x0_1.length co6, .int .i64 x9_1, .int .i64 (wrap64 (a2 - a1)), .int .i64 a1] rfl (by (try simp only [List.map_toArray, List.map_cons, List.map_nil]); first | done | rfl | (simp only [List.length_drop, List.length_take]; rfl)) ?_; (with_reducible refine (qssdou6.calls k1 (fun k_ => some k_ = (.slice Ao6 x0_1.length co6 : Value).ownBlock) (.slice Ao6 x0_1.length co6) x0_1 x9_1 (wrap64 (a2 - a1)) a1 t101 w0 _ ?side1 ?side2 A5.out).mono ?_); (case side1 => repeat (first | (with_reducible first | exact HB.out | apply zA | apply zB | apply zC) | exact HB.out)); (case side2 => exact Kd.R_tight rfl HO_0.out); rintro e w7 ⟨rfl, hy0, hb, hkp⟩; refine ⟨_, rfl, ?_⟩; have n0_ := Zs.mk (Kd.R_reok rfl hy0 (fun k_ e_ => HO_0.out.1 k_ e_)); have n1_ := Zs.mk (Kept.then_ (S := (fun k_ => P0_ k_)) (by repeat (first | (with_reducible first | exact HK.out | apply Kept.alloc | apply Kept.drewN | apply Kept.drew) | exact HK.out)) hkp (fun k_ hs_ => (fun e_ => (HO_0.out.1 k_ e_.symm)) hs_)); have n2_ := Zs.mk (hb); clear HO_0; clear HK; clear HB; have HO_0 := n0_; have HK := n1_; have HB := n2_; clear n0_ n1_ n2_; (try clear hb); (try clear hkp); (try clear hy0)))
    go_roundg k1
    case measure => have := HK1.out; omega
    case rel => exact ⟨(t101), (wrap64 (x9_1 - 1)), (by first | rfl | (simp; done) | (simp [*]; done)), H', ⟨by have := HK1.out; omega⟩, ⟨by (with_reducible repeat (first | apply Kd.R_alloc | apply Kd.R_drewN | apply Kd.R_drew)); exact HO_0.out⟩, ⟨by repeat (first | (with_reducible first | exact HK.out | apply Kept.alloc | apply Kept.drewN | apply Kept.drew) | exact HK.out)⟩, ⟨by repeat (first | (with_reducible first | exact HB.out | apply zA | apply zB | apply zC) | exact HB.out)⟩⟩
   ·rw [if_neg c4] at H
    have c4b0 : decide (0 ≤ x9_1) = false := decide_eq_false c4
    clear c4
    have H' := Zs.mk H
    clear H
    go_wp2
    go_loopg [10] k1 (fun kq v10 w' => ∃ (x0_2 : List Int) (x10_2 : Int), v10 = .int .i64 x10_2 ∧ Zs (qshsou6.l1 kq x0_2 a1 0 x10_2 = some r) ∧ Zs (kq ≤ k1) ∧ Zs (Kd.R (Kd.int .u64) 33 w' w0.heap.size (fun k_ => (P0_ k_ ∨ w.heap.size ≤ k_)) u9000_ x0_2) ∧ Zs (Kept w w' (fun k_ => P0_ k_)) ∧ Zs (Below w0.heap.size w0 w'))
    case atStart => exact ⟨(x0_1), (wrap64 ((wrap64 (a2 - a1)) - 1)), (by first | rfl | (simp; done) | (simp [*]; done)), H', ⟨Nat.le_refl _⟩, ⟨by (with_reducible repeat (first | apply Kd.R_alloc | apply Kd.R_drewN | apply Kd.R_drew)); exact HO_0.out⟩, ⟨by repeat (first | (with_reducible first | exact HK.out | apply Kept.alloc | apply Kept.drewN | apply Kept.drew) | exact HK.out)⟩, ⟨by repeat (first | (with_reducible first | exact HB.out | apply zA | apply zB | apply zC) | exact HB.out)⟩⟩
    case round =>
     clear H'
     try clear c4; try clear c4b0
     obtain ⟨x0_2, x10_2, rfl, HA, HK2, HO_0, HK, HB⟩ := hrel
     cases gk with
     | zero => exact absurd HA.out (by simp [qshsou6.l1])
     | succ k2 =>
      have H := HA.out
      clear HA
      simp only [qshsou6.l1] at H
      by_cases c8 : x10_2 ≥ 0
      ·rw [if_pos c8] at H
       have c8b0 : decide (0 ≤ x10_2) = true := decide_eq_true c8
       clear c8
       obtain ⟨ji9, hji9⟩ : ∃ j_ : Int, (wrap64 (a1 + x10_2)) = j_ := ⟨_, rfl⟩
       replace H : (if 0 ≤ (ji9) then (if (ji9) < (x0_2.length : Int) then (if 0 ≤ a1 then (if a1 < (x0_2.length : Int) then ((qssdou6.f k2 ((x0_2.set (a1 : Int).toNat (rd x0_2 (ji9))).set ((ji9) : Int).toNat (rd x0_2 a1)) 0 x10_2 a1).bind fun t106 => (qshsou6.l1 k2 t106 a1 0 (wrap64 (x10_2 - 1)))) else (none)) else (none)) else (none)) else (none)) = some r := by first | (rw [hji9] at H; exact H) | (simp only [hji9] at H ⊢; exact H)
       have hji9w : (IntKind.i64.wrap (a1 + x10_2)) = ji9 := (i64_w _).trans hji9
       by_cases c10 : 0 ≤ (ji9)
       ·rw [if_pos c10] at H
        have c10b0 : decide (0 ≤ (ji9)) = true := decide_eq_true c10
        clear c10
        by_cases c11 : (ji9) < (x0_2.length : Int)
        ·rw [if_pos c11] at H
         have c11b0 : decide ((ji9) < (x0_2.length : Int)) = true := decide_eq_true c11
         clear c11
         by_cases c12 : 0 ≤ a1
         ·rw [if_pos c12] at H
          have c12b0 : decide (0 ≤ a1) = true := decide_eq_true c12
          clear c12
          by_cases c13 : a1 < (x0_2.length : Int)
          ·rw [if_pos c13] at H
           have c13b0 : decide (a1 < (x0_2.length : Int)) = true := decide_eq_true c13
           clear c13
           obtain ⟨y104, hy104⟩ : ∃ y_ : List Int, y_ = (x0_2.set (a1 : Int).toNat (rd x0_2 (ji9))) := ⟨_, rfl⟩
           replace H : ((qssdou6.f k2 (y104.set ((ji9) : Int).toNat (rd x0_2 a1)) 0 x10_2 a1).bind fun t106 => (qshsou6.l1 k2 t106 a1 0 (wrap64 (x10_2 - 1)))) = some r := by first | (rw [hy104]; with_reducible exact H) | (have H2_ := (Option.bind_some _ _).symm.trans H; rw [hy104]; with_reducible exact H2_) | (have H2_ := (Option.bind_some _ _).symm.trans H; with_reducible exact H2_) | with_reducible exact H | (rw [hy104]; exact H) | exact H
           have Ny104 := Zs.mk hy104
           clear hy104
           obtain ⟨y105, hy105⟩ : ∃ y_ : List Int, y_ = (y104.set ((ji9) : Int).toNat (rd x0_2 a1)) := ⟨_, rfl⟩
           replace H : ((qssdou6.f k2 y105 0 x10_2 a1).bind fun t106 => (qshsou6.l1 k2 t106 a1 0 (wrap64 (x10_2 - 1)))) = some r := by first | (rw [hy105]; with_reducible exact H) | (have H2_ := (Option.bind_some _ _).symm.trans H; rw [hy105]; with_reducible exact H2_) | (have H2_ := (Option.bind_some _ _).symm.trans H; with_reducible exact H2_) | with_reducible exact H | (rw [hy105]; exact H) | exact H
           have Ny105 := Zs.mk hy105
           clear hy105
           replace H := Option.bind_eq_some_iff.mp H
           obtain ⟨t106, A160, H⟩ := H
           replace H : (qshsou6.l1 k2 t106 a1 0 (wrap64 (x10_2 - 1))) = some r := H
           have A16 := Zs.mk A160
           clear A160
           have H' := Zs.mk H
           clear H
           try go_wp2
           have n0_ := Zs.mk (Kd.R_drew HO_0.out)
           have n1_ := Zs.mk (Kept.drew HK.out)
           have n2_ := Zs.mk (zC HB.out)
           clear HO_0
           clear HK
           clear HB
           have HO_0 := n0_
           have HK := n1_
           have HB := n2_
           clear n0_ n1_ n2_
           obtain ⟨Ao18, co18, eo18⟩ := Kd.R_slice HO_0.out
           (first | subst eo18 | (injection eo18 with f1_ f2_ f3_; have f4_ := f1_.symm; have f5_ := f3_.symm; clear f1_ f2_ f3_; subst f4_; subst f5_))
           have p102 : 0 ≤ ((ji9) : Int) := of_decide_eq_true (by first | (with_reducible assumption) | assumption)
           have q102 : (ji9) < (x0_2.length : Int) := of_decide_eq_true (by first | (with_reducible assumption) | assumption)
           obtain ⟨ad102, e102, hx102_0⟩ := Kd.at_int (Kd.R_reads' HO_0.out).2.2 (ji9) p102 q102
           cases e102
           replace p102 := eq_true p102
           replace q102 := eq_true q102
           have p103 : 0 ≤ (a1 : Int) := of_decide_eq_true (by first | (with_reducible assumption) | assumption)
           have q103 : a1 < (x0_2.length : Int) := of_decide_eq_true (by first | (with_reducible assumption) | assumption)
           obtain ⟨ad103, e103, hx103_0⟩ := Kd.at_int (Kd.R_reads' HO_0.out).2.2 a1 p103 q103
           obtain rfl : ad102 = ad103 := (by injection e103)
           replace p103 := eq_true p103
           replace q103 := eq_true q103
           have p14 : 0 ≤ (a1 : Int) := of_decide_eq_true (by first | (with_reducible assumption) | assumption)
           have q14 : (a1 : Int) < ((x0_2.length : Int) : Int) := of_decide_eq_true (by first | (with_reducible assumption) | assumption)
           obtain ⟨go14, co14, eo14, gb14, gl14, cl14, HG14⟩ := Kd.R_form HO_0.out (by omega)
           (first | cases eo14 | (injection eo14 with ea_ en_ ec_; (first | subst ea_ | (injection ea_ with ea_; subst ea_)); subst ec_; clear en_))
           have GB14 := Zs.mk gb14
           have GG14 := Zs.mk HG14
           clear gb14 gl14 HG14
           have HMgo14 := Zs.mk (show (P0_ go14 ∨ w.heap.size ≤ go14) from (HO_0.out.1 _ rfl))
           (first | simp only [add_plain] at hx102_0 | skip)
           (first | simp only [add_plain] at hx103_0 | skip)
           obtain ⟨hx14_0, hf14_0⟩ := Kd.R_celln 0 HO_0.out (a1 : Int) p14 q14
           replace p14 := eq_true p14
           replace q14 := eq_true q14
           have HP19 := Kd.R_putn HO_0.out (a1 : Int) (rd x0_2 (ji9))
           rw [← Ny104.out] at HP19
           have HQ19 := Zs.mk HP19
           clear HP19
           have p15 : 0 ≤ ((ji9) : Int) := of_decide_eq_true (by first | (with_reducible assumption) | assumption)
           have q15 : ((ji9) : Int) < ((x0_2.length : Int) : Int) := of_decide_eq_true (by first | (with_reducible assumption) | assumption)
           obtain ⟨hx15_0, hf15_0⟩ := Kd.R_celln 0 HQ19.out ((ji9) : Int) p15 q15
           replace p15 := eq_true p15
           replace q15 := eq_true q15
           have HP20 := Kd.R_putn HQ19.out ((ji9) : Int) (rd x0_2 a1)
           rw [← Ny105.out] at HP20
           have HQ20 := Zs.mk HP20
           clear HP20
           refine start_ (n := 20) (S := fun w' => w'.cell? ⟨go14, ((ji9)).toNat, none⟩ = some (.int .u64 (rd x0_2 (ji9))) ∧ w'.cell? ⟨go14, (a1).toNat, none⟩ = some (.int .u64 (rd x0_2 a1))) (ds := [17, 19]) (ba 20 0) (by kernel_rfl) rfl rfl ⟨hx102_0, hx103_0⟩ (fun hHeld => ?_); refine zT qshsou6.tab10 qshsou6.bits10 (fun HT_ HW_ => ?_)
           generalize wr.drew = w17 at HO_0 HK HB GG14 HQ19 HQ20 hf14_0 hf15_0 hx102_0 hx103_0 hx14_0 hx15_0 hHeld ⊢
           refine' pu 0 (some 33) (ba 20 1) HT_ rfl rfl (by kernel_rfl) (fun _ _ _ => id) ?_ ?_ ?_ <| pu 1 (some 34) (ba 20 3) HT_ rfl rfl (by kernel_rfl) (fun _ _ _ => id) ?_ ?_ ?_ <| pu 2 (some 35) (ba 20 7) HT_ rfl rfl (by kernel_rfl) (fun _ _ _ => id) ?_ ?_ ?_ <| pu 3 (some 36) (ba 20 15) HT_ rfl rfl (by kernel_rfl) (fun _ _ _ => id) ?_ ?_ ?_ <| pu 4 (some 37) (ba 20 31) HT_ rfl rfl (by kernel_rfl) (fun _ _ _ => id) ?_ ?_ ?_ <| pu 5 (some 38) (ba 20 63) HT_ rfl rfl (by kernel_rfl) (fun _ _ _ => id) ?_ ?_ ?_ <| pu 6 (some 39) (ba 20 127) HT_ rfl rfl (by kernel_rfl) (fun _ _ _ => id) ?_ ?_ ?_ <| pu 7 (some 40) (ba 20 255) HT_ rfl rfl (by kernel_rfl) (fun _ _ _ => id) ?_ ?_ ?_ <| pu 8 (some 41) (ba 20 511) HT_ rfl rfl (by kernel_rfl) (fun _ _ _ => id) ?_ ?_ ?_ <| pu 9 (some 42) (ba 20 1023) HT_ rfl rfl (by kernel_rfl) (fun _ _ _ => id) ?_ ?_ ?_ <| pu 10 (some 43) (ba 20 2047) HT_ rfl rfl (by kernel_rfl) (fun _ _ _ => id) ?_ ?_ ?_ <| pu 12 (some 45) (ba 20 6143) HT_ rfl rfl (by kernel_rfl) (fun _ _ _ => id) ?_ ?_ ?_ <| pu 13 (some 46) (ba 20 14335) HT_ rfl rfl (by kernel_rfl) (fun _ _ _ => id) ?_ ?_ ?_ <| pu 14 (some 47) (ba 20 30719) HT_ rfl rfl (by kernel_rfl) (fun _ _ _ => id) ?_ ?_ ?_ <| ta 11 (some 44) (ba 20 32767) HT_ HW_ rfl rfl (by kernel_rfl) (fun _ _ _ => id) ?_ ?_ hHeld ?_ <| ta 15 (some 48) (ba 20 65535) HT_ HW_ rfl rfl (by kernel_rfl) (fun _ _ _ => id) ?_ ?_ hHeld ?_ <| pu 16 (some 49) (ba 20 131071) HT_ rfl rfl (by kernel_rfl) (fun _ _ _ => id) ?_ ?_ ?_ <| ?_
           any_goals (first | (show Region.wanted _ _ = _; rfl) | (rintro w' ⟨s0, s1⟩; go_simp; with_reducible rfl) | (intro w'; go_simp; with_reducible rfl) | (simp only [Act.put, List.setIfInBounds_toArray, List.set_cons_zero, List.set_cons_succ, i64_w, i32_w]; rfl))
           refine last_ (i := 17) (N := none) (ba 20 262143) rfl rfl (one_of HT_.out (by kernel_rfl)) (by decide) (fun K hK => ?_)
           refine skip_ (w1 := ?_) (by rfl) rfl ?_ ?_
           rotate_left
           ·go_simp
            rfl
           refine hK.out _ _ ?_
           clear hK K
           refine' pu 18 (some 50) (ba 20 524287) HT_ rfl rfl (by kernel_rfl) (fun _ _ _ => id) ?_ ?_ ?_ <| ?_
           any_goals (first | (show Region.wanted _ _ = _; rfl) | (intro w'; go_simp; with_reducible rfl) | (simp only [Act.put, List.setIfInBounds_toArray, List.set_cons_zero, List.set_cons_succ, i64_w, i32_w]; rfl))
           refine last_ (i := 19) (N := none) (ba 20 1048575) rfl rfl (one_of HT_.out (by kernel_rfl)) (by decide) (fun K hK => ?_)
           refine skip_ (w1 := ?_) (by rfl) rfl ?_ ?_
           rotate_left
           ·go_simp
            rfl
           refine hK.out _ _ ?_
           clear hK K
           refine done_ (done_of HT_.out (by kernel_rfl)) ?_
           have n0_ : Zs (Kd.R (Kd.int .u64) 33 ((w17.setCell ⟨go14, (a1 : Int).toNat, none⟩ (.int .u64 (rd x0_2 (ji9)))).setCell ⟨go14, ((ji9) : Int).toNat, none⟩ (.int .u64 (rd x0_2 a1))) w0.heap.size (fun k_ => (P0_ k_ ∨ w.heap.size ≤ k_)) (.slice (some ⟨go14, 0, none⟩) x0_2.length co18) y105) := ⟨by (with_reducible repeat (first | apply Kd.R_alloc | apply Kd.R_drewN | apply Kd.R_drew)); exact HQ20.out⟩
           have n1_ : Zs (Kept w ((w17.setCell ⟨go14, (a1 : Int).toNat, none⟩ (.int .u64 (rd x0_2 (ji9)))).setCell ⟨go14, ((ji9) : Int).toNat, none⟩ (.int .u64 (rd x0_2 a1))) (fun k_ => P0_ k_)) := ⟨by repeat (first | (with_reducible first | exact HK.out | apply Kept.alloc | apply Kept.drewN | apply Kept.drew | refine Kept.setCell ?_ HMgo14.out _ | refine Kept.setCell ?_ HMgo14.out _) | exact HK.out)⟩
           have n2_ : Zs (Below w0.heap.size w0 ((w17.setCell ⟨go14, (a1 : Int).toNat, none⟩ (.int .u64 (rd x0_2 (ji9)))).setCell ⟨go14, ((ji9) : Int).toNat, none⟩ (.int .u64 (rd x0_2 a1)))) := ⟨by repeat (first | (with_reducible first | exact HB.out | apply zA | apply zB | apply zC | refine below_set ?_ GB14.out | refine below_set ?_ GB14.out) | exact HB.out)⟩
           (try clear HO_0)
           (try clear HK)
           (try clear HB)
           generalize ((w17.setCell ⟨go14, (a1 : Int).toNat, none⟩ (.int .u64 (rd x0_2 (ji9)))).setCell ⟨go14, ((ji9) : Int).toNat, none⟩ (.int .u64 (rd x0_2 a1))) = w21 at n0_ n1_ n2_ ⊢
           have HO_0 := n0_
           have HK := n1_
           have HB := n2_
           clear n0_ n1_ n2_
           try go_wp2_with (first | ((with_reducible refine gate_callee (f := 126) rfl ?_); refine goesL_ (some 55) rfl rfl Tryd.func126 (by kernel_rfl) rfl #[.slice (some ⟨go14, 0, none⟩) x0_2.length co18, .int .i64 0, .int .i64 x10_2, .int .i64 a1] rfl (by (try simp only [List.map_toArray, List.map_cons, List.map_nil]); first | done | rfl | (simp only [List.length_drop, List.length_take]; rfl)) ?_; (with_reducible refine (qssdou6.calls k2 (fun k_ => some k_ = (.slice (some ⟨go14, 0, none⟩) x0_2.length co18 : Value).ownBlock) (.slice (some ⟨go14, 0, none⟩) x0_2.length co18) y105 0 x10_2 a1 t106 w0 _ ?side1 ?side2 A16.out).mono ?_); (case side1 => repeat (first | (with_reducible first | exact HB.out | apply zA | apply zB | apply zC) | exact HB.out)); (case side2 => exact Kd.R_tight rfl HO_0.out); rintro e w22 ⟨rfl, hy0, hb, hkp⟩; refine ⟨_, rfl, ?_⟩; have n0_ := Zs.mk (Kd.R_reok rfl hy0 (fun k_ e_ => HO_0.out.1 k_ e_)); have n1_ := Zs.mk (Kept.then_ (S := (fun k_ => P0_ k_)) (by repeat (first | (with_reducible first | exact HK.out | apply Kept.alloc | apply Kept.drewN | apply Kept.drew) | exact HK.out)) hkp (fun k_ hs_ => (fun e_ => (HO_0.out.1 k_ e_.symm)) hs_)); have n2_ := Zs.mk (hb); clear HO_0; clear HK; clear HB; have HO_0 := n0_; have HK := n1_; have HB := n2_; clear n0_ n1_ n2_; (try clear hb); (try clear hkp); (try clear hy0)))
           go_roundg k2
           case measure => have := HK1.out; have := HK2.out; omega
           case rel => exact ⟨(t106), (wrap64 (x10_2 - 1)), (by first | rfl | (simp; done) | (simp [*]; done)), H', ⟨by have := HK1.out; have := HK2.out; omega⟩, ⟨by (with_reducible repeat (first | apply Kd.R_alloc | apply Kd.R_drewN | apply Kd.R_drew)); exact HO_0.out⟩, ⟨by repeat (first | (with_reducible first | exact HK.out | apply Kept.alloc | apply Kept.drewN | apply Kept.drew) | exact HK.out)⟩, ⟨by repeat (first | (with_reducible first | exact HB.out | apply zA | apply zB | apply zC) | exact HB.out)⟩⟩
          ·rw [if_neg c13] at H
           exact absurd H (by simp)
         ·rw [if_neg c12] at H
          exact absurd H (by simp)
        ·rw [if_neg c11] at H
         exact absurd H (by simp)
       ·rw [if_neg c10] at H
        exact absurd H (by simp)
      ·rw [if_neg c8] at H
       have c8b0 : decide (0 ≤ x10_2) = false := decide_eq_false c8
       clear c8
       obtain rfl := Option.some.inj H
       go_wp2
       first | go_end0 | ((try simp only [Exit.inBlock, Exit.then]); refine bodyPost_ret (results_none rfl _ _ _) rfl ?_)
       exact ⟨by first | rfl | (simp [zE, zF] <;> rfl) | (simp [*, zE, zF] <;> rfl), by (with_reducible repeat (first | apply Kd.R_alloc | apply Kd.R_drewN | apply Kd.R_drew)); exact HO_0.out, by repeat (first | (with_reducible first | exact HB.out | apply zA | apply zB | apply zC) | exact HB.out), by repeat (first | (with_reducible first | exact HK.out | apply Kept.alloc | apply Kept.drewN | apply Kept.drew) | exact HK.out)⟩
def qsnpot.f (k : Nat) (a0 : Int) : Option (Int) := (qbl1.f k (IntKind.u64.wrap (a0))).bind fun t101 => (if 0 ≤ t101 then (some (shl .u64 1 t101)) else (none))
set_option maxHeartbeats 8000000 in
set_option maxRecDepth 100000 in
theorem qsnpot.calls (k : Nat) (a0 : Int) (r : Int) (w : World) (h : qsnpot.f k a0 = some r) :
  Calls Tryd.prog 127 #[.int .i64 a0] w fun e w' => e = .returned (.int .u64 r) ∧ Drawn0 w w' := by
 have H : ((qbl1.f k (IntKind.u64.wrap (a0))).bind fun t101 => (if 0 ≤ t101 then (some (shl .u64 1 t101)) else (none))) = some r := h
 clear h
 replace H := Option.bind_eq_some_iff.mp H
 obtain ⟨t101, A20, H⟩ := H
 replace H : (if 0 ≤ t101 then (some (shl .u64 1 t101)) else (none)) = some r := H
 have A2 := Zs.mk A20
 clear A20
 by_cases c3 : 0 ≤ t101
 ·rw [if_pos c3] at H
  have c3b0 := eq_true c3
  have c3b1 : decide (0 ≤ t101) = true := decide_eq_true c3
  clear c3
  obtain ⟨ji4, hji4⟩ : ∃ j_ : Int, (shl .u64 1 t101) = j_ := ⟨_, rfl⟩
  replace H : (some ji4) = some r := by first | (rw [hji4] at H; exact H) | (simp only [hji4] at H ⊢; exact H)
  (try rw [hji4] at A2)
  have hji4_ : (IntKind.u64.wrap (1 * 2 ^ min t101.toNat 64)) = ji4 := hji4
  have hji4z : t101 ≤ 64 → (IntKind.u64.wrap (1 * 2 ^ t101.toNat)) = ji4 := shl_small hji4
  have hji4u : (IntKind.u64.wrap (2 ^ min t101.toNat 64)) = ji4 := by have h_ := hji4_; rw [Int.one_mul] at h_; exact h_
  have hji4v : t101 ≤ 64 → (IntKind.u64.wrap (2 ^ t101.toNat)) = ji4 := fun hle_ => by have h_ := hji4z hle_; rw [Int.one_mul] at h_; exact h_
  obtain rfl := Option.some.inj H
  go_enter Tryd.func127, Tryd.ntmps127
  go_wp2_with (first | ((with_reducible refine gate_callee (f := 60) rfl ?_); refine goesL_ (some 5) rfl rfl Tryd.func60 (by kernel_rfl) rfl #[.int .u64 (IntKind.u64.wrap (a0))] rfl (by (try simp only [List.map_toArray, List.map_cons, List.map_nil]); first | done | rfl | (simp only [List.length_drop, List.length_take]; rfl)) ?_; (with_reducible refine (qbl1.calls k (IntKind.u64.wrap (a0)) t101 _ A2.out).mono ?_); rintro e w' ⟨rfl, ⟨nd, rfl⟩⟩; refine ⟨_, rfl, ?_⟩))
  go_ret
  exact ⟨by first | rfl | (simp; done) | (simp only [← hji4] <;> (first | rfl | simp)) | (simp [*]; done), by repeat (first | exact Drawn0.refl _ | apply Drawn0.step)⟩
 ·rw [if_neg c3] at H
  exact absurd H (by simp)
def IsS183 (w0 W : World) (g : Nat) (f0 : Int) : Prop := W.heap[g]? = some (.cells #[.int .u64 f0] 183 (0, 0)) ∧ w0.heap.size ≤ g
theorem IsS183.grown {w0 W : World} {g : Nat} {f0 : Int} {W1 : World} {row : Option Nat} (h : IsS183 w0 W g f0) (hw : W.grownBy W1 row) (hne : some g ≠ row) : IsS183 w0 W1 g f0 := by
  obtain ⟨hb, hg⟩ := h
  exact ⟨blk_grown hb hw hne, hg⟩
theorem IsS183.kept {w0 W : World} {g : Nat} {f0 : Int} {W1 : World} {S : Nat → Prop} (h : IsS183 w0 W g f0) (hk : Kept W W1 S) (hne : ¬ S g) : IsS183 w0 W1 g f0 := by
  obtain ⟨hb, hg⟩ := h
  exact ⟨blk_kept hb hk hne, hg⟩
theorem IsS183.below {w0 W : World} {g : Nat} {f0 : Int} {W1 : World} (h : IsS183 w0 W g f0) (hw : Below W.heap.size W W1) : IsS183 w0 W1 g f0 := h.grown (grown_of_below hw none) (by simp)
theorem IsS183.alloc {w0 W : World} {g : Nat} {f0 : Int} (h : IsS183 w0 W g f0) (o : Obj) : IsS183 w0 (W.alloc o) g f0 := h.below (zA (Below.refl _ _) o)
theorem IsS183.drewN {w0 W : World} {g : Nat} {f0 : Int} (h : IsS183 w0 W g f0) (m : Nat) : IsS183 w0 (W.drewN m) g f0 := h
theorem IsS183.drew {w0 W : World} {g : Nat} {f0 : Int} (h : IsS183 w0 W g f0) : IsS183 w0 W.drew g f0 := h
theorem IsS183.at_ {w0 W : World} {g : Nat} {f0 : Int} {w' : World} {m : Nat} (hq : W.drewN m = w') (h : IsS183 w0 W g f0) : IsS183 w0 w' g f0 := by subst hq; exact IsS183.drewN h m
theorem IsS183.apart {w0 W : World} {g : Nat} {f0 : Int} {α : Type} {d : Kd α} {e : Nat} {base : Nat} {ok : Nat → Prop} {v : Value} {xs : List α} (h : IsS183 w0 W g f0) (ho : d.R e W base ok v xs) (ht : ∀ q, q ∈ e :: d.E → q ≠ 183) : d.R e W base (fun k => ok k ∧ k ≠ g) v xs := by
  obtain ⟨hb, hg⟩ := h
  exact Kd.R_types ho hb ht
theorem IsS183.own_ne {w0 W : World} {g : Nat} {f0 : Int} {α : Type} {d : Kd α} {e : Nat} {base : Nat} {ok : Nat → Prop} {v : Value} {xs : List α} (h : IsS183 w0 W g f0) (ho : d.R e W base ok v xs) (ht : e ≠ 183) : some g ≠ v.ownBlock := by
  obtain ⟨hb, hg⟩ := h
  exact Kd.R_ne ho hb ht
theorem IsS183.lt {w0 W : World} {g : Nat} {f0 : Int} (h : IsS183 w0 W g f0) : g < W.heap.size := by
  obtain ⟨hb, hg⟩ := h
  exact blk_lt hb
theorem IsS183.ge {w0 W : World} {g : Nat} {f0 : Int} (h : IsS183 w0 W g f0) : w0.heap.size ≤ g := by
  obtain ⟨hb, hg⟩ := h
  exact hg
theorem IsS183.far {w0 W : World} {g : Nat} {f0 : Int} {p : Addr} (h : IsS183 w0 W g f0) (hne : g ≠ p.block) (u : Value) : IsS183 w0 (W.setCell p u) g f0 := by
  obtain ⟨hb, hg⟩ := h
  exact ⟨blk_far hb hne u, hg⟩
theorem cellS183_0 {W : World} {g : Nat} {f0 : Int} (h : W.heap[g]? = some (.cells #[.int .u64 f0] 183 (0, 0))) : W.cell? ⟨g, 0, none⟩ = some (.int .u64 f0) := (blk_cell h 0).trans rfl
theorem IsS183.set_0 {w0 W : World} {g : Nat} {f0 : Int} (h : IsS183 w0 W g f0) (x : Int) : IsS183 w0 (W.setCell ⟨g, 0, none⟩ (.int .u64 x)) g x := by
  obtain ⟨hb, hg⟩ := h
  exact ⟨by simpa using blk_set hb 0 (.int .u64 x), hg⟩
theorem IsS183.new (w0 W : World) (f0 : Int) (hB : Below w0.heap.size w0 W) : IsS183 w0 (W.alloc (.cells #[.int .u64 f0] 183)) W.heap.size f0 := ⟨by simpa using heap_alloc_new W _, hB.size⟩

def qsxn.f (s0_0 : Int) : Option (Int × Int) := some (Go.bits .xor .u64 (Go.bits .xor .u64 (Go.bits .xor .u64 s0_0 (IntKind.u64.wrap (s0_0 * 8192))) ((Go.bits .xor .u64 s0_0 (IntKind.u64.wrap (s0_0 * 8192))) / 128)) (IntKind.u64.wrap ((Go.bits .xor .u64 (Go.bits .xor .u64 s0_0 (IntKind.u64.wrap (s0_0 * 8192))) ((Go.bits .xor .u64 s0_0 (IntKind.u64.wrap (s0_0 * 8192))) / 128)) * 131072)), Go.bits .xor .u64 (Go.bits .xor .u64 (Go.bits .xor .u64 s0_0 (IntKind.u64.wrap (s0_0 * 8192))) ((Go.bits .xor .u64 s0_0 (IntKind.u64.wrap (s0_0 * 8192))) / 128)) (IntKind.u64.wrap ((Go.bits .xor .u64 (Go.bits .xor .u64 s0_0 (IntKind.u64.wrap (s0_0 * 8192))) ((Go.bits .xor .u64 s0_0 (IntKind.u64.wrap (s0_0 * 8192))) / 128)) * 131072)))
set_option maxHeartbeats 8000000 in
set_option maxRecDepth 100000 in
theorem qsxn.calls (g : Nat) (s0_0 : Int) (r1 : Int) (r2 : Int) (w0 w : World) (hI : IsS183 w0 w g s0_0) (hB : Below w0.heap.size w0 w) (h : qsxn.f s0_0 = some (r1, r2)) :
    Calls Tryd.prog 128 #[.pointer (some ⟨g, 0, none⟩)] w fun e w' => e = .returned (.int .u64 r1) ∧ IsS183 w0 w' g r2 ∧ Below w0.heap.size w0 w' ∧ KeepBut w w' g none := by
  have hI0 := hI
  obtain ⟨hb, hg⟩ := hI
  simp only [qsxn.f, Option.some.injEq, Prod.mk.injEq] at h
  obtain ⟨rfl, rfl⟩ := h
  have hc : w.cell? ⟨g, 0, none⟩ = some (.int .u64 s0_0) := cellS183_0 hb
  have hf : w.frozen? ⟨g, 0, none⟩ = false := by simp [World.frozen?, hb]
  have hcc : ∀ a b c : Int, (((w.setCell ⟨g, 0, none⟩ (.int .u64 a)).setCell ⟨g, 0, none⟩ (.int .u64 b)).setCell ⟨g, 0, none⟩ (.int .u64 c)).cell? ⟨g, 0, none⟩ = some (.int .u64 c) :=
    fun a b c => cellS183_0 (IsS183.set_0 (IsS183.set_0 (IsS183.set_0 hI0 a) b) c).1
  have HI := Zs.mk hI0
  clear hI0
  go_enter Tryd.func128, Tryd.ntmps128
  go_wp2
  go_region
  all_goals (go_wp2; go_region)
  all_goals (go_wp2; go_region)
  all_goals go_wp2
  all_goals go_ret
  all_goals refine ⟨rfl, ?_, ?_, ?_⟩
  all_goals first
    | exact IsS183.set_0 (IsS183.set_0 (IsS183.set_0 HI.out _) _) _
    | exact below_drew (below_drew (below_drew (below_set (below_set (below_set hB hg _ _) hg _ _) hg _ _)))
    | exact below_drew (below_drew (below_drew (below_set (below_set (below_set hB hg) hg) hg)))
    | exact KeepBut.set_ (KeepBut.set_ (KeepBut.set_ (KeepBut.refl w g none) 0 _) 0 _) 0 _
def qsbpou6.l0 : Nat → List Int → Int → Int → Int → Int → Int → Option (List Int)
 | 0, _, _, _, _, _, _ => none
 | k + 1, x0, x1, x6, x8, x9, x102000 => if x9 ≤ (wrap64 ((wrap64 (x1 + (wrap64 ((wrap64 (Int.tdiv x6 4)) * 2)))) + 1)) then ((qsxn.f x102000).bind fun bt103 => (if (wrap64 (Go.bits .and .u64 bt103.1 (IntKind.u64.wrap (x8 - 1)))) ≥ x6 then (if 0 ≤ (wrap64 (x1 + (wrap64 ((wrap64 (Go.bits .and .u64 bt103.1 (IntKind.u64.wrap (x8 - 1)))) - x6)))) then (if (wrap64 (x1 + (wrap64 ((wrap64 (Go.bits .and .u64 bt103.1 (IntKind.u64.wrap (x8 - 1)))) - x6)))) < (x0.length : Int) then (if 0 ≤ x9 then (if x9 < (x0.length : Int) then (qsbpou6.l0 k ((x0.set (x9 : Int).toNat (rd x0 (wrap64 (x1 + (wrap64 ((wrap64 (Go.bits .and .u64 bt103.1 (IntKind.u64.wrap (x8 - 1)))) - x6)))))).set ((wrap64 (x1 + (wrap64 ((wrap64 (Go.bits .and .u64 bt103.1 (IntKind.u64.wrap (x8 - 1)))) - x6)))) : Int).toNat (rd x0 x9)) x1 x6 x8 (wrap64 (x9 + 1)) bt103.2) else (none)) else (none)) else (none)) else (none)) else (if 0 ≤ (wrap64 (x1 + (wrap64 (Go.bits .and .u64 bt103.1 (IntKind.u64.wrap (x8 - 1)))))) then (if (wrap64 (x1 + (wrap64 (Go.bits .and .u64 bt103.1 (IntKind.u64.wrap (x8 - 1)))))) < (x0.length : Int) then (if 0 ≤ x9 then (if x9 < (x0.length : Int) then (qsbpou6.l0 k ((x0.set (x9 : Int).toNat (rd x0 (wrap64 (x1 + (wrap64 (Go.bits .and .u64 bt103.1 (IntKind.u64.wrap (x8 - 1)))))))).set ((wrap64 (x1 + (wrap64 (Go.bits .and .u64 bt103.1 (IntKind.u64.wrap (x8 - 1)))))) : Int).toNat (rd x0 x9)) x1 x6 x8 (wrap64 (x9 + 1)) bt103.2) else (none)) else (none)) else (none)) else (none)))) else (some x0)
def qsbpou6.f (k : Nat) (l0 : List Int) (a1 : Int) (a2 : Int) : Option (List Int) := if (wrap64 (a2 - a1)) ≥ 8 then ((qsnpot.f k (wrap64 (a2 - a1))).bind fun t102 => (qsbpou6.l0 k l0 a1 (wrap64 (a2 - a1)) t102 (wrap64 ((wrap64 (a1 + (wrap64 ((wrap64 (Int.tdiv (wrap64 (a2 - a1)) 4)) * 2)))) - 1)) (IntKind.u64.wrap (wrap64 (a2 - a1))))) else (some l0)
def qsbpou6.T10 : Bool × List (List Nat × List Nat) := (true, [([], []), ([], []), ([], []), ([], []), ([], []), ([3, 4], [3, 4]), ([], []), ([], []), ([], []), ([7, 8], [7, 8]), ([6, 9], [6, 9]), ([10], [10]), ([], []), ([], []), ([12, 13], [12, 13]), ([14], [14]), ([0, 1, 0, 1, 6, 7, 8, 9, 10, 11, 15], [0, 1]), ([16, 11, 0, 1, 6, 7, 8, 9, 10, 11, 15], [11, 16]), ([2, 5, 0, 1, 2, 3, 4, 5, 6, 7, 8, 9, 10, 11, 12, 13, 14, 15, 16, 17], [2, 5]), ([18, 15, 17, 0, 1, 2, 3, 4, 5, 6, 7, 8, 9, 10, 11, 12, 13, 14, 15, 16, 17], [15, 18])])
def qsbpou6.B10 : List Nat := [0, 0, 0, 0, 0, 24, 0, 0, 0, 384, 960, 1984, 0, 0, 12288, 28672, 65475, 131011, 262143, 524287]
theorem qsbpou6.tab10 : rtab .any (opsOf Tryd.f91 10) = qsbpou6.T10 := by kernel_rfl
theorem qsbpou6.bits10 : waitsOk qsbpou6.T10.2 qsbpou6.B10 = true := by kernel_rfl
set_option maxHeartbeats 8000000 in
set_option maxRecDepth 100000 in
theorem qsbpou6.calls (k : Nat) (P0_ : Nat → Prop) (u9000_ : Value) (l0 : List Int) (a1 : Int) (a2 : Int) (r : List Int) (w0 w : World) (hB : Below w0.heap.size w0 w) (ho0 : Kd.R (Kd.int .u64) 33 w w0.heap.size P0_ u9000_ l0) (h : qsbpou6.f k l0 a1 a2 = some r) :
  Calls Tryd.prog 91 #[u9000_, .int .i64 a1, .int .i64 a2] w fun e w' => e = .returned (.tuple #[]) ∧ Kd.R (Kd.int .u64) 33 w' w0.heap.size (fun k_ => (P0_ k_ ∨ w.heap.size ≤ k_)) u9000_ r ∧ Below w0.heap.size w0 w' ∧ Kept w w' (fun k_ => P0_ k_) := by
 have HO0 := Zs.mk (show Kd.R (Kd.int .u64) 33 w w0.heap.size (fun k_ => (P0_ k_ ∨ w.heap.size ≤ k_)) u9000_ l0 from Kd.R_mono ho0 (fun k_ hk => (.inl hk)))
 have HK := Zs.mk (Kept.refl w (fun k_ => P0_ k_))
 have HW0 := Zs.mk hB.size
 have HB := Zs.mk hB
 clear hB
 have H : (if (wrap64 (a2 - a1)) ≥ 8 then ((qsnpot.f k (wrap64 (a2 - a1))).bind fun t102 => (qsbpou6.l0 k l0 a1 (wrap64 (a2 - a1)) t102 (wrap64 ((wrap64 (a1 + (wrap64 ((wrap64 (Int.tdiv (wrap64 (a2 - a1)) 4)) * 2)))) - 1)) (IntKind.u64.wrap (wrap64 (a2 - a1))))) else (some l0)) = some r := h
 clear h
 by_cases c4 : (wrap64 (a2 - a1)) ≥ 8
 ·rw [if_pos c4] at H
  have c4b0 : decide (8 ≤ (wrap64 (a2 - a1))) = true := decide_eq_true c4
  clear c4
  replace H := Option.bind_eq_some_iff.mp H
  obtain ⟨t102, A50, H⟩ := H
  replace H : (qsbpou6.l0 k l0 a1 (wrap64 (a2 - a1)) t102 (wrap64 ((wrap64 (a1 + (wrap64 ((wrap64 (Int.tdiv (wrap64 (a2 - a1)) 4)) * 2)))) - 1)) (IntKind.u64.wrap (wrap64 (a2 - a1)))) = some r := H
  have A5 := Zs.mk A50
  clear A50
  have H' := Zs.mk H
  clear H
  go_enter Tryd.func91, Tryd.ntmps91
  go_wp2_with (first | ((with_reducible refine gate_dst (N := 7) rfl ?_); refine box_event ?hg (N := 7) ?hd (cs := #[.int .u64 0]) (t := 183) ?hr ?_; (case hd => rfl); (case hg => rfl); (case hr => first | (go_simp; done) | (go_simp; rfl)); intro gb101 hg w6 hbox hb; have n0_ := Zs.mk (Kd.R_below (by (with_reducible repeat (first | apply Kd.R_alloc | apply Kd.R_drewN | apply Kd.R_drew)); exact HO0.out) hb); have n1_ := Zs.mk (Kept.below (S := (fun k_ => P0_ k_)) (by repeat (first | (with_reducible first | exact HK.out | apply Kept.alloc | apply Kept.drewN | apply Kept.drew) | exact HK.out)) hb); have n2_ := Zs.mk (below_step (by repeat (first | (with_reducible first | exact HB.out | apply zA | apply zB | apply zC) | exact HB.out)) hb); have n3_ := Zs.mk (hbox); have n4_ := Zs.mk ((by rw [hg]; exact (by first | exact HK.out.1 | exact (show Kept w _ (fun k_ => P0_ k_) from by repeat (first | (with_reducible first | exact HK.out | apply Kept.alloc | apply Kept.drewN | apply Kept.drew) | exact HK.out)).1) : w.heap.size ≤ gb101)); have n5_ := Zs.mk ((by rw [hg]; exact (below_size (by repeat (first | (with_reducible first | exact HB.out | apply zA | apply zB | apply zC) | exact HB.out))) : w0.heap.size ≤ gb101)); clear HO0; clear HK; clear HB; have HO0 := n0_; have HK := n1_; have HB := n2_; have BK101 := n3_; have GW101 := n4_; have GE101 := n5_; clear n0_ n1_ n2_ n3_ n4_ n5_; clear hb hbox hg; have hcz7_0 : w6.cell? ⟨gb101, 0, none⟩ = some (.int .u64 0) := (blk_cell BK101.out 0).trans rfl; have hfz7_0 := blk_frozen BK101.out 0) | ((with_reducible refine gate_callee (f := 127) rfl ?_); refine goesL_ (some 19) rfl rfl Tryd.func127 (by kernel_rfl) rfl #[.int .i64 (wrap64 (a2 - a1))] rfl (by (try simp only [List.map_toArray, List.map_cons, List.map_nil]); first | done | rfl | (simp only [List.length_drop, List.length_take]; rfl)) ?_; (with_reducible refine (qsnpot.calls k (wrap64 (a2 - a1)) t102 _ A5.out).mono ?_); rintro e w' ⟨rfl, ⟨nd, rfl⟩⟩; refine ⟨_, rfl, ?_⟩))
  go_loopg [9] k (fun kq v9 w' => ∃ (x0_1 : List Int) (x9_1 : Int) (x102000_1 : Int), v9 = .int .i64 x9_1 ∧ Zs (qsbpou6.l0 kq x0_1 a1 (wrap64 (a2 - a1)) t102 x9_1 x102000_1 = some r) ∧ Zs (kq ≤ k) ∧ Zs (Kd.R (Kd.int .u64) 33 w' w0.heap.size (fun k_ => (P0_ k_ ∨ w.heap.size ≤ k_)) u9000_ x0_1) ∧ Zs (w'.heap[gb101]? = some (.cells #[.int .u64 x102000_1] 183 (0, 0))) ∧ Zs (Kept w w' (fun k_ => P0_ k_)) ∧ Zs (Below w0.heap.size w0 w'))
  case atStart => exact ⟨(l0), (wrap64 ((wrap64 (a1 + (wrap64 ((wrap64 (Int.tdiv (wrap64 (a2 - a1)) 4)) * 2)))) - 1)), (IntKind.u64.wrap (wrap64 (a2 - a1))), (by first | rfl | (simp; done) | (simp [*]; done)), H', ⟨Nat.le_refl _⟩, ⟨by (with_reducible repeat (first | apply Kd.R_alloc | apply Kd.R_drewN | apply Kd.R_drew)); exact Kd.R_mono (Kd.R_far (p := ⟨gb101, 0, none⟩) (Kd.R_types HO0.out BK101.out (by decide)) (fun _ hk => hk.2) (.int .u64 (IntKind.u64.wrap (wrap64 (a2 - a1))))) (fun _ hk => hk.1)⟩, ⟨by (with_reducible repeat (first | refine blk_drewN ?_ _ | refine blk_drew ?_ | refine blk_alloc ?_ _)); refine blk_put (cs := #[.int .u64 0]) ?_ 0 _ rfl; (with_reducible repeat (first | refine blk_drewN ?_ _ | refine blk_drew ?_ | refine blk_alloc ?_ _)); exact BK101.out⟩, ⟨by repeat (first | (with_reducible first | exact HK.out | apply Kept.alloc | apply Kept.drewN | apply Kept.drew | refine Kept.setCell ?_ (.inr GW101.out) _) | exact HK.out)⟩, ⟨by repeat (first | (with_reducible first | exact HB.out | apply zA | apply zB | apply zC | refine below_set ?_ GE101.out) | exact HB.out)⟩⟩
  case round =>
   clear H'
   try clear c4; try clear c4b0; try clear hcz7_0; try clear hfz7_0
   obtain ⟨x0_1, x9_1, x102000_1, rfl, HA, HK1, HO_0, BK101, HK, HB⟩ := hrel
   cases gk with
   | zero => exact absurd HA.out (by simp [qsbpou6.l0])
   | succ k1 =>
    have H := HA.out
    clear HA
    simp only [qsbpou6.l0] at H
    by_cases c8 : x9_1 ≤ (wrap64 ((wrap64 (a1 + (wrap64 ((wrap64 (Int.tdiv (wrap64 (a2 - a1)) 4)) * 2)))) + 1))
    ·rw [if_pos c8] at H
     have c8b0 : decide (x9_1 ≤ (wrap64 ((wrap64 (a1 + (wrap64 ((wrap64 (Int.tdiv (wrap64 (a2 - a1)) 4)) * 2)))) + 1))) = true := decide_eq_true c8
     clear c8
     replace H := Option.bind_eq_some_iff.mp H
     obtain ⟨⟨t103, t104⟩, A90, H⟩ := H
     replace H : (if (wrap64 (Go.bits .and .u64 t103 (IntKind.u64.wrap (t102 - 1)))) ≥ (wrap64 (a2 - a1)) then (if 0 ≤ (wrap64 (a1 + (wrap64 ((wrap64 (Go.bits .and .u64 t103 (IntKind.u64.wrap (t102 - 1)))) - (wrap64 (a2 - a1)))))) then (if (wrap64 (a1 + (wrap64 ((wrap64 (Go.bits .and .u64 t103 (IntKind.u64.wrap (t102 - 1)))) - (wrap64 (a2 - a1)))))) < (x0_1.length : Int) then (if 0 ≤ x9_1 then (if x9_1 < (x0_1.length : Int) then (qsbpou6.l0 k1 ((x0_1.set (x9_1 : Int).toNat (rd x0_1 (wrap64 (a1 + (wrap64 ((wrap64 (Go.bits .and .u64 t103 (IntKind.u64.wrap (t102 - 1)))) - (wrap64 (a2 - a1)))))))).set ((wrap64 (a1 + (wrap64 ((wrap64 (Go.bits .and .u64 t103 (IntKind.u64.wrap (t102 - 1)))) - (wrap64 (a2 - a1)))))) : Int).toNat (rd x0_1 x9_1)) a1 (wrap64 (a2 - a1)) t102 (wrap64 (x9_1 + 1)) t104) else (none)) else (none)) else (none)) else (none)) else (if 0 ≤ (wrap64 (a1 + (wrap64 (Go.bits .and .u64 t103 (IntKind.u64.wrap (t102 - 1)))))) then (if (wrap64 (a1 + (wrap64 (Go.bits .and .u64 t103 (IntKind.u64.wrap (t102 - 1)))))) < (x0_1.length : Int) then (if 0 ≤ x9_1 then (if x9_1 < (x0_1.length : Int) then (qsbpou6.l0 k1 ((x0_1.set (x9_1 : Int).toNat (rd x0_1 (wrap64 (a1 + (wrap64 (Go.bits .and .u64 t103 (IntKind.u64.wrap (t102 - 1)))))))).set ((wrap64 (a1 + (wrap64 (Go.bits .and .u64 t103 (IntKind.u64.wrap (t102 - 1)))))) : Int).toNat (rd x0_1 x9_1)) a1 (wrap64 (a2 - a1)) t102 (wrap64 (x9_1 + 1)) t104) else (none)) else (none)) else (none)) else (none))) = some r := H
     have A9 := Zs.mk A90
     clear A90
     by_cases c10 : (wrap64 (Go.bits .and .u64 t103 (IntKind.u64.wrap (t102 - 1)))) ≥ (wrap64 (a2 - a1))
     ·rw [if_pos c10] at H
      have c10b0 : decide ((wrap64 (a2 - a1)) ≤ (wrap64 (Go.bits .and .u64 t103 (IntKind.u64.wrap (t102 - 1))))) = true := decide_eq_true c10
      clear c10
      obtain ⟨ji11, hji11⟩ : ∃ j_ : Int, (wrap64 (a1 + (wrap64 ((wrap64 (Go.bits .and .u64 t103 (IntKind.u64.wrap (t102 - 1)))) - (wrap64 (a2 - a1)))))) = j_ := ⟨_, rfl⟩
      replace H : (if 0 ≤ (ji11) then (if (ji11) < (x0_1.length : Int) then (if 0 ≤ x9_1 then (if x9_1 < (x0_1.length : Int) then (qsbpou6.l0 k1 ((x0_1.set (x9_1 : Int).toNat (rd x0_1 (ji11))).set ((ji11) : Int).toNat (rd x0_1 x9_1)) a1 (wrap64 (a2 - a1)) t102 (wrap64 (x9_1 + 1)) t104) else (none)) else (none)) else (none)) else (none)) = some r := by first | (rw [hji11] at H; exact H) | (simp only [hji11] at H ⊢; exact H)
      (try rw [hji11] at A9)
      have hji11w : (IntKind.i64.wrap (a1 + (wrap64 ((wrap64 (Go.bits .and .u64 t103 (IntKind.u64.wrap (t102 - 1)))) - (wrap64 (a2 - a1)))))) = ji11 := (i64_w _).trans hji11
      by_cases c12 : 0 ≤ (ji11)
      ·rw [if_pos c12] at H
       have c12b0 : decide (0 ≤ (ji11)) = true := decide_eq_true c12
       clear c12
       by_cases c13 : (ji11) < (x0_1.length : Int)
       ·rw [if_pos c13] at H
        have c13b0 : decide ((ji11) < (x0_1.length : Int)) = true := decide_eq_true c13
        clear c13
        by_cases c14 : 0 ≤ x9_1
        ·rw [if_pos c14] at H
         have c14b0 : decide (0 ≤ x9_1) = true := decide_eq_true c14
         clear c14
         by_cases c15 : x9_1 < (x0_1.length : Int)
         ·rw [if_pos c15] at H
          have c15b0 : decide (x9_1 < (x0_1.length : Int)) = true := decide_eq_true c15
          clear c15
          obtain ⟨y107, hy107⟩ : ∃ y_ : List Int, y_ = (x0_1.set (x9_1 : Int).toNat (rd x0_1 (ji11))) := ⟨_, rfl⟩
          replace H : (qsbpou6.l0 k1 (y107.set ((ji11) : Int).toNat (rd x0_1 x9_1)) a1 (wrap64 (a2 - a1)) t102 (wrap64 (x9_1 + 1)) t104) = some r := by first | (rw [hy107]; with_reducible exact H) | (have H2_ := (Option.bind_some _ _).symm.trans H; rw [hy107]; with_reducible exact H2_) | (have H2_ := (Option.bind_some _ _).symm.trans H; with_reducible exact H2_) | with_reducible exact H | (rw [hy107]; exact H) | exact H
          have Ny107 := Zs.mk hy107
          clear hy107
          obtain ⟨y108, hy108⟩ : ∃ y_ : List Int, y_ = (y107.set ((ji11) : Int).toNat (rd x0_1 x9_1)) := ⟨_, rfl⟩
          replace H : (qsbpou6.l0 k1 y108 a1 (wrap64 (a2 - a1)) t102 (wrap64 (x9_1 + 1)) t104) = some r := by first | (rw [hy108]; with_reducible exact H) | (have H2_ := (Option.bind_some _ _).symm.trans H; rw [hy108]; with_reducible exact H2_) | (have H2_ := (Option.bind_some _ _).symm.trans H; with_reducible exact H2_) | with_reducible exact H | (rw [hy108]; exact H) | exact H
          have Ny108 := Zs.mk hy108
          clear hy108
          have H' := Zs.mk H
          clear H
          try go_wp2_with (first | (go_at_call 128; (with_reducible refine (qsxn.calls gb101 x102000_1 t103 t104 w0 _ ?side1 ?side2 A9.out).mono ?_); (case side1 => repeat (first | (with_reducible first | exact (Zs.mk (show IsS183 w0 _ gb101 _ from ⟨BK101.out, GE101.out⟩)).out | apply IsS183.alloc | apply IsS183.drewN | apply IsS183.drew | apply IsS183.set_0 | refine IsS183.far ?_ NB101_101.out _) | exact (Zs.mk (show IsS183 w0 _ gb101 _ from ⟨BK101.out, GE101.out⟩)).out)); (case side2 => repeat (first | (with_reducible first | exact HB.out | apply zA | apply zB | apply zC | refine below_set ?_ GE101.out) | exact HB.out)); rintro e w18 ⟨rfl, hi, hb, hk⟩; have n0_ := Zs.mk (Kd.R_mono (Kd.R_keep (IsS183.apart (show IsS183 w0 _ gb101 x102000_1 from by repeat (first | (with_reducible first | exact (Zs.mk (show IsS183 w0 _ gb101 _ from ⟨BK101.out, GE101.out⟩)).out | apply IsS183.alloc | apply IsS183.drewN | apply IsS183.drew | apply IsS183.set_0 | refine IsS183.far ?_ NB101_101.out _) | exact (Zs.mk (show IsS183 w0 _ gb101 _ from ⟨BK101.out, GE101.out⟩)).out)) (by (with_reducible repeat (first | apply Kd.R_alloc | apply Kd.R_drewN | apply Kd.R_drew)); exact HO_0.out) (by decide)) hk (fun _ h => h.2)) (fun _ h => h.1)); have n1_ := Zs.mk (hi.1); have n2_ := Zs.mk (Kept.of_keep (by repeat (first | (with_reducible first | exact HK.out | apply Kept.alloc | apply Kept.drewN | apply Kept.drew | refine Kept.setCell ?_ (.inr GW101.out) _) | exact HK.out)) hk (.inr GW101.out)); have n3_ := Zs.mk (hb); clear HO_0; clear BK101; clear HK; clear HB; have HO_0 := n0_; have BK101 := n1_; have HK := n2_; have HB := n3_; clear n0_ n1_ n2_ n3_; (try clear hb); (try clear hb2); (try clear hk); (try clear hi)))
          have n0_ := Zs.mk (Kd.R_drew HO_0.out)
          have n1_ := Zs.mk (blk_drew BK101.out)
          have n2_ := Zs.mk (Kept.drew HK.out)
          have n3_ := Zs.mk (zC HB.out)
          clear HO_0
          clear BK101
          clear HK
          clear HB
          have HO_0 := n0_
          have BK101 := n1_
          have HK := n2_
          have HB := n3_
          clear n0_ n1_ n2_ n3_
          obtain ⟨Ao20, co20, eo20⟩ := Kd.R_slice HO_0.out
          (first | subst eo20 | (injection eo20 with f1_ f2_ f3_; have f4_ := f1_.symm; have f5_ := f3_.symm; clear f1_ f2_ f3_; subst f4_; subst f5_))
          have p105 : 0 ≤ ((ji11) : Int) := of_decide_eq_true (by first | (with_reducible assumption) | assumption)
          have q105 : (ji11) < (x0_1.length : Int) := of_decide_eq_true (by first | (with_reducible assumption) | assumption)
          obtain ⟨ad105, e105, hx105_0⟩ := Kd.at_int (Kd.R_reads' HO_0.out).2.2 (ji11) p105 q105
          cases e105
          replace p105 := eq_true p105
          replace q105 := eq_true q105
          have p106 : 0 ≤ (x9_1 : Int) := of_decide_eq_true (by first | (with_reducible assumption) | assumption)
          have q106 : x9_1 < (x0_1.length : Int) := of_decide_eq_true (by first | (with_reducible assumption) | assumption)
          obtain ⟨ad106, e106, hx106_0⟩ := Kd.at_int (Kd.R_reads' HO_0.out).2.2 x9_1 p106 q106
          obtain rfl : ad105 = ad106 := (by injection e106)
          replace p106 := eq_true p106
          replace q106 := eq_true q106
          have p16 : 0 ≤ (x9_1 : Int) := of_decide_eq_true (by first | (with_reducible assumption) | assumption)
          have q16 : (x9_1 : Int) < ((x0_1.length : Int) : Int) := of_decide_eq_true (by first | (with_reducible assumption) | assumption)
          obtain ⟨go16, co16, eo16, gb16, gl16, cl16, HG16⟩ := Kd.R_form HO_0.out (by omega)
          (first | cases eo16 | (injection eo16 with ea_ en_ ec_; (first | subst ea_ | (injection ea_ with ea_; subst ea_)); subst ec_; clear en_))
          have GB16 := Zs.mk gb16
          have GG16 := Zs.mk HG16
          clear gb16 gl16 HG16
          have HMgo16 := Zs.mk (show (P0_ go16 ∨ w.heap.size ≤ go16) from (HO_0.out.1 _ rfl))
          (first | simp only [add_plain] at hx105_0 | skip)
          (first | simp only [add_plain] at hx106_0 | skip)
          obtain ⟨hx16_0, hf16_0⟩ := Kd.R_celln 0 HO_0.out (x9_1 : Int) p16 q16
          replace p16 := eq_true p16
          replace q16 := eq_true q16
          have HP21 := Kd.R_putn HO_0.out (x9_1 : Int) (rd x0_1 (ji11))
          rw [← Ny107.out] at HP21
          have HQ21 := Zs.mk HP21
          clear HP21
          have p17 : 0 ≤ ((ji11) : Int) := of_decide_eq_true (by first | (with_reducible assumption) | assumption)
          have q17 : ((ji11) : Int) < ((x0_1.length : Int) : Int) := of_decide_eq_true (by first | (with_reducible assumption) | assumption)
          obtain ⟨hx17_0, hf17_0⟩ := Kd.R_celln 0 HQ21.out ((ji11) : Int) p17 q17
          replace p17 := eq_true p17
          replace q17 := eq_true q17
          have HP22 := Kd.R_putn HQ21.out ((ji11) : Int) (rd x0_1 x9_1)
          rw [← Ny108.out] at HP22
          have HQ22 := Zs.mk HP22
          clear HP22
          refine start_ (n := 20) (S := fun w' => w'.cell? ⟨go16, ((ji11)).toNat, none⟩ = some (.int .u64 (rd x0_1 (ji11))) ∧ w'.cell? ⟨go16, (x9_1).toNat, none⟩ = some (.int .u64 (rd x0_1 x9_1))) (ds := [17, 19]) (ba 20 0) (by kernel_rfl) rfl rfl ⟨hx105_0, hx106_0⟩ (fun hHeld => ?_); refine zT qsbpou6.tab10 qsbpou6.bits10 (fun HT_ HW_ => ?_)
          generalize w18.drew = w19 at HO_0 BK101 HK HB GG16 HQ21 HQ22 hf16_0 hf17_0 hx105_0 hx106_0 hx16_0 hx17_0 hHeld ⊢
          refine' pu 0 (some 47) (ba 20 1) HT_ rfl rfl (by kernel_rfl) (fun _ _ _ => id) ?_ ?_ ?_ <| pu 1 (some 48) (ba 20 3) HT_ rfl rfl (by kernel_rfl) (fun _ _ _ => id) ?_ ?_ ?_ <| pu 2 (some 49) (ba 20 7) HT_ rfl rfl (by kernel_rfl) (fun _ _ _ => id) ?_ ?_ ?_ <| pu 3 (some 50) (ba 20 15) HT_ rfl rfl (by kernel_rfl) (fun _ _ _ => id) ?_ ?_ ?_ <| pu 4 (some 51) (ba 20 31) HT_ rfl rfl (by kernel_rfl) (fun _ _ _ => id) ?_ ?_ ?_ <| pu 5 (some 52) (ba 20 63) HT_ rfl rfl (by kernel_rfl) (fun _ _ _ => id) ?_ ?_ ?_ <| pu 6 (some 53) (ba 20 127) HT_ rfl rfl (by kernel_rfl) (fun _ _ _ => id) ?_ ?_ ?_ <| pu 7 (some 54) (ba 20 255) HT_ rfl rfl (by kernel_rfl) (fun _ _ _ => id) ?_ ?_ ?_ <| pu 8 (some 55) (ba 20 511) HT_ rfl rfl (by kernel_rfl) (fun _ _ _ => id) ?_ ?_ ?_ <| pu 9 (some 56) (ba 20 1023) HT_ rfl rfl (by kernel_rfl) (fun _ _ _ => id) ?_ ?_ ?_ <| pu 10 (some 57) (ba 20 2047) HT_ rfl rfl (by kernel_rfl) (fun _ _ _ => id) ?_ ?_ ?_ <| pu 12 (some 59) (ba 20 6143) HT_ rfl rfl (by kernel_rfl) (fun _ _ _ => id) ?_ ?_ ?_ <| pu 13 (some 60) (ba 20 14335) HT_ rfl rfl (by kernel_rfl) (fun _ _ _ => id) ?_ ?_ ?_ <| pu 14 (some 61) (ba 20 30719) HT_ rfl rfl (by kernel_rfl) (fun _ _ _ => id) ?_ ?_ ?_ <| ta 11 (some 58) (ba 20 32767) HT_ HW_ rfl rfl (by kernel_rfl) (fun _ _ _ => id) ?_ ?_ hHeld ?_ <| ta 15 (some 62) (ba 20 65535) HT_ HW_ rfl rfl (by kernel_rfl) (fun _ _ _ => id) ?_ ?_ hHeld ?_ <| pu 16 (some 63) (ba 20 131071) HT_ rfl rfl (by kernel_rfl) (fun _ _ _ => id) ?_ ?_ ?_ <| ?_
          any_goals (first | (show Region.wanted _ _ = _; rfl) | (rintro w' ⟨s0, s1⟩; go_simp; with_reducible rfl) | (intro w'; go_simp; with_reducible rfl) | (simp only [Act.put, List.setIfInBounds_toArray, List.set_cons_zero, List.set_cons_succ, i64_w, i32_w]; rfl))
          refine last_ (i := 17) (N := none) (ba 20 262143) rfl rfl (one_of HT_.out (by kernel_rfl)) (by decide) (fun K hK => ?_)
          refine skip_ (w1 := ?_) (by rfl) rfl ?_ ?_
          rotate_left
          ·go_simp
           rfl
          refine hK.out _ _ ?_
          clear hK K
          refine' pu 18 (some 64) (ba 20 524287) HT_ rfl rfl (by kernel_rfl) (fun _ _ _ => id) ?_ ?_ ?_ <| ?_
          any_goals (first | (show Region.wanted _ _ = _; rfl) | (intro w'; go_simp; with_reducible rfl) | (simp only [Act.put, List.setIfInBounds_toArray, List.set_cons_zero, List.set_cons_succ, i64_w, i32_w]; rfl))
          refine last_ (i := 19) (N := none) (ba 20 1048575) rfl rfl (one_of HT_.out (by kernel_rfl)) (by decide) (fun K hK => ?_)
          refine skip_ (w1 := ?_) (by rfl) rfl ?_ ?_
          rotate_left
          ·go_simp
           rfl
          refine hK.out _ _ ?_
          clear hK K
          refine done_ (done_of HT_.out (by kernel_rfl)) ?_
          try go_wp2
          go_roundg k1
          case measure => have := HK1.out; omega
          case rel => exact ⟨(y108), (wrap64 (x9_1 + 1)), (t104), (by first | rfl | (simp; done) | (simp [*]; done)), H', ⟨by have := HK1.out; omega⟩, ⟨by (with_reducible repeat (first | apply Kd.R_alloc | apply Kd.R_drewN | apply Kd.R_drew)); exact HQ22.out⟩, ⟨by (with_reducible repeat (first | refine blk_drewN ?_ _ | refine blk_drew ?_ | refine blk_alloc ?_ _)); refine blk_far ?_ (by have h_ := Kd.R_ne HO_0.out BK101.out (by decide); intro e_; exact h_ (by rw [e_]; rfl)) _; (with_reducible repeat (first | refine blk_drewN ?_ _ | refine blk_drew ?_ | refine blk_alloc ?_ _)); refine blk_far ?_ (by have h_ := Kd.R_ne HO_0.out BK101.out (by decide); intro e_; exact h_ (by rw [e_]; rfl)) _; (with_reducible repeat (first | refine blk_drewN ?_ _ | refine blk_drew ?_ | refine blk_alloc ?_ _)); exact BK101.out⟩, ⟨by repeat (first | (with_reducible first | exact HK.out | apply Kept.alloc | apply Kept.drewN | apply Kept.drew | refine Kept.setCell ?_ HMgo16.out _ | refine Kept.setCell ?_ HMgo16.out _ | refine Kept.setCell ?_ (.inr GW101.out) _) | exact HK.out)⟩, ⟨by repeat (first | (with_reducible first | exact HB.out | apply zA | apply zB | apply zC | refine below_set ?_ GB16.out | refine below_set ?_ GB16.out | refine below_set ?_ GE101.out) | exact HB.out)⟩⟩
         ·rw [if_neg c15] at H
          exact absurd H (by simp)
        ·rw [if_neg c14] at H
         exact absurd H (by simp)
       ·rw [if_neg c13] at H
        exact absurd H (by simp)
      ·rw [if_neg c12] at H
       exact absurd H (by simp)
     ·rw [if_neg c10] at H
      have c10b0 : decide ((wrap64 (a2 - a1)) ≤ (wrap64 (Go.bits .and .u64 t103 (IntKind.u64.wrap (t102 - 1))))) = false := decide_eq_false c10
      clear c10
      obtain ⟨ji23, hji23⟩ : ∃ j_ : Int, (wrap64 (a1 + (wrap64 (Go.bits .and .u64 t103 (IntKind.u64.wrap (t102 - 1)))))) = j_ := ⟨_, rfl⟩
      replace H : (if 0 ≤ (ji23) then (if (ji23) < (x0_1.length : Int) then (if 0 ≤ x9_1 then (if x9_1 < (x0_1.length : Int) then (qsbpou6.l0 k1 ((x0_1.set (x9_1 : Int).toNat (rd x0_1 (ji23))).set ((ji23) : Int).toNat (rd x0_1 x9_1)) a1 (wrap64 (a2 - a1)) t102 (wrap64 (x9_1 + 1)) t104) else (none)) else (none)) else (none)) else (none)) = some r := by first | (rw [hji23] at H; exact H) | (simp only [hji23] at H ⊢; exact H)
      (try rw [hji23] at A9)
      have hji23w : (IntKind.i64.wrap (a1 + (wrap64 (Go.bits .and .u64 t103 (IntKind.u64.wrap (t102 - 1)))))) = ji23 := (i64_w _).trans hji23
      by_cases c24 : 0 ≤ (ji23)
      ·rw [if_pos c24] at H
       have c24b0 : decide (0 ≤ (ji23)) = true := decide_eq_true c24
       clear c24
       by_cases c25 : (ji23) < (x0_1.length : Int)
       ·rw [if_pos c25] at H
        have c25b0 : decide ((ji23) < (x0_1.length : Int)) = true := decide_eq_true c25
        clear c25
        by_cases c26 : 0 ≤ x9_1
        ·rw [if_pos c26] at H
         have c26b0 : decide (0 ≤ x9_1) = true := decide_eq_true c26
         clear c26
         by_cases c27 : x9_1 < (x0_1.length : Int)
         ·rw [if_pos c27] at H
          have c27b0 : decide (x9_1 < (x0_1.length : Int)) = true := decide_eq_true c27
          clear c27
          obtain ⟨y111, hy111⟩ : ∃ y_ : List Int, y_ = (x0_1.set (x9_1 : Int).toNat (rd x0_1 (ji23))) := ⟨_, rfl⟩
          replace H : (qsbpou6.l0 k1 (y111.set ((ji23) : Int).toNat (rd x0_1 x9_1)) a1 (wrap64 (a2 - a1)) t102 (wrap64 (x9_1 + 1)) t104) = some r := by first | (rw [hy111]; with_reducible exact H) | (have H2_ := (Option.bind_some _ _).symm.trans H; rw [hy111]; with_reducible exact H2_) | (have H2_ := (Option.bind_some _ _).symm.trans H; with_reducible exact H2_) | with_reducible exact H | (rw [hy111]; exact H) | exact H
          have Ny111 := Zs.mk hy111
          clear hy111
          obtain ⟨y112, hy112⟩ : ∃ y_ : List Int, y_ = (y111.set ((ji23) : Int).toNat (rd x0_1 x9_1)) := ⟨_, rfl⟩
          replace H : (qsbpou6.l0 k1 y112 a1 (wrap64 (a2 - a1)) t102 (wrap64 (x9_1 + 1)) t104) = some r := by first | (rw [hy112]; with_reducible exact H) | (have H2_ := (Option.bind_some _ _).symm.trans H; rw [hy112]; with_reducible exact H2_) | (have H2_ := (Option.bind_some _ _).symm.trans H; with_reducible exact H2_) | with_reducible exact H | (rw [hy112]; exact H) | exact H
          have Ny112 := Zs.mk hy112
          clear hy112
          have H' := Zs.mk H
          clear H
          try go_wp2_with (first | (go_at_call 128; (with_reducible refine (qsxn.calls gb101 x102000_1 t103 t104 w0 _ ?side1 ?side2 A9.out).mono ?_); (case side1 => repeat (first | (with_reducible first | exact (Zs.mk (show IsS183 w0 _ gb101 _ from ⟨BK101.out, GE101.out⟩)).out | apply IsS183.alloc | apply IsS183.drewN | apply IsS183.drew | apply IsS183.set_0 | refine IsS183.far ?_ NB101_101.out _) | exact (Zs.mk (show IsS183 w0 _ gb101 _ from ⟨BK101.out, GE101.out⟩)).out)); (case side2 => repeat (first | (with_reducible first | exact HB.out | apply zA | apply zB | apply zC | refine below_set ?_ GE101.out) | exact HB.out)); rintro e w30 ⟨rfl, hi, hb, hk⟩; have n0_ := Zs.mk (Kd.R_mono (Kd.R_keep (IsS183.apart (show IsS183 w0 _ gb101 x102000_1 from by repeat (first | (with_reducible first | exact (Zs.mk (show IsS183 w0 _ gb101 _ from ⟨BK101.out, GE101.out⟩)).out | apply IsS183.alloc | apply IsS183.drewN | apply IsS183.drew | apply IsS183.set_0 | refine IsS183.far ?_ NB101_101.out _) | exact (Zs.mk (show IsS183 w0 _ gb101 _ from ⟨BK101.out, GE101.out⟩)).out)) (by (with_reducible repeat (first | apply Kd.R_alloc | apply Kd.R_drewN | apply Kd.R_drew)); exact HO_0.out) (by decide)) hk (fun _ h => h.2)) (fun _ h => h.1)); have n1_ := Zs.mk (hi.1); have n2_ := Zs.mk (Kept.of_keep (by repeat (first | (with_reducible first | exact HK.out | apply Kept.alloc | apply Kept.drewN | apply Kept.drew | refine Kept.setCell ?_ (.inr GW101.out) _) | exact HK.out)) hk (.inr GW101.out)); have n3_ := Zs.mk (hb); clear HO_0; clear BK101; clear HK; clear HB; have HO_0 := n0_; have BK101 := n1_; have HK := n2_; have HB := n3_; clear n0_ n1_ n2_ n3_; (try clear hb); (try clear hb2); (try clear hk); (try clear hi)))
          have n0_ := Zs.mk (Kd.R_drew HO_0.out)
          have n1_ := Zs.mk (blk_drew BK101.out)
          have n2_ := Zs.mk (Kept.drew HK.out)
          have n3_ := Zs.mk (zC HB.out)
          clear HO_0
          clear BK101
          clear HK
          clear HB
          have HO_0 := n0_
          have BK101 := n1_
          have HK := n2_
          have HB := n3_
          clear n0_ n1_ n2_ n3_
          obtain ⟨Ao32, co32, eo32⟩ := Kd.R_slice HO_0.out
          (first | subst eo32 | (injection eo32 with f1_ f2_ f3_; have f4_ := f1_.symm; have f5_ := f3_.symm; clear f1_ f2_ f3_; subst f4_; subst f5_))
          have p109 : 0 ≤ ((ji23) : Int) := of_decide_eq_true (by first | (with_reducible assumption) | assumption)
          have q109 : (ji23) < (x0_1.length : Int) := of_decide_eq_true (by first | (with_reducible assumption) | assumption)
          obtain ⟨ad109, e109, hx109_0⟩ := Kd.at_int (Kd.R_reads' HO_0.out).2.2 (ji23) p109 q109
          cases e109
          replace p109 := eq_true p109
          replace q109 := eq_true q109
          have p110 : 0 ≤ (x9_1 : Int) := of_decide_eq_true (by first | (with_reducible assumption) | assumption)
          have q110 : x9_1 < (x0_1.length : Int) := of_decide_eq_true (by first | (with_reducible assumption) | assumption)
          obtain ⟨ad110, e110, hx110_0⟩ := Kd.at_int (Kd.R_reads' HO_0.out).2.2 x9_1 p110 q110
          obtain rfl : ad109 = ad110 := (by injection e110)
          replace p110 := eq_true p110
          replace q110 := eq_true q110
          have p28 : 0 ≤ (x9_1 : Int) := of_decide_eq_true (by first | (with_reducible assumption) | assumption)
          have q28 : (x9_1 : Int) < ((x0_1.length : Int) : Int) := of_decide_eq_true (by first | (with_reducible assumption) | assumption)
          obtain ⟨go28, co28, eo28, gb28, gl28, cl28, HG28⟩ := Kd.R_form HO_0.out (by omega)
          (first | cases eo28 | (injection eo28 with ea_ en_ ec_; (first | subst ea_ | (injection ea_ with ea_; subst ea_)); subst ec_; clear en_))
          have GB28 := Zs.mk gb28
          have GG28 := Zs.mk HG28
          clear gb28 gl28 HG28
          have HMgo28 := Zs.mk (show (P0_ go28 ∨ w.heap.size ≤ go28) from (HO_0.out.1 _ rfl))
          (first | simp only [add_plain] at hx109_0 | skip)
          (first | simp only [add_plain] at hx110_0 | skip)
          obtain ⟨hx28_0, hf28_0⟩ := Kd.R_celln 0 HO_0.out (x9_1 : Int) p28 q28
          replace p28 := eq_true p28
          replace q28 := eq_true q28
          have HP33 := Kd.R_putn HO_0.out (x9_1 : Int) (rd x0_1 (ji23))
          rw [← Ny111.out] at HP33
          have HQ33 := Zs.mk HP33
          clear HP33
          have p29 : 0 ≤ ((ji23) : Int) := of_decide_eq_true (by first | (with_reducible assumption) | assumption)
          have q29 : ((ji23) : Int) < ((x0_1.length : Int) : Int) := of_decide_eq_true (by first | (with_reducible assumption) | assumption)
          obtain ⟨hx29_0, hf29_0⟩ := Kd.R_celln 0 HQ33.out ((ji23) : Int) p29 q29
          replace p29 := eq_true p29
          replace q29 := eq_true q29
          have HP34 := Kd.R_putn HQ33.out ((ji23) : Int) (rd x0_1 x9_1)
          rw [← Ny112.out] at HP34
          have HQ34 := Zs.mk HP34
          clear HP34
          refine start_ (n := 20) (S := fun w' => w'.cell? ⟨go28, ((ji23)).toNat, none⟩ = some (.int .u64 (rd x0_1 (ji23))) ∧ w'.cell? ⟨go28, (x9_1).toNat, none⟩ = some (.int .u64 (rd x0_1 x9_1))) (ds := [17, 19]) (ba 20 0) (by kernel_rfl) rfl rfl ⟨hx109_0, hx110_0⟩ (fun hHeld => ?_); refine zT qsbpou6.tab10 qsbpou6.bits10 (fun HT_ HW_ => ?_)
          generalize w30.drew = w31 at HO_0 BK101 HK HB GG28 HQ33 HQ34 hf28_0 hf29_0 hx109_0 hx110_0 hx28_0 hx29_0 hHeld ⊢
          refine' pu 0 (some 47) (ba 20 1) HT_ rfl rfl (by kernel_rfl) (fun _ _ _ => id) ?_ ?_ ?_ <| pu 1 (some 48) (ba 20 3) HT_ rfl rfl (by kernel_rfl) (fun _ _ _ => id) ?_ ?_ ?_ <| pu 2 (some 49) (ba 20 7) HT_ rfl rfl (by kernel_rfl) (fun _ _ _ => id) ?_ ?_ ?_ <| pu 3 (some 50) (ba 20 15) HT_ rfl rfl (by kernel_rfl) (fun _ _ _ => id) ?_ ?_ ?_ <| pu 4 (some 51) (ba 20 31) HT_ rfl rfl (by kernel_rfl) (fun _ _ _ => id) ?_ ?_ ?_ <| pu 5 (some 52) (ba 20 63) HT_ rfl rfl (by kernel_rfl) (fun _ _ _ => id) ?_ ?_ ?_ <| pu 6 (some 53) (ba 20 127) HT_ rfl rfl (by kernel_rfl) (fun _ _ _ => id) ?_ ?_ ?_ <| pu 7 (some 54) (ba 20 255) HT_ rfl rfl (by kernel_rfl) (fun _ _ _ => id) ?_ ?_ ?_ <| pu 8 (some 55) (ba 20 511) HT_ rfl rfl (by kernel_rfl) (fun _ _ _ => id) ?_ ?_ ?_ <| pu 9 (some 56) (ba 20 1023) HT_ rfl rfl (by kernel_rfl) (fun _ _ _ => id) ?_ ?_ ?_ <| pu 10 (some 57) (ba 20 2047) HT_ rfl rfl (by kernel_rfl) (fun _ _ _ => id) ?_ ?_ ?_ <| pu 12 (some 59) (ba 20 6143) HT_ rfl rfl (by kernel_rfl) (fun _ _ _ => id) ?_ ?_ ?_ <| pu 13 (some 60) (ba 20 14335) HT_ rfl rfl (by kernel_rfl) (fun _ _ _ => id) ?_ ?_ ?_ <| pu 14 (some 61) (ba 20 30719) HT_ rfl rfl (by kernel_rfl) (fun _ _ _ => id) ?_ ?_ ?_ <| ta 11 (some 58) (ba 20 32767) HT_ HW_ rfl rfl (by kernel_rfl) (fun _ _ _ => id) ?_ ?_ hHeld ?_ <| ta 15 (some 62) (ba 20 65535) HT_ HW_ rfl rfl (by kernel_rfl) (fun _ _ _ => id) ?_ ?_ hHeld ?_ <| pu 16 (some 63) (ba 20 131071) HT_ rfl rfl (by kernel_rfl) (fun _ _ _ => id) ?_ ?_ ?_ <| ?_
          any_goals (first | (show Region.wanted _ _ = _; rfl) | (rintro w' ⟨s0, s1⟩; go_simp; with_reducible rfl) | (intro w'; go_simp; with_reducible rfl) | (simp only [Act.put, List.setIfInBounds_toArray, List.set_cons_zero, List.set_cons_succ, i64_w, i32_w]; rfl))
          refine last_ (i := 17) (N := none) (ba 20 262143) rfl rfl (one_of HT_.out (by kernel_rfl)) (by decide) (fun K hK => ?_)
          refine skip_ (w1 := ?_) (by rfl) rfl ?_ ?_
          rotate_left
          ·go_simp
           rfl
          refine hK.out _ _ ?_
          clear hK K
          refine' pu 18 (some 64) (ba 20 524287) HT_ rfl rfl (by kernel_rfl) (fun _ _ _ => id) ?_ ?_ ?_ <| ?_
          any_goals (first | (show Region.wanted _ _ = _; rfl) | (intro w'; go_simp; with_reducible rfl) | (simp only [Act.put, List.setIfInBounds_toArray, List.set_cons_zero, List.set_cons_succ, i64_w, i32_w]; rfl))
          refine last_ (i := 19) (N := none) (ba 20 1048575) rfl rfl (one_of HT_.out (by kernel_rfl)) (by decide) (fun K hK => ?_)
          refine skip_ (w1 := ?_) (by rfl) rfl ?_ ?_
          rotate_left
          ·go_simp
           rfl
          refine hK.out _ _ ?_
          clear hK K
          refine done_ (done_of HT_.out (by kernel_rfl)) ?_
          try go_wp2
          go_roundg k1
          case measure => have := HK1.out; omega
          case rel => exact ⟨(y112), (wrap64 (x9_1 + 1)), (t104), (by first | rfl | (simp; done) | (simp [*]; done)), H', ⟨by have := HK1.out; omega⟩, ⟨by (with_reducible repeat (first | apply Kd.R_alloc | apply Kd.R_drewN | apply Kd.R_drew)); exact HQ34.out⟩, ⟨by (with_reducible repeat (first | refine blk_drewN ?_ _ | refine blk_drew ?_ | refine blk_alloc ?_ _)); refine blk_far ?_ (by have h_ := Kd.R_ne HO_0.out BK101.out (by decide); intro e_; exact h_ (by rw [e_]; rfl)) _; (with_reducible repeat (first | refine blk_drewN ?_ _ | refine blk_drew ?_ | refine blk_alloc ?_ _)); refine blk_far ?_ (by have h_ := Kd.R_ne HO_0.out BK101.out (by decide); intro e_; exact h_ (by rw [e_]; rfl)) _; (with_reducible repeat (first | refine blk_drewN ?_ _ | refine blk_drew ?_ | refine blk_alloc ?_ _)); exact BK101.out⟩, ⟨by repeat (first | (with_reducible first | exact HK.out | apply Kept.alloc | apply Kept.drewN | apply Kept.drew | refine Kept.setCell ?_ HMgo28.out _ | refine Kept.setCell ?_ HMgo28.out _ | refine Kept.setCell ?_ (.inr GW101.out) _) | exact HK.out)⟩, ⟨by repeat (first | (with_reducible first | exact HB.out | apply zA | apply zB | apply zC | refine below_set ?_ GB28.out | refine below_set ?_ GB28.out | refine below_set ?_ GE101.out) | exact HB.out)⟩⟩
         ·rw [if_neg c27] at H
          exact absurd H (by simp)
        ·rw [if_neg c26] at H
         exact absurd H (by simp)
       ·rw [if_neg c25] at H
        exact absurd H (by simp)
      ·rw [if_neg c24] at H
       exact absurd H (by simp)
    ·rw [if_neg c8] at H
     have c8b0 : decide (x9_1 ≤ (wrap64 ((wrap64 (a1 + (wrap64 ((wrap64 (Int.tdiv (wrap64 (a2 - a1)) 4)) * 2)))) + 1))) = false := decide_eq_false c8
     clear c8
     obtain rfl := Option.some.inj H
     go_wp2
     first | go_end0 | ((try simp only [Exit.inBlock, Exit.then]); refine bodyPost_ret (results_none rfl _ _ _) rfl ?_)
     exact ⟨by first | rfl | (simp [zE, zF] <;> rfl) | (simp [*, zE, zF] <;> rfl), by (with_reducible repeat (first | apply Kd.R_alloc | apply Kd.R_drewN | apply Kd.R_drew)); exact HO_0.out, by repeat (first | (with_reducible first | exact HB.out | apply zA | apply zB | apply zC | refine below_set ?_ GE101.out) | exact HB.out), by repeat (first | (with_reducible first | exact HK.out | apply Kept.alloc | apply Kept.drewN | apply Kept.drew | refine Kept.setCell ?_ (.inr GW101.out) _) | exact HK.out)⟩
 ·rw [if_neg c4] at H
  have c4b0 : decide (8 ≤ (wrap64 (a2 - a1))) = false := decide_eq_false c4
  clear c4
  obtain rfl := Option.some.inj H
  go_enter Tryd.func91, Tryd.ntmps91
  go_wp2
  first | go_end0 | ((try simp only [Exit.inBlock, Exit.then]); refine bodyPost_ret (results_none rfl _ _ _) rfl ?_)
  exact ⟨by first | rfl | (simp [zE, zF] <;> rfl) | (simp [*, zE, zF] <;> rfl), by (with_reducible repeat (first | apply Kd.R_alloc | apply Kd.R_drewN | apply Kd.R_drew)); exact HO0.out, by repeat (first | (with_reducible first | exact HB.out | apply zA | apply zB | apply zC) | exact HB.out), by repeat (first | (with_reducible first | exact HK.out | apply Kept.alloc | apply Kept.drewN | apply Kept.drew) | exact HK.out)⟩
def IsS3 (w0 W : World) (g : Nat) (f0 : Int) : Prop := W.heap[g]? = some (.cells #[.int .i64 f0] 3 (0, 0)) ∧ w0.heap.size ≤ g
theorem IsS3.grown {w0 W : World} {g : Nat} {f0 : Int} {W1 : World} {row : Option Nat} (h : IsS3 w0 W g f0) (hw : W.grownBy W1 row) (hne : some g ≠ row) : IsS3 w0 W1 g f0 := by
 obtain ⟨hb, hg⟩ := h
 exact ⟨blk_grown hb hw hne, hg⟩
theorem IsS3.kept {w0 W : World} {g : Nat} {f0 : Int} {W1 : World} {S : Nat → Prop} (h : IsS3 w0 W g f0) (hk : Kept W W1 S) (hne : ¬ S g) : IsS3 w0 W1 g f0 := by
 obtain ⟨hb, hg⟩ := h
 exact ⟨blk_kept hb hk hne, hg⟩
theorem IsS3.below {w0 W : World} {g : Nat} {f0 : Int} {W1 : World} (h : IsS3 w0 W g f0) (hw : Below W.heap.size W W1) : IsS3 w0 W1 g f0 := h.grown (grown_of_below hw none) (by simp)
theorem IsS3.alloc {w0 W : World} {g : Nat} {f0 : Int} (h : IsS3 w0 W g f0) (o : Obj) : IsS3 w0 (W.alloc o) g f0 := h.below (zA (Below.refl _ _) o)
theorem IsS3.drewN {w0 W : World} {g : Nat} {f0 : Int} (h : IsS3 w0 W g f0) (m : Nat) : IsS3 w0 (W.drewN m) g f0 := h
theorem IsS3.drew {w0 W : World} {g : Nat} {f0 : Int} (h : IsS3 w0 W g f0) : IsS3 w0 W.drew g f0 := h
theorem IsS3.at_ {w0 W : World} {g : Nat} {f0 : Int} {w' : World} {m : Nat} (hq : W.drewN m = w') (h : IsS3 w0 W g f0) : IsS3 w0 w' g f0 := by subst hq; exact IsS3.drewN h m
theorem IsS3.apart {w0 W : World} {g : Nat} {f0 : Int} {α : Type} {d : Kd α} {e : Nat} {base : Nat} {ok : Nat → Prop} {v : Value} {xs : List α} (h : IsS3 w0 W g f0) (ho : d.R e W base ok v xs) (ht : ∀ q, q ∈ e :: d.E → q ≠ 3) : d.R e W base (fun k => ok k ∧ k ≠ g) v xs := by
 obtain ⟨hb, hg⟩ := h
 exact Kd.R_types ho hb ht
theorem IsS3.own_ne {w0 W : World} {g : Nat} {f0 : Int} {α : Type} {d : Kd α} {e : Nat} {base : Nat} {ok : Nat → Prop} {v : Value} {xs : List α} (h : IsS3 w0 W g f0) (ho : d.R e W base ok v xs) (ht : e ≠ 3) : some g ≠ v.ownBlock := by
 obtain ⟨hb, hg⟩ := h
 exact Kd.R_ne ho hb ht
theorem IsS3.lt {w0 W : World} {g : Nat} {f0 : Int} (h : IsS3 w0 W g f0) : g < W.heap.size := by
 obtain ⟨hb, hg⟩ := h
 exact blk_lt hb
theorem IsS3.ge {w0 W : World} {g : Nat} {f0 : Int} (h : IsS3 w0 W g f0) : w0.heap.size ≤ g := by
 obtain ⟨hb, hg⟩ := h
 exact hg
theorem IsS3.far {w0 W : World} {g : Nat} {f0 : Int} {p : Addr} (h : IsS3 w0 W g f0) (hne : g ≠ p.block) (u : Value) : IsS3 w0 (W.setCell p u) g f0 := by
 obtain ⟨hb, hg⟩ := h
 exact ⟨blk_far hb hne u, hg⟩
theorem cellS3_0 {W : World} {g : Nat} {f0 : Int} (h : W.heap[g]? = some (.cells #[.int .i64 f0] 3 (0, 0))) : W.cell? ⟨g, 0, none⟩ = some (.int .i64 f0) := (blk_cell h 0).trans rfl
theorem IsS3.set_0 {w0 W : World} {g : Nat} {f0 : Int} (h : IsS3 w0 W g f0) (x : Int) : IsS3 w0 (W.setCell ⟨g, 0, none⟩ (.int .i64 x)) g x := by
 obtain ⟨hb, hg⟩ := h
 exact ⟨by simpa using blk_set hb 0 (.int .i64 x), hg⟩
theorem IsS3.new (w0 W : World) (f0 : Int) (hB : Below w0.heap.size w0 W) : IsS3 w0 (W.alloc (.cells #[.int .i64 f0] 3)) W.heap.size f0 := ⟨by simpa using heap_alloc_new W _, hB.size⟩

def qso2ou6.f (l0 : List Int) (a1 : Int) (a2 : Int) (s3_0 : Int) : Option (Int × Int × Int) := if 0 ≤ a2 then (if a2 < (l0.length : Int) then (if 0 ≤ a1 then (if a1 < (l0.length : Int) then ((qclu6.f (rd l0 a2) (rd l0 a1)).bind fun t103 => (if t103 = true then (some (a2, a1, wrap64 (s3_0 + 1))) else (some (a1, a2, s3_0)))) else (none)) else (none)) else (none)) else (none)
set_option maxHeartbeats 8000000 in
set_option maxRecDepth 100000 in
theorem qso2ou6.calls (A0 : Option Addr) (c0 : Nat) (l0 : List Int) (a1 : Int) (a2 : Int) (g : Nat) (s3_0 : Int) (r1 : Int) (r2 : Int) (r3 : Int) (w0 w : World) (hI : IsS3 w0 w g s3_0) (hB : Below w0.heap.size w0 w) (hr0 : Kd.C (Kd.int .u64) w A0 l0.length l0) (hc0 : l0.length ≤ c0) (hf0 : ∀ ad, A0 = some ad → 0 < l0.length → ad.block ≠ g) (h : qso2ou6.f l0 a1 a2 s3_0 = some (r1, r2, r3)) :
  Calls Tryd.prog 151 #[.slice A0 l0.length c0, .int .i64 a1, .int .i64 a2, .pointer (some ⟨g, 0, none⟩)] w fun e w' => e = .returned (.tuple #[.int .i64 r1, .int .i64 r2]) ∧ IsS3 w0 w' g r3 ∧ Below w0.heap.size w0 w' ∧ KeepBut w w' g none := by
 have HR0 := Zs.mk hr0
 have HC0 := Zs.mk hc0
 clear hr0 hc0
 have HI3 := Zs.mk hI
 have HK := Zs.mk (KeepBut.refl w g none)
 have HL := Zs.mk hB.size
 clear hI
 have HW0 := Zs.mk hB.size
 have HB := Zs.mk hB
 clear hB
 have H : (if 0 ≤ a2 then (if a2 < (l0.length : Int) then (if 0 ≤ a1 then (if a1 < (l0.length : Int) then ((qclu6.f (rd l0 a2) (rd l0 a1)).bind fun t103 => (if t103 = true then (some (a2, a1, wrap64 (s3_0 + 1))) else (some (a1, a2, s3_0)))) else (none)) else (none)) else (none)) else (none)) = some (r1, r2, r3) := h
 clear h
 by_cases c5 : 0 ≤ a2
 ·rw [if_pos c5] at H
  have c5b0 : decide (0 ≤ a2) = true := decide_eq_true c5
  clear c5
  by_cases c6 : a2 < (l0.length : Int)
  ·rw [if_pos c6] at H
   have c6b0 : decide (a2 < (l0.length : Int)) = true := decide_eq_true c6
   clear c6
   by_cases c7 : 0 ≤ a1
   ·rw [if_pos c7] at H
    have c7b0 : decide (0 ≤ a1) = true := decide_eq_true c7
    clear c7
    by_cases c8 : a1 < (l0.length : Int)
    ·rw [if_pos c8] at H
     have c8b0 : decide (a1 < (l0.length : Int)) = true := decide_eq_true c8
     clear c8
     replace H := Option.bind_eq_some_iff.mp H
     obtain ⟨t103, A90, H⟩ := H
     replace H : (if t103 = true then (some (a2, a1, wrap64 (s3_0 + 1))) else (some (a1, a2, s3_0))) = some (r1, r2, r3) := H
     have A9 := Zs.mk A90
     clear A90
     by_cases c10 : t103 = true
     ·subst c10
      have H1 : (some (a2, a1, wrap64 (s3_0 + 1))) = some (r1, r2, r3) := by rw [if_pos rfl] at H; exact H
      clear H
      have H := H1
      clear H1
      simp only [Option.some.injEq, Prod.mk.injEq] at H
      obtain ⟨rfl, rfl, rfl⟩ := H
      have p101 : 0 ≤ (a2 : Int) := of_decide_eq_true (by first | (with_reducible assumption) | assumption)
      have q101 : a2 < (l0.length : Int) := of_decide_eq_true (by first | (with_reducible assumption) | assumption)
      obtain ⟨ad101, e101, hx101_0⟩ := Kd.at_int HR0.out a2 p101 q101
      cases e101
      replace hx101_0 := keep_cell HK.out hx101_0 (by first | (rw [add_block]; exact hf0 _ rfl (by omega)) | exact hf0 _ rfl (by omega) | exact hf0 ad101 rfl (by omega))
      replace p101 := eq_true p101
      replace q101 := eq_true q101
      have p102 : 0 ≤ (a1 : Int) := of_decide_eq_true (by first | (with_reducible assumption) | assumption)
      have q102 : a1 < (l0.length : Int) := of_decide_eq_true (by first | (with_reducible assumption) | assumption)
      obtain ⟨ad102, e102, hx102_0⟩ := Kd.at_int HR0.out a1 p102 q102
      obtain rfl : ad101 = ad102 := (by injection e102)
      replace hx102_0 := keep_cell HK.out hx102_0 (by first | (rw [add_block]; exact hf0 _ rfl (by omega)) | exact hf0 _ rfl (by omega) | exact hf0 ad101 rfl (by omega))
      replace p102 := eq_true p102
      replace q102 := eq_true q102
      go_enter Tryd.func151, Tryd.ntmps151
      go_wp2_with (first | (go_at_call 95; (with_reducible refine (qclu6.calls (rd l0 a2) (rd l0 a1) true _ A9.out).mono ?_); rintro e w' ⟨rfl, ⟨nd, rfl⟩⟩; (try first | exact ⟨rfl, _, World.drewN_drewN _ _ _⟩ | exact ⟨rfl, _, Eq.trans (World.drewN_drewN _ _ _) (congrArg (World.drewN _) (Nat.add_assoc _ _ _))⟩); obtain ⟨HGz11, hgz11⟩ := HI3.out; have hcz11_0 := cellS3_0 HGz11; have hfz11_0 := blk_frozen HGz11 0; clear HGz11 hgz11))
      repeat (go_quiet (first | (go_at_call 95; (with_reducible refine (qclu6.calls (rd l0 a2) (rd l0 a1) true _ A9.out).mono ?_); rintro e w' ⟨rfl, ⟨nd, rfl⟩⟩; (try first | exact ⟨rfl, _, World.drewN_drewN _ _ _⟩ | exact ⟨rfl, _, Eq.trans (World.drewN_drewN _ _ _) (congrArg (World.drewN _) (Nat.add_assoc _ _ _))⟩); obtain ⟨HGz11, hgz11⟩ := HI3.out; have hcz11_0 := cellS3_0 HGz11; have hfz11_0 := blk_frozen HGz11 0; clear HGz11 hgz11)); try go_wp2_with (first | (go_at_call 95; (with_reducible refine (qclu6.calls (rd l0 a2) (rd l0 a1) true _ A9.out).mono ?_); rintro e w' ⟨rfl, ⟨nd, rfl⟩⟩; (try first | exact ⟨rfl, _, World.drewN_drewN _ _ _⟩ | exact ⟨rfl, _, Eq.trans (World.drewN_drewN _ _ _) (congrArg (World.drewN _) (Nat.add_assoc _ _ _))⟩); obtain ⟨HGz11, hgz11⟩ := HI3.out; have hcz11_0 := cellS3_0 HGz11; have hfz11_0 := blk_frozen HGz11 0; clear HGz11 hgz11)))
      go_ret2
      exact ⟨by first | rfl | (simp [zE, zF] <;> rfl) | (simp [*, zE, zF] <;> rfl), by repeat (first | (with_reducible first | exact HI3.out | apply IsS3.alloc | apply IsS3.drewN | apply IsS3.drew | apply IsS3.set_0) | exact HI3.out), by repeat (first | (with_reducible first | exact HB.out | apply zA | apply zB | apply zC | refine below_set ?_ (IsS3.ge HI3.out)) | exact HB.out), by repeat (first | (with_reducible first | exact HK.out | apply KeepBut.set_ | apply keep_drewN | apply keep_drew | apply keep_alloc) | exact HK.out)⟩
     ·replace c10 := Bool.eq_false_iff.mpr c10
      subst c10
      have H1 : (some (a1, a2, s3_0)) = some (r1, r2, r3) := by rw [if_neg (show ¬ (false = true) by decide)] at H; exact H
      clear H
      have H := H1
      clear H1
      simp only [Option.some.injEq, Prod.mk.injEq] at H
      obtain ⟨rfl, rfl, rfl⟩ := H
      have p101 : 0 ≤ (a2 : Int) := of_decide_eq_true (by first | (with_reducible assumption) | assumption)
      have q101 : a2 < (l0.length : Int) := of_decide_eq_true (by first | (with_reducible assumption) | assumption)
      obtain ⟨ad101, e101, hx101_0⟩ := Kd.at_int HR0.out a2 p101 q101
      cases e101
      replace hx101_0 := keep_cell HK.out hx101_0 (by first | (rw [add_block]; exact hf0 _ rfl (by omega)) | exact hf0 _ rfl (by omega) | exact hf0 ad101 rfl (by omega))
      replace p101 := eq_true p101
      replace q101 := eq_true q101
      have p102 : 0 ≤ (a1 : Int) := of_decide_eq_true (by first | (with_reducible assumption) | assumption)
      have q102 : a1 < (l0.length : Int) := of_decide_eq_true (by first | (with_reducible assumption) | assumption)
      obtain ⟨ad102, e102, hx102_0⟩ := Kd.at_int HR0.out a1 p102 q102
      obtain rfl : ad101 = ad102 := (by injection e102)
      replace hx102_0 := keep_cell HK.out hx102_0 (by first | (rw [add_block]; exact hf0 _ rfl (by omega)) | exact hf0 _ rfl (by omega) | exact hf0 ad101 rfl (by omega))
      replace p102 := eq_true p102
      replace q102 := eq_true q102
      go_enter Tryd.func151, Tryd.ntmps151
      go_wp2_with (first | (go_at_call 95; (with_reducible refine (qclu6.calls (rd l0 a2) (rd l0 a1) false _ A9.out).mono ?_); rintro e w' ⟨rfl, ⟨nd, rfl⟩⟩; (try first | exact ⟨rfl, _, World.drewN_drewN _ _ _⟩ | exact ⟨rfl, _, Eq.trans (World.drewN_drewN _ _ _) (congrArg (World.drewN _) (Nat.add_assoc _ _ _))⟩)))
      repeat (go_quiet (first | (go_at_call 95; (with_reducible refine (qclu6.calls (rd l0 a2) (rd l0 a1) false _ A9.out).mono ?_); rintro e w' ⟨rfl, ⟨nd, rfl⟩⟩; (try first | exact ⟨rfl, _, World.drewN_drewN _ _ _⟩ | exact ⟨rfl, _, Eq.trans (World.drewN_drewN _ _ _) (congrArg (World.drewN _) (Nat.add_assoc _ _ _))⟩))); try go_wp2_with (first | (go_at_call 95; (with_reducible refine (qclu6.calls (rd l0 a2) (rd l0 a1) false _ A9.out).mono ?_); rintro e w' ⟨rfl, ⟨nd, rfl⟩⟩; (try first | exact ⟨rfl, _, World.drewN_drewN _ _ _⟩ | exact ⟨rfl, _, Eq.trans (World.drewN_drewN _ _ _) (congrArg (World.drewN _) (Nat.add_assoc _ _ _))⟩))))
      go_ret2
      exact ⟨by first | rfl | (simp [zE, zF] <;> rfl) | (simp [*, zE, zF] <;> rfl), by repeat (first | (with_reducible first | exact HI3.out | apply IsS3.alloc | apply IsS3.drewN | apply IsS3.drew | apply IsS3.set_0) | exact HI3.out), by repeat (first | (with_reducible first | exact HB.out | apply zA | apply zB | apply zC | refine below_set ?_ (IsS3.ge HI3.out)) | exact HB.out), by repeat (first | (with_reducible first | exact HK.out | apply KeepBut.set_ | apply keep_drewN | apply keep_drew | apply keep_alloc) | exact HK.out)⟩
    ·rw [if_neg c8] at H
     exact absurd H (by simp)
   ·rw [if_neg c7] at H
    exact absurd H (by simp)
  ·rw [if_neg c6] at H
   exact absurd H (by simp)
 ·rw [if_neg c5] at H
  exact absurd H (by simp)
def qsmou6.f (l0 : List Int) (a1 : Int) (a2 : Int) (a3 : Int) (s4_0 : Int) : Option (Int × Int) := (qso2ou6.f l0 a1 a2 s4_0).bind fun bt101 => ((qso2ou6.f l0 bt101.2.1 a3 bt101.2.2).bind fun bt104 => ((qso2ou6.f l0 bt101.1 bt104.1 bt104.2.2).bind fun bt107 => (some (bt107.2.1, bt107.2.2))))
set_option maxHeartbeats 8000000 in
set_option maxRecDepth 100000 in
theorem qsmou6.calls (A0 : Option Addr) (c0 : Nat) (l0 : List Int) (a1 : Int) (a2 : Int) (a3 : Int) (g : Nat) (s4_0 : Int) (r1 : Int) (r2 : Int) (w0 w : World) (hI : IsS3 w0 w g s4_0) (hB : Below w0.heap.size w0 w) (hr0 : Kd.C (Kd.int .u64) w A0 l0.length l0) (hc0 : l0.length ≤ c0) (hf0 : ∀ ad, A0 = some ad → 0 < l0.length → ad.block ≠ g) (h : qsmou6.f l0 a1 a2 a3 s4_0 = some (r1, r2)) :
  Calls Tryd.prog 130 #[.slice A0 l0.length c0, .int .i64 a1, .int .i64 a2, .int .i64 a3, .pointer (some ⟨g, 0, none⟩)] w fun e w' => e = .returned (.int .i64 r1) ∧ IsS3 w0 w' g r2 ∧ Below w0.heap.size w0 w' ∧ KeepBut w w' g none := by
 have HR0 := Zs.mk hr0
 have HC0 := Zs.mk hc0
 clear hr0 hc0
 have HI4 := Zs.mk hI
 have HK := Zs.mk (KeepBut.refl w g none)
 have HL := Zs.mk hB.size
 clear hI
 have HW0 := Zs.mk hB.size
 have HB := Zs.mk hB
 clear hB
 have H : ((qso2ou6.f l0 a1 a2 s4_0).bind fun bt101 => ((qso2ou6.f l0 bt101.2.1 a3 bt101.2.2).bind fun bt104 => ((qso2ou6.f l0 bt101.1 bt104.1 bt104.2.2).bind fun bt107 => (some (bt107.2.1, bt107.2.2))))) = some (r1, r2) := h
 clear h
 replace H := Option.bind_eq_some_iff.mp H
 obtain ⟨⟨t101, t102, t103⟩, A60, H⟩ := H
 replace H : ((qso2ou6.f l0 t102 a3 t103).bind fun bt104 => ((qso2ou6.f l0 t101 bt104.1 bt104.2.2).bind fun bt107 => (some (bt107.2.1, bt107.2.2)))) = some (r1, r2) := H
 have A6 := Zs.mk A60
 clear A60
 replace H := Option.bind_eq_some_iff.mp H
 obtain ⟨⟨t104, t105, t106⟩, A70, H⟩ := H
 replace H : ((qso2ou6.f l0 t101 t104 t106).bind fun bt107 => (some (bt107.2.1, bt107.2.2))) = some (r1, r2) := H
 have A7 := Zs.mk A70
 clear A70
 replace H := Option.bind_eq_some_iff.mp H
 obtain ⟨⟨t107, t108, t109⟩, A80, H⟩ := H
 replace H : (some (t108, t109)) = some (r1, r2) := H
 have A8 := Zs.mk A80
 clear A80
 simp only [Option.some.injEq, Prod.mk.injEq] at H
 obtain ⟨rfl, rfl⟩ := H
 go_enter Tryd.func130, Tryd.ntmps130
 go_wp2_with (first | ((with_reducible refine gate_callee (f := 151) rfl ?_); refine goesL_ (some 16) rfl rfl Tryd.func151 (by kernel_rfl) rfl #[.slice A0 l0.length c0, .int .i64 a1, .int .i64 a2, .pointer (some ⟨g, 0, none⟩)] rfl (by (try simp only [List.map_toArray, List.map_cons, List.map_nil]); first | done | rfl | (simp only [List.length_drop, List.length_take]; rfl)) ?_; (with_reducible refine (qso2ou6.calls _ _ l0 a1 a2 g s4_0 t101 t102 t103 w0 _ ?side1 ?side2 ?side3 ?side4 ?side5 A6.out).mono ?_); (case side1 => repeat (first | (with_reducible first | exact HI4.out | apply IsS3.alloc | apply IsS3.drewN | apply IsS3.drew | apply IsS3.set_0) | exact HI4.out)); (case side2 => repeat (first | (with_reducible first | exact HB.out | apply zA | apply zB | apply zC | refine below_set ?_ (IsS3.ge HI4.out)) | exact HB.out)); (case side3 => exact Kd.C_keep 0 HR0.out (by repeat (first | (with_reducible first | exact HK.out | apply KeepBut.set_ | apply keep_drewN | apply keep_drew | apply keep_alloc) | exact HK.out)) hf0); (case side4 => exact HC0.out); (case side5 => exact hf0); rintro e w9 ⟨rfl, hi, hb, hk⟩; refine ⟨_, rfl, ?_⟩; have n0_ := Zs.mk (KeepBut.trans (by repeat (first | (with_reducible first | exact HK.out | apply KeepBut.set_ | apply keep_drewN | apply keep_drew | apply keep_alloc) | exact HK.out)) hk (.inl rfl)); have n1_ := Zs.mk (hb); have n2_ := Zs.mk (hi); clear HK; clear HB; clear HI4; have HK := n0_; have HB := n1_; have HI4 := n2_; clear n0_ n1_ n2_; (try clear hb); (try clear hb2); (try clear hk); (try clear hi)) | ((with_reducible refine gate_callee (f := 151) rfl ?_); refine goesL_ (some 24) rfl rfl Tryd.func151 (by kernel_rfl) rfl #[.slice A0 l0.length c0, .int .i64 t102, .int .i64 a3, .pointer (some ⟨g, 0, none⟩)] rfl (by (try simp only [List.map_toArray, List.map_cons, List.map_nil]); first | done | rfl | (simp only [List.length_drop, List.length_take]; rfl)) ?_; (with_reducible refine (qso2ou6.calls _ _ l0 t102 a3 g t103 t104 t105 t106 w0 _ ?side1 ?side2 ?side3 ?side4 ?side5 A7.out).mono ?_); (case side1 => repeat (first | (with_reducible first | exact HI4.out | apply IsS3.alloc | apply IsS3.drewN | apply IsS3.drew | apply IsS3.set_0) | exact HI4.out)); (case side2 => repeat (first | (with_reducible first | exact HB.out | apply zA | apply zB | apply zC | refine below_set ?_ (IsS3.ge HI4.out)) | exact HB.out)); (case side3 => exact Kd.C_keep 0 HR0.out (by repeat (first | (with_reducible first | exact HK.out | apply KeepBut.set_ | apply keep_drewN | apply keep_drew | apply keep_alloc) | exact HK.out)) hf0); (case side4 => exact HC0.out); (case side5 => exact hf0); rintro e w10 ⟨rfl, hi, hb, hk⟩; refine ⟨_, rfl, ?_⟩; have n0_ := Zs.mk (KeepBut.trans (by repeat (first | (with_reducible first | exact HK.out | apply KeepBut.set_ | apply keep_drewN | apply keep_drew | apply keep_alloc) | exact HK.out)) hk (.inl rfl)); have n1_ := Zs.mk (hb); have n2_ := Zs.mk (hi); clear HK; clear HB; clear HI4; have HK := n0_; have HB := n1_; have HI4 := n2_; clear n0_ n1_ n2_; (try clear hb); (try clear hb2); (try clear hk); (try clear hi)) | ((with_reducible refine gate_callee (f := 151) rfl ?_); refine goesL_ (some 32) rfl rfl Tryd.func151 (by kernel_rfl) rfl #[.slice A0 l0.length c0, .int .i64 t101, .int .i64 t104, .pointer (some ⟨g, 0, none⟩)] rfl (by (try simp only [List.map_toArray, List.map_cons, List.map_nil]); first | done | rfl | (simp only [List.length_drop, List.length_take]; rfl)) ?_; (with_reducible refine (qso2ou6.calls _ _ l0 t101 t104 g t106 t107 t108 t109 w0 _ ?side1 ?side2 ?side3 ?side4 ?side5 A8.out).mono ?_); (case side1 => repeat (first | (with_reducible first | exact HI4.out | apply IsS3.alloc | apply IsS3.drewN | apply IsS3.drew | apply IsS3.set_0) | exact HI4.out)); (case side2 => repeat (first | (with_reducible first | exact HB.out | apply zA | apply zB | apply zC | refine below_set ?_ (IsS3.ge HI4.out)) | exact HB.out)); (case side3 => exact Kd.C_keep 0 HR0.out (by repeat (first | (with_reducible first | exact HK.out | apply KeepBut.set_ | apply keep_drewN | apply keep_drew | apply keep_alloc) | exact HK.out)) hf0); (case side4 => exact HC0.out); (case side5 => exact hf0); rintro e w11 ⟨rfl, hi, hb, hk⟩; refine ⟨_, rfl, ?_⟩; have n0_ := Zs.mk (KeepBut.trans (by repeat (first | (with_reducible first | exact HK.out | apply KeepBut.set_ | apply keep_drewN | apply keep_drew | apply keep_alloc) | exact HK.out)) hk (.inl rfl)); have n1_ := Zs.mk (hb); have n2_ := Zs.mk (hi); clear HK; clear HB; clear HI4; have HK := n0_; have HB := n1_; have HI4 := n2_; clear n0_ n1_ n2_; (try clear hb); (try clear hb2); (try clear hk); (try clear hi)))
 go_ret
 exact ⟨by first | rfl | (simp [zE, zF] <;> rfl) | (simp [*, zE, zF] <;> rfl), by repeat (first | (with_reducible first | exact HI4.out | apply IsS3.alloc | apply IsS3.drewN | apply IsS3.drew | apply IsS3.set_0) | exact HI4.out), by repeat (first | (with_reducible first | exact HB.out | apply zA | apply zB | apply zC | refine below_set ?_ (IsS3.ge HI4.out)) | exact HB.out), by repeat (first | (with_reducible first | exact HK.out | apply KeepBut.set_ | apply keep_drewN | apply keep_drew | apply keep_alloc) | exact HK.out)⟩
def qsmaou6.f (l0 : List Int) (a1 : Int) (s2_0 : Int) : Option (Int × Int) := (qsmou6.f l0 (wrap64 (a1 - 1)) a1 (wrap64 (a1 + 1)) s2_0).bind fun bt101 => (some (bt101.1, bt101.2))
set_option maxHeartbeats 8000000 in
set_option maxRecDepth 100000 in
theorem qsmaou6.calls (A0 : Option Addr) (c0 : Nat) (l0 : List Int) (a1 : Int) (g : Nat) (s2_0 : Int) (r1 : Int) (r2 : Int) (w0 w : World) (hI : IsS3 w0 w g s2_0) (hB : Below w0.heap.size w0 w) (hr0 : Kd.C (Kd.int .u64) w A0 l0.length l0) (hc0 : l0.length ≤ c0) (hf0 : ∀ ad, A0 = some ad → 0 < l0.length → ad.block ≠ g) (h : qsmaou6.f l0 a1 s2_0 = some (r1, r2)) :
  Calls Tryd.prog 129 #[.slice A0 l0.length c0, .int .i64 a1, .pointer (some ⟨g, 0, none⟩)] w fun e w' => e = .returned (.int .i64 r1) ∧ IsS3 w0 w' g r2 ∧ Below w0.heap.size w0 w' ∧ KeepBut w w' g none := by
 have HR0 := Zs.mk hr0
 have HC0 := Zs.mk hc0
 clear hr0 hc0
 have HI2 := Zs.mk hI
 have HK := Zs.mk (KeepBut.refl w g none)
 have HL := Zs.mk hB.size
 clear hI
 have HW0 := Zs.mk hB.size
 have HB := Zs.mk hB
 clear hB
 have H : ((qsmou6.f l0 (wrap64 (a1 - 1)) a1 (wrap64 (a1 + 1)) s2_0).bind fun bt101 => (some (bt101.1, bt101.2))) = some (r1, r2) := h
 clear h
 replace H := Option.bind_eq_some_iff.mp H
 obtain ⟨⟨t101, t102⟩, A40, H⟩ := H
 replace H : (some (t101, t102)) = some (r1, r2) := H
 have A4 := Zs.mk A40
 clear A40
 simp only [Option.some.injEq, Prod.mk.injEq] at H
 obtain ⟨rfl, rfl⟩ := H
 go_enter Tryd.func129, Tryd.ntmps129
 go_wp2_with (first | ((with_reducible refine gate_callee (f := 130) rfl ?_); refine goesL_ (some 14) rfl rfl Tryd.func130 (by kernel_rfl) rfl #[.slice A0 l0.length c0, .int .i64 (wrap64 (a1 - 1)), .int .i64 a1, .int .i64 (wrap64 (a1 + 1)), .pointer (some ⟨g, 0, none⟩)] rfl (by (try simp only [List.map_toArray, List.map_cons, List.map_nil]); first | done | rfl | (simp only [List.length_drop, List.length_take]; rfl)) ?_; (with_reducible refine (qsmou6.calls _ _ l0 (wrap64 (a1 - 1)) a1 (wrap64 (a1 + 1)) g s2_0 t101 t102 w0 _ ?side1 ?side2 ?side3 ?side4 ?side5 A4.out).mono ?_); (case side1 => repeat (first | (with_reducible first | exact HI2.out | apply IsS3.alloc | apply IsS3.drewN | apply IsS3.drew | apply IsS3.set_0) | exact HI2.out)); (case side2 => repeat (first | (with_reducible first | exact HB.out | apply zA | apply zB | apply zC | refine below_set ?_ (IsS3.ge HI2.out)) | exact HB.out)); (case side3 => exact Kd.C_keep 0 HR0.out (by repeat (first | (with_reducible first | exact HK.out | apply KeepBut.set_ | apply keep_drewN | apply keep_drew | apply keep_alloc) | exact HK.out)) hf0); (case side4 => exact HC0.out); (case side5 => exact hf0); rintro e w5 ⟨rfl, hi, hb, hk⟩; refine ⟨_, rfl, ?_⟩; have n0_ := Zs.mk (KeepBut.trans (by repeat (first | (with_reducible first | exact HK.out | apply KeepBut.set_ | apply keep_drewN | apply keep_drew | apply keep_alloc) | exact HK.out)) hk (.inl rfl)); have n1_ := Zs.mk (hb); have n2_ := Zs.mk (hi); clear HK; clear HB; clear HI2; have HK := n0_; have HB := n1_; have HI2 := n2_; clear n0_ n1_ n2_; (try clear hb); (try clear hb2); (try clear hk); (try clear hi)))
 go_ret
 exact ⟨by first | rfl | (simp [zE, zF] <;> rfl) | (simp [*, zE, zF] <;> rfl), by repeat (first | (with_reducible first | exact HI2.out | apply IsS3.alloc | apply IsS3.drewN | apply IsS3.drew | apply IsS3.set_0) | exact HI2.out), by repeat (first | (with_reducible first | exact HB.out | apply zA | apply zB | apply zC | refine below_set ?_ (IsS3.ge HI2.out)) | exact HB.out), by repeat (first | (with_reducible first | exact HK.out | apply KeepBut.set_ | apply keep_drewN | apply keep_drew | apply keep_alloc) | exact HK.out)⟩
def qscpou6.j0 : Nat → Int → Int → Option (Int × Int)
  | 0, _, _ => none
  | k + 1, x11, x102000 => if x102000 = 0 then (some (x11, 1)) else (if x102000 = 12 then (some (x11, 2)) else (some (x11, 0)))
def qscpou6.f (k : Nat) (l0 : List Int) (a1 : Int) (a2 : Int) : Option (Int × Int) := if (wrap64 (a2 - a1)) ≥ 8 then (if (wrap64 (a2 - a1)) ≥ 50 then ((qsmaou6.f l0 (wrap64 (a1 + (wrap64 ((wrap64 (Int.tdiv (wrap64 (a2 - a1)) 4)) * 1)))) 0).bind fun bt102 => ((qsmaou6.f l0 (wrap64 (a1 + (wrap64 ((wrap64 (Int.tdiv (wrap64 (a2 - a1)) 4)) * 2)))) bt102.2).bind fun bt104 => ((qsmaou6.f l0 (wrap64 (a1 + (wrap64 ((wrap64 (Int.tdiv (wrap64 (a2 - a1)) 4)) * 3)))) bt104.2).bind fun bt106 => ((qsmou6.f l0 bt102.1 bt104.1 bt106.1 bt106.2).bind fun bt108 => (qscpou6.j0 k bt108.1 bt108.2))))) else ((qsmou6.f l0 (wrap64 (a1 + (wrap64 ((wrap64 (Int.tdiv (wrap64 (a2 - a1)) 4)) * 1)))) (wrap64 (a1 + (wrap64 ((wrap64 (Int.tdiv (wrap64 (a2 - a1)) 4)) * 2)))) (wrap64 (a1 + (wrap64 ((wrap64 (Int.tdiv (wrap64 (a2 - a1)) 4)) * 3)))) 0).bind fun bt110 => (qscpou6.j0 k bt110.1 bt110.2))) else (qscpou6.j0 k (wrap64 (a1 + (wrap64 ((wrap64 (Int.tdiv (wrap64 (a2 - a1)) 4)) * 2)))) 0)
set_option maxHeartbeats 8000000 in
set_option maxRecDepth 100000 in
theorem qscpou6.calls (k : Nat) (A0 : Option Addr) (c0 : Nat) (l0 : List Int) (a1 : Int) (a2 : Int) (r1 : Int) (r2 : Int) (w : World) (hr0 : Kd.C (Kd.int .u64) w A0 l0.length l0) (hc0 : l0.length ≤ c0) (h : qscpou6.f k l0 a1 a2 = some (r1, r2)) :
    Calls Tryd.prog 92 #[.slice A0 l0.length c0, .int .i64 a1, .int .i64 a2] w fun e w' => e = .returned (.tuple #[.int .i64 r1, .int .i64 r2]) ∧ Below w.heap.size w w' := by
  obtain ⟨a3, ha3⟩ : ∃ x, wrap64 (a2 - a1) = x := ⟨_, rfl⟩
  simp only [qscpou6.f, Int.mul_one] at h
  rw [ha3] at h
  have HR := Zs.mk hr0
  have HC := Zs.mk hc0
  clear hr0 hc0
  have HN := Zs.mk (IsS3.new w w 0 (Below.refl w.heap.size w))
  have HNB := Zs.mk (zA (Below.refl w.heap.size w) (.cells #[.int .i64 0] 3))
  by_cases c8 : a3 ≥ 8
  · rw [if_pos c8] at h
    have c8b : decide (8 ≤ a3) = true := decide_eq_true c8
    by_cases c50 : a3 ≥ 50
    · rw [if_pos c50] at h
      have c50b : decide (50 ≤ a3) = true := decide_eq_true c50
      simp only [Option.bind_eq_some_iff] at h
      obtain ⟨⟨i1, s1⟩, h1, ⟨i2, s2⟩, h2, ⟨i3, s3⟩, h3, ⟨i4, s4⟩, h4, h5⟩ := h
      have H1 := Zs.mk h1
      have H2 := Zs.mk h2
      have H3 := Zs.mk h3
      have H4 := Zs.mk h4
      have H5 := Zs.mk h5
      clear h1 h2 h3 h4 h5 c8 c50
      go_enter Tryd.func92, Tryd.ntmps92
      go_wp2_with fail
      refine (qsmaou6.calls A0 c0 l0 _ w.heap.size _ _ _ w _ HN.out HNB.out (Kd.C_below HR.out HNB.out) HC.out (Kd.far_C 0 HR.out (Nat.le_refl _)) H1.out).mono ?_
      rintro e w1 ⟨rfl, hi_, hb_, -⟩
      have Iw1 := Zs.mk hi_
      have Bw1 := Zs.mk hb_
      clear hi_ hb_
      go_wp2_with fail
      refine (qsmaou6.calls A0 c0 l0 _ w.heap.size _ _ _ w _ Iw1.out Bw1.out (Kd.C_below HR.out Bw1.out) HC.out (Kd.far_C 0 HR.out (Nat.le_refl _)) H2.out).mono ?_
      rintro e w2 ⟨rfl, hi_, hb_, -⟩
      have Iw2 := Zs.mk hi_
      have Bw2 := Zs.mk hb_
      clear hi_ hb_
      go_wp2_with fail
      refine (qsmaou6.calls A0 c0 l0 _ w.heap.size _ _ _ w _ Iw2.out Bw2.out (Kd.C_below HR.out Bw2.out) HC.out (Kd.far_C 0 HR.out (Nat.le_refl _)) H3.out).mono ?_
      rintro e w3 ⟨rfl, hi_, hb_, -⟩
      have Iw3 := Zs.mk hi_
      have Bw3 := Zs.mk hb_
      clear hi_ hb_
      go_wp2_with fail
      refine (qsmou6.calls A0 c0 l0 _ _ _ w.heap.size _ _ _ w _ Iw3.out Bw3.out (Kd.C_below HR.out Bw3.out) HC.out (Kd.far_C 0 HR.out (Nat.le_refl _)) H4.out).mono ?_
      rintro e w4 ⟨rfl, hi_, hb_, -⟩
      have Iw4 := Zs.mk hi_
      have Bw4 := Zs.mk hb_
      clear hi_ hb_
      have hcell := cellS3_0 Iw4.out.1
      have Hj := H5.out
      cases k with
      | zero => exact absurd Hj (by simp [qscpou6.j0])
      | succ k =>
      simp only [qscpou6.j0] at Hj
      by_cases e0 : s4 = 0
      · rw [if_pos e0] at Hj
        obtain ⟨rfl, rfl⟩ := Prod.mk.inj (Option.some.inj Hj)
        have e0b : (s4 == 0) = true := beq_iff_eq.2 e0
        clear e0 Hj
        go_wp2
        go_ret2
        exact ⟨rfl, Bw4.out⟩
      · rw [if_neg e0] at Hj
        have e0b : (s4 == 0) = false := beq_eq_false_iff_ne.2 e0
        by_cases e1 : s4 = 12
        · rw [if_pos e1] at Hj
          obtain ⟨rfl, rfl⟩ := Prod.mk.inj (Option.some.inj Hj)
          have e1b : (s4 == 12) = true := beq_iff_eq.2 e1
          clear e1 e0 Hj
          go_wp2
          go_ret2
          exact ⟨rfl, Bw4.out⟩
        · rw [if_neg e1] at Hj
          obtain ⟨rfl, rfl⟩ := Prod.mk.inj (Option.some.inj Hj)
          have e1b : (s4 == 12) = false := beq_eq_false_iff_ne.2 e1
          clear e1 e0 Hj
          go_wp2
          go_ret2
          exact ⟨rfl, Bw4.out⟩
    · rw [if_neg c50] at h
      have c50b : decide (50 ≤ a3) = false := decide_eq_false c50
      simp only [Option.bind_eq_some_iff] at h
      obtain ⟨⟨i4, s4⟩, h4, h5⟩ := h
      have H4 := Zs.mk h4
      have H5 := Zs.mk h5
      clear h4 h5 c8 c50
      go_enter Tryd.func92, Tryd.ntmps92
      go_wp2_with fail
      refine (qsmou6.calls A0 c0 l0 _ _ _ w.heap.size _ _ _ w _ HN.out HNB.out (Kd.C_below HR.out HNB.out) HC.out (Kd.far_C 0 HR.out (Nat.le_refl _)) H4.out).mono ?_
      rintro e w4 ⟨rfl, hi_, hb_, -⟩
      have Iw4 := Zs.mk hi_
      have Bw4 := Zs.mk hb_
      clear hi_ hb_
      have hcell := cellS3_0 Iw4.out.1
      have Hj := H5.out
      cases k with
      | zero => exact absurd Hj (by simp [qscpou6.j0])
      | succ k =>
      simp only [qscpou6.j0] at Hj
      by_cases e0 : s4 = 0
      · rw [if_pos e0] at Hj
        obtain ⟨rfl, rfl⟩ := Prod.mk.inj (Option.some.inj Hj)
        have e0b : (s4 == 0) = true := beq_iff_eq.2 e0
        clear e0 Hj
        go_wp2
        go_ret2
        exact ⟨rfl, Bw4.out⟩
      · rw [if_neg e0] at Hj
        have e0b : (s4 == 0) = false := beq_eq_false_iff_ne.2 e0
        by_cases e1 : s4 = 12
        · rw [if_pos e1] at Hj
          obtain ⟨rfl, rfl⟩ := Prod.mk.inj (Option.some.inj Hj)
          have e1b : (s4 == 12) = true := beq_iff_eq.2 e1
          clear e1 e0 Hj
          go_wp2
          go_ret2
          exact ⟨rfl, Bw4.out⟩
        · rw [if_neg e1] at Hj
          obtain ⟨rfl, rfl⟩ := Prod.mk.inj (Option.some.inj Hj)
          have e1b : (s4 == 12) = false := beq_eq_false_iff_ne.2 e1
          clear e1 e0 Hj
          go_wp2
          go_ret2
          exact ⟨rfl, Bw4.out⟩
  · rw [if_neg c8] at h
    have c8b : decide (8 ≤ a3) = false := decide_eq_false c8
    have H5 := Zs.mk h
    clear h c8
    cases k with
    | zero => exact absurd H5.out (by simp [qscpou6.j0])
    | succ k =>
    have Hj := H5.out
    simp only [qscpou6.j0, if_true] at Hj
    obtain ⟨rfl, rfl⟩ := Prod.mk.inj (Option.some.inj Hj)
    have hcell := cellS3_0 HN.out.1
    clear Hj H5
    go_enter Tryd.func92, Tryd.ntmps92
    go_wp2
    go_ret2
    exact ⟨rfl, HNB.out⟩
end Go.Proofs.YtkmbgfhkdopigaaDoor.P
