/- Texts that the statement's proof leans on, part 5. -/
import Derived.Test.YtkmbgfhkdopigaaOO4
namespace Go.Proofs.Ytkmbgfhkdopigaa.P
open Go.RowKit Go.Proofs.YtkmbgfhkdopigaaW.PrintWords Go.Proofs.YtkmbgfhkdopigaaW.PrintLast Go.Proofs.YtkmbgfhkdopigaaW.PrintMore
attribute [local go_sem] max2_int min2_int max_two min_two max_three min_three max_four min_four
attribute [local go_sem] Go.Proofs.Ytkmbgfhkdopigaa.Fl.store_float Go.Proofs.Ytkmbgfhkdopigaa.Fl.call54 Go.Proofs.Ytkmbgfhkdopigaa.Fl.call22 Go.Proofs.Ytkmbgfhkdopigaa.Fl.call14 Go.Proofs.Ytkmbgfhkdopigaa.Fl.call28
set_option linter.unusedVariables false
set_option linter.unusedSimpArgs false
def qssmcff6.T5 : Bool × List (List Nat × List Nat) := (true, [([], []), ([], []), ([], []), ([1, 2], [1, 2]), ([3], [3]), ([], []), ([], []), ([5, 6], [5, 6]), ([7], [7]), ([0, 4, 8], [0, 4, 8]), ([9], [9])])
def qssmcff6.B5 : List Nat := [0, 0, 0, 6, 14, 0, 0, 96, 224, 511, 1023]
theorem qssmcff6.tab5 : rtab .any (opsOf Try.f164 5) = qssmcff6.T5 := by kernel_rfl
theorem qssmcff6.bits5 : waitsOk qssmcff6.T5.2 qssmcff6.B5 = true := by kernel_rfl
def qssmcff6.T11 : Bool × List (List Nat × List Nat) := (true, [([], []), ([], []), ([], []), ([], []), ([3], [3]), ([], []), ([], []), ([6], [6]), ([5, 7], [5, 7]), ([8], [8]), ([], []), ([], []), ([10, 11], [10, 11]), ([12], [12]), ([0, 1, 0, 1, 5, 6, 7, 8, 9, 13], [0, 1]), ([14, 9, 0, 1, 5, 6, 7, 8, 9, 13], [9, 14]), ([2, 4, 0, 1, 2, 3, 4, 5, 6, 7, 8, 9, 10, 11, 12, 13, 14, 15], [2, 4]), ([16, 13, 15, 0, 1, 2, 3, 4, 5, 6, 7, 8, 9, 10, 11, 12, 13, 14, 15], [13, 16])])
def qssmcff6.B11 : List Nat := [0, 0, 0, 0, 8, 0, 0, 64, 224, 480, 0, 0, 3072, 7168, 16355, 32739, 65535, 131071]
theorem qssmcff6.tab11 : rtab .any (opsOf Try.f164 11) = qssmcff6.T11 := by kernel_rfl
theorem qssmcff6.bits11 : waitsOk qssmcff6.T11.2 qssmcff6.B11 = true := by kernel_rfl
def qssmcff6.T17 : Bool × List (List Nat × List Nat) := (true, [([], []), ([], []), ([], []), ([1, 2], [1, 2]), ([3], [3]), ([], []), ([], []), ([5, 6], [5, 6]), ([7], [7]), ([0, 4, 8], [0, 4, 8]), ([9], [9]), ([10], [10])])
def qssmcff6.B17 : List Nat := [0, 0, 0, 6, 14, 0, 0, 96, 224, 511, 1023, 2047]
theorem qssmcff6.tab17 : rtab .any (opsOf Try.f164 17) = qssmcff6.T17 := by kernel_rfl
theorem qssmcff6.bits17 : waitsOk qssmcff6.T17.2 qssmcff6.B17 = true := by kernel_rfl
def qssmcff6.T23 : Bool × List (List Nat × List Nat) := (true, [([], []), ([], []), ([], []), ([], []), ([3], [3]), ([], []), ([], []), ([6], [6]), ([5, 7], [5, 7]), ([8], [8]), ([], []), ([], []), ([10, 11], [10, 11]), ([12], [12]), ([0, 1, 0, 1, 5, 6, 7, 8, 9, 13], [0, 1]), ([14, 9, 0, 1, 5, 6, 7, 8, 9, 13], [9, 14]), ([2, 4, 0, 1, 2, 3, 4, 5, 6, 7, 8, 9, 10, 11, 12, 13, 14, 15], [2, 4]), ([16, 13, 15, 0, 1, 2, 3, 4, 5, 6, 7, 8, 9, 10, 11, 12, 13, 14, 15], [13, 16])])
def qssmcff6.B23 : List Nat := [0, 0, 0, 0, 8, 0, 0, 64, 224, 480, 0, 0, 3072, 7168, 16355, 32739, 65535, 131071]
theorem qssmcff6.tab23 : rtab .any (opsOf Try.f164 23) = qssmcff6.T23 := by kernel_rfl
theorem qssmcff6.bits23 : waitsOk qssmcff6.T23.2 qssmcff6.B23 = true := by kernel_rfl
set_option maxHeartbeats 8000000 in
set_option maxRecDepth 100000 in
theorem qssmcff6.callsA (k : Nat) : ∀ (P0_ : Nat → Prop) (u9000_ : Value) (l0 : List Nat) (a1 : Int) (a2 : Int) (a3 : Int)  (r : List Nat) (w0 w : World) (hB : Below w0.heap.size w0 w) (ho0 : Kd.R (Kd.scalar (Value.float .f64) (fun _ => rfl)) 23 w w0.heap.size P0_ u9000_ l0) (c6 : (wrap64 (a2 - a1)) = 1) (h : qssmcff6.f (k + 1) l0 a1 a2 a3 = some r),
  Calls Try.prog 164 #[u9000_, .int .i64 a1, .int .i64 a2, .int .i64 a3, .func (.func 52) #[] #[]] w fun e w' => e = .returned (.tuple #[]) ∧ Kd.R (Kd.scalar (Value.float .f64) (fun _ => rfl)) 23 w' w0.heap.size (fun k_ => (P0_ k_ ∨ w.heap.size ≤ k_)) u9000_ r ∧ Below w0.heap.size w0 w' ∧ Kept w w' (fun k_ => P0_ k_) := by
 intro P0_ u9000_ l0 a1 a2 a3 r w0 w hB ho0 c6 h
 simp only [qssmcff6.f] at h
 have HO0 := Zs.mk (show Kd.R (Kd.scalar (Value.float .f64) (fun _ => rfl)) 23 w w0.heap.size (fun k_ => (P0_ k_ ∨ w.heap.size ≤ k_)) u9000_ l0 from Kd.R_mono ho0 (fun k_ hk => (.inl hk)))
 have HK := Zs.mk (Kept.refl w (fun k_ => P0_ k_))
 have HW0 := Zs.mk hB.size
 have HB := Zs.mk hB
 clear hB
 have H : (if (wrap64 (a2 - a1)) = 1 then (qssmcff6.l0 k l0 a1 a2 a3) else (if (wrap64 (a3 - a2)) = 1 then (qssmcff6.l2 k l0 a2 a1 a2) else (if a2 > (wrap64 ((IntKind.u64.wrap (wrap64 (a1 + a3))) / 2)) then (qssmcff6.j4 k l0 a1 a2 a3 (wrap64 ((IntKind.u64.wrap (wrap64 (a1 + a3))) / 2)) (wrap64 ((wrap64 ((IntKind.u64.wrap (wrap64 (a1 + a3))) / 2)) + a2)) (wrap64 ((wrap64 ((wrap64 ((IntKind.u64.wrap (wrap64 (a1 + a3))) / 2)) + a2)) - a3)) (wrap64 ((IntKind.u64.wrap (wrap64 (a1 + a3))) / 2))) else (qssmcff6.j4 k l0 a1 a2 a3 (wrap64 ((IntKind.u64.wrap (wrap64 (a1 + a3))) / 2)) (wrap64 ((wrap64 ((IntKind.u64.wrap (wrap64 (a1 + a3))) / 2)) + a2)) a1 a2)))) = some r := h
 clear h
 rw [if_pos c6] at H
 have c6b0 : ((wrap64 (a2 - a1)) == 1) = true := beq_iff_eq.mpr c6
 have c6b1 : ((wrap64 (a2 - a1)) != 1) = false := bne_eq_false_iff_eq.mpr c6
 clear c6
 have H' := Zs.mk H
 clear H
 go_enter Try.func164, Try.ntmps164
 go_wp2
 go_loopg [10, 11] k (fun kq v10 v11 w' => ∃ (x10_1 : Int) (x11_1 : Int), v10 = .int .i64 x10_1 ∧ v11 = .int .i64 x11_1 ∧ Zs (qssmcff6.l0 kq l0 a1 x10_1 x11_1 = some r) ∧ Zs (kq ≤ k) ∧ Zs (Kd.R (Kd.scalar (Value.float .f64) (fun _ => rfl)) 23 w' w0.heap.size (fun k_ => (P0_ k_ ∨ w.heap.size ≤ k_)) u9000_ l0) ∧ Zs (Kept w w' (fun k_ => P0_ k_)) ∧ Zs (Below w0.heap.size w0 w'))
 case atStart => exact ⟨(a2), (a3), (by first | rfl | (simp; done) | (simp [*]; done)), (by first | rfl | (simp; done) | (simp [*]; done)), H', ⟨Nat.le_refl _⟩, ⟨by (with_reducible repeat (first | apply Kd.R_alloc | apply Kd.R_drewN | apply Kd.R_drew)); exact HO0.out⟩, ⟨by repeat (first | (with_reducible first | exact HK.out | apply Kept.alloc | apply Kept.drewN | apply Kept.drew) | exact HK.out)⟩, ⟨by repeat (first | (with_reducible first | exact HB.out | apply zA | apply zB | apply zC) | exact HB.out)⟩⟩
 case round =>
  clear H'
  try clear c6; try clear c6b0; try clear c6b1
  obtain ⟨x10_1, x11_1, rfl, rfl, HA, HK1, HO_0, HK, HB⟩ := hrel
  cases gk with
  | zero => exact absurd HA.out (by simp [qssmcff6.l0])
  | succ k1 =>
   have H := HA.out
   clear HA
   simp only [qssmcff6.l0] at H
   by_cases c7 : x10_1 < x11_1
   ·rw [if_pos c7] at H
    have c7b0 : decide (x10_1 < x11_1) = true := decide_eq_true c7
    clear c7
    obtain ⟨ji8, hji8⟩ : ∃ j_ : Int, (wrap64 ((IntKind.u64.wrap (wrap64 (x10_1 + x11_1))) / 2)) = j_ := ⟨_, rfl⟩
    replace H : (if 0 ≤ (ji8) then (if (ji8) < (l0.length : Int) then (if 0 ≤ a1 then (if a1 < (l0.length : Int) then ((qoc.f (rdOf (0 : Nat) l0 (ji8)) (rdOf (0 : Nat) l0 a1)).bind fun t103 => (if t103 < 0 then (qssmcff6.l0 k1 l0 a1 (wrap64 ((ji8) + 1)) x11_1) else (qssmcff6.l0 k1 l0 a1 x10_1 ji8))) else (none)) else (none)) else (none)) else (none)) = some r := by first | (rw [hji8] at H; exact H) | (simp only [hji8] at H ⊢; exact H)
    have hji8w : (IntKind.i64.wrap ((IntKind.u64.wrap (wrap64 (x10_1 + x11_1))) / 2)) = ji8 := (i64_w _).trans hji8
    by_cases c9 : 0 ≤ (ji8)
    ·rw [if_pos c9] at H
     have c9b0 : decide (0 ≤ (ji8)) = true := decide_eq_true c9
     clear c9
     by_cases c10 : (ji8) < (l0.length : Int)
     ·rw [if_pos c10] at H
      have c10b0 : decide ((ji8) < (l0.length : Int)) = true := decide_eq_true c10
      clear c10
      by_cases c11 : 0 ≤ a1
      ·rw [if_pos c11] at H
       have c11b0 : decide (0 ≤ a1) = true := decide_eq_true c11
       clear c11
       by_cases c12 : a1 < (l0.length : Int)
       ·rw [if_pos c12] at H
        have c12b0 : decide (a1 < (l0.length : Int)) = true := decide_eq_true c12
        clear c12
        replace H := Option.bind_eq_some_iff.mp H
        obtain ⟨t103, A130, H⟩ := H
        replace H : (if t103 < 0 then (qssmcff6.l0 k1 l0 a1 (wrap64 ((ji8) + 1)) x11_1) else (qssmcff6.l0 k1 l0 a1 x10_1 ji8)) = some r := H
        have A13 := Zs.mk A130
        clear A130
        by_cases c14 : t103 < 0
        ·rw [if_pos c14] at H
         have c14b0 : decide (t103 < 0) = true := decide_eq_true c14
         clear c14
         have H' := Zs.mk H
         clear H
         try go_wp2
         have n0_ := Zs.mk (Kd.R_drew HO_0.out)
         have n1_ := Zs.mk (Kept.drew HK.out)
         have n2_ := Zs.mk (zC HB.out)
         clear HO_0
         clear HK
         clear HB
         have HO_0 := n0_
         have HK := n1_
         have HB := n2_
         clear n0_ n1_ n2_
         obtain ⟨Ao16, co16, eo16⟩ := Kd.R_slice HO_0.out
         (first | subst eo16 | (injection eo16 with f1_ f2_ f3_; have f4_ := f1_.symm; have f5_ := f3_.symm; clear f1_ f2_ f3_; subst f4_; subst f5_))
         have p101 : 0 ≤ ((ji8) : Int) := of_decide_eq_true (by first | (with_reducible assumption) | assumption)
         have q101 : (ji8) < (l0.length : Int) := of_decide_eq_true (by first | (with_reducible assumption) | assumption)
         obtain ⟨ad101, e101, hx101_0⟩ := Kd.at_flo (Kd.R_reads' HO_0.out).2.2 (ji8) p101 q101
         cases e101
         replace p101 := eq_true p101
         replace q101 := eq_true q101
         have p102 : 0 ≤ (a1 : Int) := of_decide_eq_true (by first | (with_reducible assumption) | assumption)
         have q102 : a1 < (l0.length : Int) := of_decide_eq_true (by first | (with_reducible assumption) | assumption)
         obtain ⟨ad102, e102, hx102_0⟩ := Kd.at_flo (Kd.R_reads' HO_0.out).2.2 a1 p102 q102
         obtain rfl : ad101 = ad102 := (by injection e102)
         replace p102 := eq_true p102
         replace q102 := eq_true q102
         refine start_ (n := 11) (S := fun w' => w'.cell? (ad101.add ((ji8)).toNat) = some (.float .f64 (rdOf (0 : Nat) l0 (ji8))) ∧ w'.cell? (ad101.add (a1).toNat) = some (.float .f64 (rdOf (0 : Nat) l0 a1))) (ds := []) (ba 11 0) (by kernel_rfl) rfl rfl ⟨hx101_0, hx102_0⟩ (fun hHeld => ?_); refine zT qssmcff6.tab5 qssmcff6.bits5 (fun HT_ HW_ => ?_)
         generalize wr.drew = w15 at HO_0 HK HB hx101_0 hx102_0 hHeld ⊢
         refine' pu 0 (some 40) (ba 11 1) HT_ rfl rfl (by kernel_rfl) (fun _ _ _ => id) ?_ ?_ ?_ <| pu 1 (some 41) (ba 11 3) HT_ rfl rfl (by kernel_rfl) (fun _ _ _ => id) ?_ ?_ ?_ <| pu 2 (some 42) (ba 11 7) HT_ rfl rfl (by kernel_rfl) (fun _ _ _ => id) ?_ ?_ ?_ <| pu 3 (some 43) (ba 11 15) HT_ rfl rfl (by kernel_rfl) (fun _ _ _ => id) ?_ ?_ ?_ <| pu 5 (some 45) (ba 11 47) HT_ rfl rfl (by kernel_rfl) (fun _ _ _ => id) ?_ ?_ ?_ <| pu 6 (some 46) (ba 11 111) HT_ rfl rfl (by kernel_rfl) (fun _ _ _ => id) ?_ ?_ ?_ <| pu 7 (some 47) (ba 11 239) HT_ rfl rfl (by kernel_rfl) (fun _ _ _ => id) ?_ ?_ ?_ <| ta 4 (some 44) (ba 11 255) HT_ HW_ rfl rfl (by kernel_rfl) (fun _ _ _ => id) ?_ ?_ hHeld ?_ <| ta 8 (some 48) (ba 11 511) HT_ HW_ rfl rfl (by kernel_rfl) (fun _ _ _ => id) ?_ ?_ hHeld ?_ <| ?_
         any_goals (first | (show Region.wanted _ _ = _; rfl) | (rintro w' ⟨s0, s1⟩; go_simp; with_reducible rfl) | (intro w'; go_simp; with_reducible rfl) | (simp only [Act.put, List.setIfInBounds_toArray, List.set_cons_zero, List.set_cons_succ, i64_w, i32_w]; rfl))
         refine one_ (i := 9) (N := some 49) (ba 11 1023) rfl rfl (one_of HT_.out (by kernel_rfl)) (by decide) (fun K hK => ?_)
         refine goesD_ Try.func52 (by kernel_rfl) rfl #[.float .f64 (rdOf (0 : Nat) l0 (ji8)), .float .f64 (rdOf (0 : Nat) l0 a1)] (by rfl) rfl rfl rfl (by (try simp only [List.map_toArray, List.map_cons, List.map_nil]); first | done | (simp only [hji8]; rfl) | rfl | (simp only [List.length_drop, List.length_take]; rfl)) ?_
         with_reducible refine (qoc.calls (rdOf (0 : Nat) l0 (ji8)) (rdOf (0 : Nat) l0 a1) t103 _ A13.out).mono ?_
         rintro e w' ⟨rfl, ⟨nd, rfl⟩⟩
         refine ⟨_, rfl, ?_⟩
         refine hK.out _ _ ⟨hHeld.1, hHeld.2⟩ (fun hHeld => ?_)
         clear hK K
         refine norm_ (a' := ?_) ?_ ?_
         rotate_left
         ·show Act.put _ (some 49) _ = _
          simp only [Act.put, List.setIfInBounds_toArray, List.set_cons_zero, List.set_cons_succ, i64_w, i32_w]
          rfl
         refine' pu 10 (some 50) (ba 11 2047) HT_ rfl rfl (by kernel_rfl) (fun _ _ _ => id) ?_ ?_ ?_ <| ?_
         any_goals (first | (show Region.wanted _ _ = _; rfl) | (intro w'; go_simp; with_reducible rfl) | (simp only [Act.put, List.setIfInBounds_toArray, List.set_cons_zero, List.set_cons_succ, i64_w, i32_w]; rfl))
         refine done_ (done_of HT_.out (by kernel_rfl)) ?_
         try go_wp2
         go_roundg k1
         case measure => have := HK1.out; omega
         case rel => exact ⟨(wrap64 ((ji8) + 1)), (x11_1), (by first | rfl | (simp; done) | (simp only [← hji8] <;> (first | rfl | simp)) | (simp [*]; done)), (by first | rfl | (simp; done) | (simp [*]; done)), H', ⟨by have := HK1.out; omega⟩, ⟨by (with_reducible repeat (first | apply Kd.R_alloc | apply Kd.R_drewN | apply Kd.R_drew)); exact HO_0.out⟩, ⟨by repeat (first | (with_reducible first | exact HK.out | apply Kept.alloc | apply Kept.drewN | apply Kept.drew) | exact HK.out)⟩, ⟨by repeat (first | (with_reducible first | exact HB.out | apply zA | apply zB | apply zC) | exact HB.out)⟩⟩
        ·rw [if_neg c14] at H
         have c14b0 : decide (t103 < 0) = false := decide_eq_false c14
         clear c14
         have H' := Zs.mk H
         clear H
         try go_wp2
         have n0_ := Zs.mk (Kd.R_drew HO_0.out)
         have n1_ := Zs.mk (Kept.drew HK.out)
         have n2_ := Zs.mk (zC HB.out)
         clear HO_0
         clear HK
         clear HB
         have HO_0 := n0_
         have HK := n1_
         have HB := n2_
         clear n0_ n1_ n2_
         obtain ⟨Ao18, co18, eo18⟩ := Kd.R_slice HO_0.out
         (first | subst eo18 | (injection eo18 with f1_ f2_ f3_; have f4_ := f1_.symm; have f5_ := f3_.symm; clear f1_ f2_ f3_; subst f4_; subst f5_))
         have p101 : 0 ≤ ((ji8) : Int) := of_decide_eq_true (by first | (with_reducible assumption) | assumption)
         have q101 : (ji8) < (l0.length : Int) := of_decide_eq_true (by first | (with_reducible assumption) | assumption)
         obtain ⟨ad101, e101, hx101_0⟩ := Kd.at_flo (Kd.R_reads' HO_0.out).2.2 (ji8) p101 q101
         cases e101
         replace p101 := eq_true p101
         replace q101 := eq_true q101
         have p102 : 0 ≤ (a1 : Int) := of_decide_eq_true (by first | (with_reducible assumption) | assumption)
         have q102 : a1 < (l0.length : Int) := of_decide_eq_true (by first | (with_reducible assumption) | assumption)
         obtain ⟨ad102, e102, hx102_0⟩ := Kd.at_flo (Kd.R_reads' HO_0.out).2.2 a1 p102 q102
         obtain rfl : ad101 = ad102 := (by injection e102)
         replace p102 := eq_true p102
         replace q102 := eq_true q102
         refine start_ (n := 11) (S := fun w' => w'.cell? (ad101.add ((ji8)).toNat) = some (.float .f64 (rdOf (0 : Nat) l0 (ji8))) ∧ w'.cell? (ad101.add (a1).toNat) = some (.float .f64 (rdOf (0 : Nat) l0 a1))) (ds := []) (ba 11 0) (by kernel_rfl) rfl rfl ⟨hx101_0, hx102_0⟩ (fun hHeld => ?_); refine zT qssmcff6.tab5 qssmcff6.bits5 (fun HT_ HW_ => ?_)
         generalize wr.drew = w17 at HO_0 HK HB hx101_0 hx102_0 hHeld ⊢
         refine' pu 0 (some 40) (ba 11 1) HT_ rfl rfl (by kernel_rfl) (fun _ _ _ => id) ?_ ?_ ?_ <| pu 1 (some 41) (ba 11 3) HT_ rfl rfl (by kernel_rfl) (fun _ _ _ => id) ?_ ?_ ?_ <| pu 2 (some 42) (ba 11 7) HT_ rfl rfl (by kernel_rfl) (fun _ _ _ => id) ?_ ?_ ?_ <| pu 3 (some 43) (ba 11 15) HT_ rfl rfl (by kernel_rfl) (fun _ _ _ => id) ?_ ?_ ?_ <| pu 5 (some 45) (ba 11 47) HT_ rfl rfl (by kernel_rfl) (fun _ _ _ => id) ?_ ?_ ?_ <| pu 6 (some 46) (ba 11 111) HT_ rfl rfl (by kernel_rfl) (fun _ _ _ => id) ?_ ?_ ?_ <| pu 7 (some 47) (ba 11 239) HT_ rfl rfl (by kernel_rfl) (fun _ _ _ => id) ?_ ?_ ?_ <| ta 4 (some 44) (ba 11 255) HT_ HW_ rfl rfl (by kernel_rfl) (fun _ _ _ => id) ?_ ?_ hHeld ?_ <| ta 8 (some 48) (ba 11 511) HT_ HW_ rfl rfl (by kernel_rfl) (fun _ _ _ => id) ?_ ?_ hHeld ?_ <| ?_
         any_goals (first | (show Region.wanted _ _ = _; rfl) | (rintro w' ⟨s0, s1⟩; go_simp; with_reducible rfl) | (intro w'; go_simp; with_reducible rfl) | (simp only [Act.put, List.setIfInBounds_toArray, List.set_cons_zero, List.set_cons_succ, i64_w, i32_w]; rfl))
         refine one_ (i := 9) (N := some 49) (ba 11 1023) rfl rfl (one_of HT_.out (by kernel_rfl)) (by decide) (fun K hK => ?_)
         refine goesD_ Try.func52 (by kernel_rfl) rfl #[.float .f64 (rdOf (0 : Nat) l0 (ji8)), .float .f64 (rdOf (0 : Nat) l0 a1)] (by rfl) rfl rfl rfl (by (try simp only [List.map_toArray, List.map_cons, List.map_nil]); first | done | (simp only [hji8]; rfl) | rfl | (simp only [List.length_drop, List.length_take]; rfl)) ?_
         with_reducible refine (qoc.calls (rdOf (0 : Nat) l0 (ji8)) (rdOf (0 : Nat) l0 a1) t103 _ A13.out).mono ?_
         rintro e w' ⟨rfl, ⟨nd, rfl⟩⟩
         refine ⟨_, rfl, ?_⟩
         refine hK.out _ _ ⟨hHeld.1, hHeld.2⟩ (fun hHeld => ?_)
         clear hK K
         refine norm_ (a' := ?_) ?_ ?_
         rotate_left
         ·show Act.put _ (some 49) _ = _
          simp only [Act.put, List.setIfInBounds_toArray, List.set_cons_zero, List.set_cons_succ, i64_w, i32_w]
          rfl
         refine' pu 10 (some 50) (ba 11 2047) HT_ rfl rfl (by kernel_rfl) (fun _ _ _ => id) ?_ ?_ ?_ <| ?_
         any_goals (first | (show Region.wanted _ _ = _; rfl) | (intro w'; go_simp; with_reducible rfl) | (simp only [Act.put, List.setIfInBounds_toArray, List.set_cons_zero, List.set_cons_succ, i64_w, i32_w]; rfl))
         refine done_ (done_of HT_.out (by kernel_rfl)) ?_
         try go_wp2
         go_roundg k1
         case measure => have := HK1.out; omega
         case rel => exact ⟨(x10_1), (ji8), (by first | rfl | (simp; done) | (simp [*]; done)), (by first | rfl | (simp; done) | (simp only [← hji8] <;> (first | rfl | simp)) | (simp [*]; done)), H', ⟨by have := HK1.out; omega⟩, ⟨by (with_reducible repeat (first | apply Kd.R_alloc | apply Kd.R_drewN | apply Kd.R_drew)); exact HO_0.out⟩, ⟨by repeat (first | (with_reducible first | exact HK.out | apply Kept.alloc | apply Kept.drewN | apply Kept.drew) | exact HK.out)⟩, ⟨by repeat (first | (with_reducible first | exact HB.out | apply zA | apply zB | apply zC) | exact HB.out)⟩⟩
       ·rw [if_neg c12] at H
        exact absurd H (by simp)
      ·rw [if_neg c11] at H
       exact absurd H (by simp)
     ·rw [if_neg c10] at H
      exact absurd H (by simp)
    ·rw [if_neg c9] at H
     exact absurd H (by simp)
   ·rw [if_neg c7] at H
    have c7b0 : decide (x10_1 < x11_1) = false := decide_eq_false c7
    clear c7
    have H' := Zs.mk H
    clear H
    go_wp2
    go_loopg [13] k1 (fun kq v13 w' => ∃ (x0_2 : List Nat) (x13_2 : Int), v13 = .int .i64 x13_2 ∧ Zs (qssmcff6.l1 kq x0_2 x10_1 x13_2 = some r) ∧ Zs (kq ≤ k1) ∧ Zs (Kd.R (Kd.scalar (Value.float .f64) (fun _ => rfl)) 23 w' w0.heap.size (fun k_ => (P0_ k_ ∨ w.heap.size ≤ k_)) u9000_ x0_2) ∧ Zs (Kept w w' (fun k_ => P0_ k_)) ∧ Zs (Below w0.heap.size w0 w'))
    case atStart => exact ⟨(l0), (a1), (by first | rfl | (simp; done) | (simp [*]; done)), H', ⟨Nat.le_refl _⟩, ⟨by (with_reducible repeat (first | apply Kd.R_alloc | apply Kd.R_drewN | apply Kd.R_drew)); exact HO_0.out⟩, ⟨by repeat (first | (with_reducible first | exact HK.out | apply Kept.alloc | apply Kept.drewN | apply Kept.drew) | exact HK.out)⟩, ⟨by repeat (first | (with_reducible first | exact HB.out | apply zA | apply zB | apply zC) | exact HB.out)⟩⟩
    case round =>
     clear H'
     try clear c6; try clear c6b0; try clear c6b1; try clear c7; try clear c7b0; try clear c9; try clear c9b0; try clear c10; try clear c10b0; try clear c11; try clear c11b0; try clear c12; try clear c12b0; try clear c14; try clear c14b0; try clear hx101_0; try clear hx102_0; try clear p101; try clear p102; try clear q101; try clear q102
     obtain ⟨x0_2, x13_2, rfl, HA, HK2, HO_0, HK, HB⟩ := hrel
     cases gk with
     | zero => exact absurd HA.out (by simp [qssmcff6.l1])
     | succ k2 =>
      have H := HA.out
      clear HA
      simp only [qssmcff6.l1] at H
      by_cases c19 : x13_2 < (wrap64 (x10_1 - 1))
      ·rw [if_pos c19] at H
       have c19b0 : decide (x13_2 < (wrap64 (x10_1 - 1))) = true := decide_eq_true c19
       clear c19
       obtain ⟨ji20, hji20⟩ : ∃ j_ : Int, (wrap64 (x13_2 + 1)) = j_ := ⟨_, rfl⟩
       replace H : (if 0 ≤ (ji20) then (if (ji20) < (x0_2.length : Int) then (if 0 ≤ x13_2 then (if x13_2 < (x0_2.length : Int) then (qssmcff6.l1 k2 ((x0_2.set (x13_2 : Int).toNat (rdOf (0 : Nat) x0_2 (ji20))).set ((ji20) : Int).toNat (rdOf (0 : Nat) x0_2 x13_2)) x10_1 ji20) else (none)) else (none)) else (none)) else (none)) = some r := by first | (rw [hji20] at H; exact H) | (simp only [hji20] at H ⊢; exact H)
       have hji20w : (IntKind.i64.wrap (x13_2 + 1)) = ji20 := (i64_w _).trans hji20
       by_cases c21 : 0 ≤ (ji20)
       ·rw [if_pos c21] at H
        have c21b0 : decide (0 ≤ (ji20)) = true := decide_eq_true c21
        clear c21
        by_cases c22 : (ji20) < (x0_2.length : Int)
        ·rw [if_pos c22] at H
         have c22b0 : decide ((ji20) < (x0_2.length : Int)) = true := decide_eq_true c22
         clear c22
         by_cases c23 : 0 ≤ x13_2
         ·rw [if_pos c23] at H
          have c23b0 : decide (0 ≤ x13_2) = true := decide_eq_true c23
          clear c23
          by_cases c24 : x13_2 < (x0_2.length : Int)
          ·rw [if_pos c24] at H
           have c24b0 : decide (x13_2 < (x0_2.length : Int)) = true := decide_eq_true c24
           clear c24
           obtain ⟨y106, hy106⟩ : ∃ y_ : List Nat, y_ = (x0_2.set (x13_2 : Int).toNat (rdOf (0 : Nat) x0_2 (ji20))) := ⟨_, rfl⟩
           replace H : (qssmcff6.l1 k2 (y106.set ((ji20) : Int).toNat (rdOf (0 : Nat) x0_2 x13_2)) x10_1 ji20) = some r := by first | (rw [hy106]; with_reducible exact H) | (have H2_ := (Option.bind_some _ _).symm.trans H; rw [hy106]; with_reducible exact H2_) | (have H2_ := (Option.bind_some _ _).symm.trans H; with_reducible exact H2_) | with_reducible exact H | (rw [hy106]; exact H) | exact H
           have Ny106 := Zs.mk hy106
           clear hy106
           obtain ⟨y107, hy107⟩ : ∃ y_ : List Nat, y_ = (y106.set ((ji20) : Int).toNat (rdOf (0 : Nat) x0_2 x13_2)) := ⟨_, rfl⟩
           replace H : (qssmcff6.l1 k2 y107 x10_1 ji20) = some r := by first | (rw [hy107]; with_reducible exact H) | (have H2_ := (Option.bind_some _ _).symm.trans H; rw [hy107]; with_reducible exact H2_) | (have H2_ := (Option.bind_some _ _).symm.trans H; with_reducible exact H2_) | with_reducible exact H | (rw [hy107]; exact H) | exact H
           have Ny107 := Zs.mk hy107
           clear hy107
           have H' := Zs.mk H
           clear H
           try go_wp2
           have n0_ := Zs.mk (Kd.R_drew HO_0.out)
           have n1_ := Zs.mk (Kept.drew HK.out)
           have n2_ := Zs.mk (zC HB.out)
           clear HO_0
           clear HK
           clear HB
           have HO_0 := n0_
           have HK := n1_
           have HB := n2_
           clear n0_ n1_ n2_
           obtain ⟨Ao28, co28, eo28⟩ := Kd.R_slice HO_0.out
           (first | subst eo28 | (injection eo28 with f1_ f2_ f3_; have f4_ := f1_.symm; have f5_ := f3_.symm; clear f1_ f2_ f3_; subst f4_; subst f5_))
           have p104 : 0 ≤ ((ji20) : Int) := of_decide_eq_true (by first | (with_reducible assumption) | assumption)
           have q104 : (ji20) < (x0_2.length : Int) := of_decide_eq_true (by first | (with_reducible assumption) | assumption)
           obtain ⟨ad104, e104, hx104_0⟩ := Kd.at_flo (Kd.R_reads' HO_0.out).2.2 (ji20) p104 q104
           cases e104
           replace p104 := eq_true p104
           replace q104 := eq_true q104
           have p105 : 0 ≤ (x13_2 : Int) := of_decide_eq_true (by first | (with_reducible assumption) | assumption)
           have q105 : x13_2 < (x0_2.length : Int) := of_decide_eq_true (by first | (with_reducible assumption) | assumption)
           obtain ⟨ad105, e105, hx105_0⟩ := Kd.at_flo (Kd.R_reads' HO_0.out).2.2 x13_2 p105 q105
           obtain rfl : ad104 = ad105 := (by injection e105)
           replace p105 := eq_true p105
           replace q105 := eq_true q105
           have p25 : 0 ≤ (x13_2 : Int) := of_decide_eq_true (by first | (with_reducible assumption) | assumption)
           have q25 : (x13_2 : Int) < ((x0_2.length : Int) : Int) := of_decide_eq_true (by first | (with_reducible assumption) | assumption)
           obtain ⟨go25, co25, eo25, gb25, gl25, cl25, HG25⟩ := Kd.R_form HO_0.out (by omega)
           (first | cases eo25 | (injection eo25 with ea_ en_ ec_; (first | subst ea_ | (injection ea_ with ea_; subst ea_)); subst ec_; clear en_))
           have GB25 := Zs.mk gb25
           have GG25 := Zs.mk HG25
           clear gb25 gl25 HG25
           have HMgo25 := Zs.mk (show (P0_ go25 ∨ w.heap.size ≤ go25) from (HO_0.out.1 _ rfl))
           (first | simp only [add_plain] at hx104_0 | skip)
           (first | simp only [add_plain] at hx105_0 | skip)
           obtain ⟨hx25_0, hf25_0⟩ := Kd.R_celln 0 HO_0.out (x13_2 : Int) p25 q25
           replace p25 := eq_true p25
           replace q25 := eq_true q25
           have HP29 := Kd.R_putn HO_0.out (x13_2 : Int) (rdOf (0 : Nat) x0_2 (ji20))
           rw [← Ny106.out] at HP29
           have HQ29 := Zs.mk HP29
           clear HP29
           have p26 : 0 ≤ ((ji20) : Int) := of_decide_eq_true (by first | (with_reducible assumption) | assumption)
           have q26 : ((ji20) : Int) < ((x0_2.length : Int) : Int) := of_decide_eq_true (by first | (with_reducible assumption) | assumption)
           obtain ⟨hx26_0, hf26_0⟩ := Kd.R_celln 0 HQ29.out ((ji20) : Int) p26 q26
           replace p26 := eq_true p26
           replace q26 := eq_true q26
           have HP30 := Kd.R_putn HQ29.out ((ji20) : Int) (rdOf (0 : Nat) x0_2 x13_2)
           rw [← Ny107.out] at HP30
           have HQ30 := Zs.mk HP30
           clear HP30
           refine start_ (n := 18) (S := fun w' => w'.cell? ⟨go25, ((ji20)).toNat, none⟩ = some (.float .f64 (rdOf (0 : Nat) x0_2 (ji20))) ∧ w'.cell? ⟨go25, (x13_2).toNat, none⟩ = some (.float .f64 (rdOf (0 : Nat) x0_2 x13_2))) (ds := [15, 17]) (ba 18 0) (by kernel_rfl) rfl rfl ⟨hx104_0, hx105_0⟩ (fun hHeld => ?_); refine zT qssmcff6.tab11 qssmcff6.bits11 (fun HT_ HW_ => ?_)
           generalize wr.drew = w27 at HO_0 HK HB GG25 HQ29 HQ30 hf25_0 hf26_0 hx104_0 hx105_0 hx25_0 hx26_0 hHeld ⊢
           refine' pu 0 (some 61) (ba 18 1) HT_ rfl rfl (by kernel_rfl) (fun _ _ _ => id) ?_ ?_ ?_ <| pu 1 (some 62) (ba 18 3) HT_ rfl rfl (by kernel_rfl) (fun _ _ _ => id) ?_ ?_ ?_ <| pu 2 (some 63) (ba 18 7) HT_ rfl rfl (by kernel_rfl) (fun _ _ _ => id) ?_ ?_ ?_ <| pu 3 (some 64) (ba 18 15) HT_ rfl rfl (by kernel_rfl) (fun _ _ _ => id) ?_ ?_ ?_ <| pu 4 (some 65) (ba 18 31) HT_ rfl rfl (by kernel_rfl) (fun _ _ _ => id) ?_ ?_ ?_ <| pu 5 (some 66) (ba 18 63) HT_ rfl rfl (by kernel_rfl) (fun _ _ _ => id) ?_ ?_ ?_ <| pu 6 (some 67) (ba 18 127) HT_ rfl rfl (by kernel_rfl) (fun _ _ _ => id) ?_ ?_ ?_ <| pu 7 (some 68) (ba 18 255) HT_ rfl rfl (by kernel_rfl) (fun _ _ _ => id) ?_ ?_ ?_ <| pu 8 (some 69) (ba 18 511) HT_ rfl rfl (by kernel_rfl) (fun _ _ _ => id) ?_ ?_ ?_ <| pu 10 (some 71) (ba 18 1535) HT_ rfl rfl (by kernel_rfl) (fun _ _ _ => id) ?_ ?_ ?_ <| pu 11 (some 72) (ba 18 3583) HT_ rfl rfl (by kernel_rfl) (fun _ _ _ => id) ?_ ?_ ?_ <| pu 12 (some 73) (ba 18 7679) HT_ rfl rfl (by kernel_rfl) (fun _ _ _ => id) ?_ ?_ ?_ <| ta 9 (some 70) (ba 18 8191) HT_ HW_ rfl rfl (by kernel_rfl) (fun _ _ _ => id) ?_ ?_ hHeld ?_ <| ta 13 (some 74) (ba 18 16383) HT_ HW_ rfl rfl (by kernel_rfl) (fun _ _ _ => id) ?_ ?_ hHeld ?_ <| pu 14 (some 75) (ba 18 32767) HT_ rfl rfl (by kernel_rfl) (fun _ _ _ => id) ?_ ?_ ?_ <| ?_
           any_goals (first | (show Region.wanted _ _ = _; rfl) | (rintro w' ⟨s0, s1⟩; go_simp; with_reducible rfl) | (intro w'; go_simp; with_reducible rfl) | (simp only [Act.put, List.setIfInBounds_toArray, List.set_cons_zero, List.set_cons_succ, i64_w, i32_w]; rfl))
           refine last_ (i := 15) (N := none) (ba 18 65535) rfl rfl (one_of HT_.out (by kernel_rfl)) (by decide) (fun K hK => ?_)
           refine skip_ (w1 := ?_) (by rfl) rfl ?_ ?_
           rotate_left
           ·go_simp
            rfl
           refine hK.out _ _ ?_
           clear hK K
           refine' pu 16 (some 76) (ba 18 131071) HT_ rfl rfl (by kernel_rfl) (fun _ _ _ => id) ?_ ?_ ?_ <| ?_
           any_goals (first | (show Region.wanted _ _ = _; rfl) | (intro w'; go_simp; with_reducible rfl) | (simp only [Act.put, List.setIfInBounds_toArray, List.set_cons_zero, List.set_cons_succ, i64_w, i32_w]; rfl))
           refine last_ (i := 17) (N := none) (ba 18 262143) rfl rfl (one_of HT_.out (by kernel_rfl)) (by decide) (fun K hK => ?_)
           refine skip_ (w1 := ?_) (by rfl) rfl ?_ ?_
           rotate_left
           ·go_simp
            rfl
           refine hK.out _ _ ?_
           clear hK K
           refine done_ (done_of HT_.out (by kernel_rfl)) ?_
           try go_wp2
           go_roundg k2
           case measure => have := HK1.out; have := HK2.out; omega
           case rel => exact ⟨(y107), (ji20), (by first | rfl | (simp; done) | (simp only [← hji20] <;> (first | rfl | simp)) | (simp [*]; done)), H', ⟨by have := HK1.out; have := HK2.out; omega⟩, ⟨by (with_reducible repeat (first | apply Kd.R_alloc | apply Kd.R_drewN | apply Kd.R_drew)); exact HQ30.out⟩, ⟨by repeat (first | (with_reducible first | exact HK.out | apply Kept.alloc | apply Kept.drewN | apply Kept.drew | refine Kept.setCell ?_ HMgo25.out _ | refine Kept.setCell ?_ HMgo25.out _) | exact HK.out)⟩, ⟨by repeat (first | (with_reducible first | exact HB.out | apply zA | apply zB | apply zC | refine below_set ?_ GB25.out | refine below_set ?_ GB25.out) | exact HB.out)⟩⟩
          ·rw [if_neg c24] at H
           exact absurd H (by simp)
         ·rw [if_neg c23] at H
          exact absurd H (by simp)
        ·rw [if_neg c22] at H
         exact absurd H (by simp)
       ·rw [if_neg c21] at H
        exact absurd H (by simp)
      ·rw [if_neg c19] at H
       have c19b0 : decide (x13_2 < (wrap64 (x10_1 - 1))) = false := decide_eq_false c19
       clear c19
       obtain rfl := Option.some.inj H
       go_wp2
       first | go_end0 | ((try simp only [Exit.inBlock, Exit.then]); refine bodyPost_ret (results_none rfl _ _ _) rfl ?_)
       exact ⟨by first | rfl | (simp [zE, zF] <;> rfl) | (simp [*, zE, zF] <;> rfl), by (with_reducible repeat (first | apply Kd.R_alloc | apply Kd.R_drewN | apply Kd.R_drew)); exact HO_0.out, by repeat (first | (with_reducible first | exact HB.out | apply zA | apply zB | apply zC) | exact HB.out), by repeat (first | (with_reducible first | exact HK.out | apply Kept.alloc | apply Kept.drewN | apply Kept.drew) | exact HK.out)⟩
set_option maxHeartbeats 8000000 in
set_option maxRecDepth 100000 in
theorem qssmcff6.callsB (k : Nat) : ∀ (P0_ : Nat → Prop) (u9000_ : Value) (l0 : List Nat) (a1 : Int) (a2 : Int) (a3 : Int)  (r : List Nat) (w0 w : World) (hB : Below w0.heap.size w0 w) (ho0 : Kd.R (Kd.scalar (Value.float .f64) (fun _ => rfl)) 23 w w0.heap.size P0_ u9000_ l0) (c6 : ¬ ((wrap64 (a2 - a1)) = 1)) (c31 : (wrap64 (a3 - a2)) = 1) (h : qssmcff6.f (k + 1) l0 a1 a2 a3 = some r),
  Calls Try.prog 164 #[u9000_, .int .i64 a1, .int .i64 a2, .int .i64 a3, .func (.func 52) #[] #[]] w fun e w' => e = .returned (.tuple #[]) ∧ Kd.R (Kd.scalar (Value.float .f64) (fun _ => rfl)) 23 w' w0.heap.size (fun k_ => (P0_ k_ ∨ w.heap.size ≤ k_)) u9000_ r ∧ Below w0.heap.size w0 w' ∧ Kept w w' (fun k_ => P0_ k_) := by
 intro P0_ u9000_ l0 a1 a2 a3 r w0 w hB ho0 c6 c31 h
 simp only [qssmcff6.f] at h
 have HO0 := Zs.mk (show Kd.R (Kd.scalar (Value.float .f64) (fun _ => rfl)) 23 w w0.heap.size (fun k_ => (P0_ k_ ∨ w.heap.size ≤ k_)) u9000_ l0 from Kd.R_mono ho0 (fun k_ hk => (.inl hk)))
 have HK := Zs.mk (Kept.refl w (fun k_ => P0_ k_))
 have HW0 := Zs.mk hB.size
 have HB := Zs.mk hB
 clear hB
 have H : (if (wrap64 (a2 - a1)) = 1 then (qssmcff6.l0 k l0 a1 a2 a3) else (if (wrap64 (a3 - a2)) = 1 then (qssmcff6.l2 k l0 a2 a1 a2) else (if a2 > (wrap64 ((IntKind.u64.wrap (wrap64 (a1 + a3))) / 2)) then (qssmcff6.j4 k l0 a1 a2 a3 (wrap64 ((IntKind.u64.wrap (wrap64 (a1 + a3))) / 2)) (wrap64 ((wrap64 ((IntKind.u64.wrap (wrap64 (a1 + a3))) / 2)) + a2)) (wrap64 ((wrap64 ((wrap64 ((IntKind.u64.wrap (wrap64 (a1 + a3))) / 2)) + a2)) - a3)) (wrap64 ((IntKind.u64.wrap (wrap64 (a1 + a3))) / 2))) else (qssmcff6.j4 k l0 a1 a2 a3 (wrap64 ((IntKind.u64.wrap (wrap64 (a1 + a3))) / 2)) (wrap64 ((wrap64 ((IntKind.u64.wrap (wrap64 (a1 + a3))) / 2)) + a2)) a1 a2)))) = some r := h
 clear h
 rw [if_neg c6] at H
 have c6b0 : ((wrap64 (a2 - a1)) == 1) = false := beq_eq_false_iff_ne.mpr c6
 have c6b1 : ((wrap64 (a2 - a1)) != 1) = true := bne_iff_ne.mpr c6
 rw [if_pos c31] at H
 have c31b0 : ((wrap64 (a3 - a2)) == 1) = true := beq_iff_eq.mpr c31
 have c31b1 : ((wrap64 (a3 - a2)) != 1) = false := bne_eq_false_iff_eq.mpr c31
 clear c31
 have H' := Zs.mk H
 clear H
 go_enter Try.func164, Try.ntmps164
 go_wp2
 go_loopg [14, 15] k (fun kq v14 v15 w' => ∃ (x14_1 : Int) (x15_1 : Int), v14 = .int .i64 x14_1 ∧ v15 = .int .i64 x15_1 ∧ Zs (qssmcff6.l2 kq l0 a2 x14_1 x15_1 = some r) ∧ Zs (kq ≤ k) ∧ Zs (Kd.R (Kd.scalar (Value.float .f64) (fun _ => rfl)) 23 w' w0.heap.size (fun k_ => (P0_ k_ ∨ w.heap.size ≤ k_)) u9000_ l0) ∧ Zs (Kept w w' (fun k_ => P0_ k_)) ∧ Zs (Below w0.heap.size w0 w'))
 case atStart => exact ⟨(a1), (a2), (by first | rfl | (simp; done) | (simp [*]; done)), (by first | rfl | (simp; done) | (simp [*]; done)), H', ⟨Nat.le_refl _⟩, ⟨by (with_reducible repeat (first | apply Kd.R_alloc | apply Kd.R_drewN | apply Kd.R_drew)); exact HO0.out⟩, ⟨by repeat (first | (with_reducible first | exact HK.out | apply Kept.alloc | apply Kept.drewN | apply Kept.drew) | exact HK.out)⟩, ⟨by repeat (first | (with_reducible first | exact HB.out | apply zA | apply zB | apply zC) | exact HB.out)⟩⟩
 case round =>
  clear H'
  try clear c6; try clear c6b0; try clear c6b1; try clear c31; try clear c31b0; try clear c31b1
  obtain ⟨x14_1, x15_1, rfl, rfl, HA, HK1, HO_0, HK, HB⟩ := hrel
  cases gk with
  | zero => exact absurd HA.out (by simp [qssmcff6.l2])
  | succ k1 =>
   have H := HA.out
   clear HA
   simp only [qssmcff6.l2] at H
   by_cases c32 : x14_1 < x15_1
   ·rw [if_pos c32] at H
    have c32b0 : decide (x14_1 < x15_1) = true := decide_eq_true c32
    clear c32
    by_cases c33 : 0 ≤ a2
    ·rw [if_pos c33] at H
     have c33b0 : decide (0 ≤ a2) = true := decide_eq_true c33
     clear c33
     by_cases c34 : a2 < (l0.length : Int)
     ·rw [if_pos c34] at H
      have c34b0 : decide (a2 < (l0.length : Int)) = true := decide_eq_true c34
      clear c34
      obtain ⟨ji35, hji35⟩ : ∃ j_ : Int, (wrap64 ((IntKind.u64.wrap (wrap64 (x14_1 + x15_1))) / 2)) = j_ := ⟨_, rfl⟩
      replace H : (if 0 ≤ (ji35) then (if (ji35) < (l0.length : Int) then ((qoc.f (rdOf (0 : Nat) l0 a2) (rdOf (0 : Nat) l0 (ji35))).bind fun t110 => (if t110 < 0 then (qssmcff6.l2 k1 l0 a2 x14_1 ji35) else (qssmcff6.l2 k1 l0 a2 (wrap64 ((ji35) + 1)) x15_1))) else (none)) else (none)) = some r := by first | (rw [hji35] at H; exact H) | (simp only [hji35] at H ⊢; exact H)
      have hji35w : (IntKind.i64.wrap ((IntKind.u64.wrap (wrap64 (x14_1 + x15_1))) / 2)) = ji35 := (i64_w _).trans hji35
      by_cases c36 : 0 ≤ (ji35)
      ·rw [if_pos c36] at H
       have c36b0 : decide (0 ≤ (ji35)) = true := decide_eq_true c36
       clear c36
       by_cases c37 : (ji35) < (l0.length : Int)
       ·rw [if_pos c37] at H
        have c37b0 : decide ((ji35) < (l0.length : Int)) = true := decide_eq_true c37
        clear c37
        replace H := Option.bind_eq_some_iff.mp H
        obtain ⟨t110, A380, H⟩ := H
        replace H : (if t110 < 0 then (qssmcff6.l2 k1 l0 a2 x14_1 ji35) else (qssmcff6.l2 k1 l0 a2 (wrap64 ((ji35) + 1)) x15_1)) = some r := H
        have A38 := Zs.mk A380
        clear A380
        by_cases c39 : t110 < 0
        ·rw [if_pos c39] at H
         have c39b0 : decide (t110 < 0) = true := decide_eq_true c39
         clear c39
         have H' := Zs.mk H
         clear H
         try go_wp2
         have n0_ := Zs.mk (Kd.R_drew HO_0.out)
         have n1_ := Zs.mk (Kept.drew HK.out)
         have n2_ := Zs.mk (zC HB.out)
         clear HO_0
         clear HK
         clear HB
         have HO_0 := n0_
         have HK := n1_
         have HB := n2_
         clear n0_ n1_ n2_
         obtain ⟨Ao41, co41, eo41⟩ := Kd.R_slice HO_0.out
         (first | subst eo41 | (injection eo41 with f1_ f2_ f3_; have f4_ := f1_.symm; have f5_ := f3_.symm; clear f1_ f2_ f3_; subst f4_; subst f5_))
         have p108 : 0 ≤ (a2 : Int) := of_decide_eq_true (by first | (with_reducible assumption) | assumption)
         have q108 : a2 < (l0.length : Int) := of_decide_eq_true (by first | (with_reducible assumption) | assumption)
         obtain ⟨ad108, e108, hx108_0⟩ := Kd.at_flo (Kd.R_reads' HO_0.out).2.2 a2 p108 q108
         cases e108
         replace p108 := eq_true p108
         replace q108 := eq_true q108
         have p109 : 0 ≤ ((ji35) : Int) := of_decide_eq_true (by first | (with_reducible assumption) | assumption)
         have q109 : (ji35) < (l0.length : Int) := of_decide_eq_true (by first | (with_reducible assumption) | assumption)
         obtain ⟨ad109, e109, hx109_0⟩ := Kd.at_flo (Kd.R_reads' HO_0.out).2.2 (ji35) p109 q109
         obtain rfl : ad108 = ad109 := (by injection e109)
         replace p109 := eq_true p109
         replace q109 := eq_true q109
         refine start_ (n := 12) (S := fun w' => w'.cell? (ad108.add (a2).toNat) = some (.float .f64 (rdOf (0 : Nat) l0 a2)) ∧ w'.cell? (ad108.add ((ji35)).toNat) = some (.float .f64 (rdOf (0 : Nat) l0 (ji35)))) (ds := []) (ba 12 0) (by kernel_rfl) rfl rfl ⟨hx108_0, hx109_0⟩ (fun hHeld => ?_); refine zT qssmcff6.tab17 qssmcff6.bits17 (fun HT_ HW_ => ?_)
         generalize wr.drew = w40 at HO_0 HK HB hx108_0 hx109_0 hHeld ⊢
         refine' pu 0 (some 92) (ba 12 1) HT_ rfl rfl (by kernel_rfl) (fun _ _ _ => id) ?_ ?_ ?_ <| pu 1 (some 93) (ba 12 3) HT_ rfl rfl (by kernel_rfl) (fun _ _ _ => id) ?_ ?_ ?_ <| pu 2 (some 94) (ba 12 7) HT_ rfl rfl (by kernel_rfl) (fun _ _ _ => id) ?_ ?_ ?_ <| pu 3 (some 95) (ba 12 15) HT_ rfl rfl (by kernel_rfl) (fun _ _ _ => id) ?_ ?_ ?_ <| pu 5 (some 97) (ba 12 47) HT_ rfl rfl (by kernel_rfl) (fun _ _ _ => id) ?_ ?_ ?_ <| pu 6 (some 98) (ba 12 111) HT_ rfl rfl (by kernel_rfl) (fun _ _ _ => id) ?_ ?_ ?_ <| pu 7 (some 99) (ba 12 239) HT_ rfl rfl (by kernel_rfl) (fun _ _ _ => id) ?_ ?_ ?_ <| ta 4 (some 96) (ba 12 255) HT_ HW_ rfl rfl (by kernel_rfl) (fun _ _ _ => id) ?_ ?_ hHeld ?_ <| ta 8 (some 100) (ba 12 511) HT_ HW_ rfl rfl (by kernel_rfl) (fun _ _ _ => id) ?_ ?_ hHeld ?_ <| ?_
         any_goals (first | (show Region.wanted _ _ = _; rfl) | (rintro w' ⟨s0, s1⟩; go_simp; with_reducible rfl) | (intro w'; go_simp; with_reducible rfl) | (simp only [Act.put, List.setIfInBounds_toArray, List.set_cons_zero, List.set_cons_succ, i64_w, i32_w]; rfl))
         refine one_ (i := 9) (N := some 101) (ba 12 1023) rfl rfl (one_of HT_.out (by kernel_rfl)) (by decide) (fun K hK => ?_)
         refine goesD_ Try.func52 (by kernel_rfl) rfl #[.float .f64 (rdOf (0 : Nat) l0 a2), .float .f64 (rdOf (0 : Nat) l0 (ji35))] (by rfl) rfl rfl rfl (by (try simp only [List.map_toArray, List.map_cons, List.map_nil]); first | done | (simp only [hji35]; rfl) | rfl | (simp only [List.length_drop, List.length_take]; rfl)) ?_
         with_reducible refine (qoc.calls (rdOf (0 : Nat) l0 a2) (rdOf (0 : Nat) l0 (ji35)) t110 _ A38.out).mono ?_
         rintro e w' ⟨rfl, ⟨nd, rfl⟩⟩
         refine ⟨_, rfl, ?_⟩
         refine hK.out _ _ ⟨hHeld.1, hHeld.2⟩ (fun hHeld => ?_)
         clear hK K
         refine norm_ (a' := ?_) ?_ ?_
         rotate_left
         ·show Act.put _ (some 101) _ = _
          simp only [Act.put, List.setIfInBounds_toArray, List.set_cons_zero, List.set_cons_succ, i64_w, i32_w]
          rfl
         refine' pu 10 (some 102) (ba 12 2047) HT_ rfl rfl (by kernel_rfl) (fun _ _ _ => id) ?_ ?_ ?_ <| pu 11 (some 103) (ba 12 4095) HT_ rfl rfl (by kernel_rfl) (fun _ _ _ => id) ?_ ?_ ?_ <| ?_
         any_goals (first | (show Region.wanted _ _ = _; rfl) | (intro w'; go_simp; with_reducible rfl) | (simp only [Act.put, List.setIfInBounds_toArray, List.set_cons_zero, List.set_cons_succ, i64_w, i32_w]; rfl))
         refine done_ (done_of HT_.out (by kernel_rfl)) ?_
         try go_wp2
         go_roundg k1
         case measure => have := HK1.out; omega
         case rel => exact ⟨(x14_1), (ji35), (by first | rfl | (simp; done) | (simp [*]; done)), (by first | rfl | (simp; done) | (simp only [← hji35] <;> (first | rfl | simp)) | (simp [*]; done)), H', ⟨by have := HK1.out; omega⟩, ⟨by (with_reducible repeat (first | apply Kd.R_alloc | apply Kd.R_drewN | apply Kd.R_drew)); exact HO_0.out⟩, ⟨by repeat (first | (with_reducible first | exact HK.out | apply Kept.alloc | apply Kept.drewN | apply Kept.drew) | exact HK.out)⟩, ⟨by repeat (first | (with_reducible first | exact HB.out | apply zA | apply zB | apply zC) | exact HB.out)⟩⟩
        ·rw [if_neg c39] at H
         have c39b0 : decide (t110 < 0) = false := decide_eq_false c39
         clear c39
         have H' := Zs.mk H
         clear H
         try go_wp2
         have n0_ := Zs.mk (Kd.R_drew HO_0.out)
         have n1_ := Zs.mk (Kept.drew HK.out)
         have n2_ := Zs.mk (zC HB.out)
         clear HO_0
         clear HK
         clear HB
         have HO_0 := n0_
         have HK := n1_
         have HB := n2_
         clear n0_ n1_ n2_
         obtain ⟨Ao43, co43, eo43⟩ := Kd.R_slice HO_0.out
         (first | subst eo43 | (injection eo43 with f1_ f2_ f3_; have f4_ := f1_.symm; have f5_ := f3_.symm; clear f1_ f2_ f3_; subst f4_; subst f5_))
         have p108 : 0 ≤ (a2 : Int) := of_decide_eq_true (by first | (with_reducible assumption) | assumption)
         have q108 : a2 < (l0.length : Int) := of_decide_eq_true (by first | (with_reducible assumption) | assumption)
         obtain ⟨ad108, e108, hx108_0⟩ := Kd.at_flo (Kd.R_reads' HO_0.out).2.2 a2 p108 q108
         cases e108
         replace p108 := eq_true p108
         replace q108 := eq_true q108
         have p109 : 0 ≤ ((ji35) : Int) := of_decide_eq_true (by first | (with_reducible assumption) | assumption)
         have q109 : (ji35) < (l0.length : Int) := of_decide_eq_true (by first | (with_reducible assumption) | assumption)
         obtain ⟨ad109, e109, hx109_0⟩ := Kd.at_flo (Kd.R_reads' HO_0.out).2.2 (ji35) p109 q109
         obtain rfl : ad108 = ad109 := (by injection e109)
         replace p109 := eq_true p109
         replace q109 := eq_true q109
         refine start_ (n := 12) (S := fun w' => w'.cell? (ad108.add (a2).toNat) = some (.float .f64 (rdOf (0 : Nat) l0 a2)) ∧ w'.cell? (ad108.add ((ji35)).toNat) = some (.float .f64 (rdOf (0 : Nat) l0 (ji35)))) (ds := []) (ba 12 0) (by kernel_rfl) rfl rfl ⟨hx108_0, hx109_0⟩ (fun hHeld => ?_); refine zT qssmcff6.tab17 qssmcff6.bits17 (fun HT_ HW_ => ?_)
         generalize wr.drew = w42 at HO_0 HK HB hx108_0 hx109_0 hHeld ⊢
         refine' pu 0 (some 92) (ba 12 1) HT_ rfl rfl (by kernel_rfl) (fun _ _ _ => id) ?_ ?_ ?_ <| pu 1 (some 93) (ba 12 3) HT_ rfl rfl (by kernel_rfl) (fun _ _ _ => id) ?_ ?_ ?_ <| pu 2 (some 94) (ba 12 7) HT_ rfl rfl (by kernel_rfl) (fun _ _ _ => id) ?_ ?_ ?_ <| pu 3 (some 95) (ba 12 15) HT_ rfl rfl (by kernel_rfl) (fun _ _ _ => id) ?_ ?_ ?_ <| pu 5 (some 97) (ba 12 47) HT_ rfl rfl (by kernel_rfl) (fun _ _ _ => id) ?_ ?_ ?_ <| pu 6 (some 98) (ba 12 111) HT_ rfl rfl (by kernel_rfl) (fun _ _ _ => id) ?_ ?_ ?_ <| pu 7 (some 99) (ba 12 239) HT_ rfl rfl (by kernel_rfl) (fun _ _ _ => id) ?_ ?_ ?_ <| ta 4 (some 96) (ba 12 255) HT_ HW_ rfl rfl (by kernel_rfl) (fun _ _ _ => id) ?_ ?_ hHeld ?_ <| ta 8 (some 100) (ba 12 511) HT_ HW_ rfl rfl (by kernel_rfl) (fun _ _ _ => id) ?_ ?_ hHeld ?_ <| ?_
         any_goals (first | (show Region.wanted _ _ = _; rfl) | (rintro w' ⟨s0, s1⟩; go_simp; with_reducible rfl) | (intro w'; go_simp; with_reducible rfl) | (simp only [Act.put, List.setIfInBounds_toArray, List.set_cons_zero, List.set_cons_succ, i64_w, i32_w]; rfl))
         refine one_ (i := 9) (N := some 101) (ba 12 1023) rfl rfl (one_of HT_.out (by kernel_rfl)) (by decide) (fun K hK => ?_)
         refine goesD_ Try.func52 (by kernel_rfl) rfl #[.float .f64 (rdOf (0 : Nat) l0 a2), .float .f64 (rdOf (0 : Nat) l0 (ji35))] (by rfl) rfl rfl rfl (by (try simp only [List.map_toArray, List.map_cons, List.map_nil]); first | done | (simp only [hji35]; rfl) | rfl | (simp only [List.length_drop, List.length_take]; rfl)) ?_
         with_reducible refine (qoc.calls (rdOf (0 : Nat) l0 a2) (rdOf (0 : Nat) l0 (ji35)) t110 _ A38.out).mono ?_
         rintro e w' ⟨rfl, ⟨nd, rfl⟩⟩
         refine ⟨_, rfl, ?_⟩
         refine hK.out _ _ ⟨hHeld.1, hHeld.2⟩ (fun hHeld => ?_)
         clear hK K
         refine norm_ (a' := ?_) ?_ ?_
         rotate_left
         ·show Act.put _ (some 101) _ = _
          simp only [Act.put, List.setIfInBounds_toArray, List.set_cons_zero, List.set_cons_succ, i64_w, i32_w]
          rfl
         refine' pu 10 (some 102) (ba 12 2047) HT_ rfl rfl (by kernel_rfl) (fun _ _ _ => id) ?_ ?_ ?_ <| pu 11 (some 103) (ba 12 4095) HT_ rfl rfl (by kernel_rfl) (fun _ _ _ => id) ?_ ?_ ?_ <| ?_
         any_goals (first | (show Region.wanted _ _ = _; rfl) | (intro w'; go_simp; with_reducible rfl) | (simp only [Act.put, List.setIfInBounds_toArray, List.set_cons_zero, List.set_cons_succ, i64_w, i32_w]; rfl))
         refine done_ (done_of HT_.out (by kernel_rfl)) ?_
         try go_wp2
         go_roundg k1
         case measure => have := HK1.out; omega
         case rel => exact ⟨(wrap64 ((ji35) + 1)), (x15_1), (by first | rfl | (simp; done) | (simp only [← hji35] <;> (first | rfl | simp)) | (simp [*]; done)), (by first | rfl | (simp; done) | (simp [*]; done)), H', ⟨by have := HK1.out; omega⟩, ⟨by (with_reducible repeat (first | apply Kd.R_alloc | apply Kd.R_drewN | apply Kd.R_drew)); exact HO_0.out⟩, ⟨by repeat (first | (with_reducible first | exact HK.out | apply Kept.alloc | apply Kept.drewN | apply Kept.drew) | exact HK.out)⟩, ⟨by repeat (first | (with_reducible first | exact HB.out | apply zA | apply zB | apply zC) | exact HB.out)⟩⟩
       ·rw [if_neg c37] at H
        exact absurd H (by simp)
      ·rw [if_neg c36] at H
       exact absurd H (by simp)
     ·rw [if_neg c34] at H
      exact absurd H (by simp)
    ·rw [if_neg c33] at H
     exact absurd H (by simp)
   ·rw [if_neg c32] at H
    have c32b0 : decide (x14_1 < x15_1) = false := decide_eq_false c32
    clear c32
    have H' := Zs.mk H
    clear H
    go_wp2
    go_loopg [17] k1 (fun kq v17 w' => ∃ (x0_2 : List Nat) (x17_2 : Int), v17 = .int .i64 x17_2 ∧ Zs (qssmcff6.l3 kq x0_2 x14_1 x17_2 = some r) ∧ Zs (kq ≤ k1) ∧ Zs (Kd.R (Kd.scalar (Value.float .f64) (fun _ => rfl)) 23 w' w0.heap.size (fun k_ => (P0_ k_ ∨ w.heap.size ≤ k_)) u9000_ x0_2) ∧ Zs (Kept w w' (fun k_ => P0_ k_)) ∧ Zs (Below w0.heap.size w0 w'))
    case atStart => exact ⟨(l0), (a2), (by first | rfl | (simp; done) | (simp [*]; done)), H', ⟨Nat.le_refl _⟩, ⟨by (with_reducible repeat (first | apply Kd.R_alloc | apply Kd.R_drewN | apply Kd.R_drew)); exact HO_0.out⟩, ⟨by repeat (first | (with_reducible first | exact HK.out | apply Kept.alloc | apply Kept.drewN | apply Kept.drew) | exact HK.out)⟩, ⟨by repeat (first | (with_reducible first | exact HB.out | apply zA | apply zB | apply zC) | exact HB.out)⟩⟩
    case round =>
     clear H'
     try clear c6; try clear c6b0; try clear c6b1; try clear c31; try clear c31b0; try clear c31b1; try clear c32; try clear c32b0; try clear c33; try clear c33b0; try clear c34; try clear c34b0; try clear c36; try clear c36b0; try clear c37; try clear c37b0; try clear c39; try clear c39b0; try clear hx108_0; try clear hx109_0; try clear p108; try clear p109; try clear q108; try clear q109
     obtain ⟨x0_2, x17_2, rfl, HA, HK2, HO_0, HK, HB⟩ := hrel
     cases gk with
     | zero => exact absurd HA.out (by simp [qssmcff6.l3])
     | succ k2 =>
      have H := HA.out
      clear HA
      simp only [qssmcff6.l3] at H
      by_cases c44 : x17_2 > x14_1
      ·rw [if_pos c44] at H
       have c44b0 : decide (x14_1 < x17_2) = true := decide_eq_true c44
       clear c44
       obtain ⟨ji45, hji45⟩ : ∃ j_ : Int, (wrap64 (x17_2 - 1)) = j_ := ⟨_, rfl⟩
       replace H : (if 0 ≤ (ji45) then (if (ji45) < (x0_2.length : Int) then (if 0 ≤ x17_2 then (if x17_2 < (x0_2.length : Int) then (qssmcff6.l3 k2 ((x0_2.set (x17_2 : Int).toNat (rdOf (0 : Nat) x0_2 (ji45))).set ((ji45) : Int).toNat (rdOf (0 : Nat) x0_2 x17_2)) x14_1 ji45) else (none)) else (none)) else (none)) else (none)) = some r := by first | (rw [hji45] at H; exact H) | (simp only [hji45] at H ⊢; exact H)
       have hji45w : (IntKind.i64.wrap (x17_2 - 1)) = ji45 := (i64_w _).trans hji45
       by_cases c46 : 0 ≤ (ji45)
       ·rw [if_pos c46] at H
        have c46b0 : decide (0 ≤ (ji45)) = true := decide_eq_true c46
        clear c46
        by_cases c47 : (ji45) < (x0_2.length : Int)
        ·rw [if_pos c47] at H
         have c47b0 : decide ((ji45) < (x0_2.length : Int)) = true := decide_eq_true c47
         clear c47
         by_cases c48 : 0 ≤ x17_2
         ·rw [if_pos c48] at H
          have c48b0 : decide (0 ≤ x17_2) = true := decide_eq_true c48
          clear c48
          by_cases c49 : x17_2 < (x0_2.length : Int)
          ·rw [if_pos c49] at H
           have c49b0 : decide (x17_2 < (x0_2.length : Int)) = true := decide_eq_true c49
           clear c49
           obtain ⟨y113, hy113⟩ : ∃ y_ : List Nat, y_ = (x0_2.set (x17_2 : Int).toNat (rdOf (0 : Nat) x0_2 (ji45))) := ⟨_, rfl⟩
           replace H : (qssmcff6.l3 k2 (y113.set ((ji45) : Int).toNat (rdOf (0 : Nat) x0_2 x17_2)) x14_1 ji45) = some r := by first | (rw [hy113]; with_reducible exact H) | (have H2_ := (Option.bind_some _ _).symm.trans H; rw [hy113]; with_reducible exact H2_) | (have H2_ := (Option.bind_some _ _).symm.trans H; with_reducible exact H2_) | with_reducible exact H | (rw [hy113]; exact H) | exact H
           have Ny113 := Zs.mk hy113
           clear hy113
           obtain ⟨y114, hy114⟩ : ∃ y_ : List Nat, y_ = (y113.set ((ji45) : Int).toNat (rdOf (0 : Nat) x0_2 x17_2)) := ⟨_, rfl⟩
           replace H : (qssmcff6.l3 k2 y114 x14_1 ji45) = some r := by first | (rw [hy114]; with_reducible exact H) | (have H2_ := (Option.bind_some _ _).symm.trans H; rw [hy114]; with_reducible exact H2_) | (have H2_ := (Option.bind_some _ _).symm.trans H; with_reducible exact H2_) | with_reducible exact H | (rw [hy114]; exact H) | exact H
           have Ny114 := Zs.mk hy114
           clear hy114
           have H' := Zs.mk H
           clear H
           try go_wp2
           have n0_ := Zs.mk (Kd.R_drew HO_0.out)
           have n1_ := Zs.mk (Kept.drew HK.out)
           have n2_ := Zs.mk (zC HB.out)
           clear HO_0
           clear HK
           clear HB
           have HO_0 := n0_
           have HK := n1_
           have HB := n2_
           clear n0_ n1_ n2_
           obtain ⟨Ao53, co53, eo53⟩ := Kd.R_slice HO_0.out
           (first | subst eo53 | (injection eo53 with f1_ f2_ f3_; have f4_ := f1_.symm; have f5_ := f3_.symm; clear f1_ f2_ f3_; subst f4_; subst f5_))
           have p111 : 0 ≤ ((ji45) : Int) := of_decide_eq_true (by first | (with_reducible assumption) | assumption)
           have q111 : (ji45) < (x0_2.length : Int) := of_decide_eq_true (by first | (with_reducible assumption) | assumption)
           obtain ⟨ad111, e111, hx111_0⟩ := Kd.at_flo (Kd.R_reads' HO_0.out).2.2 (ji45) p111 q111
           cases e111
           replace p111 := eq_true p111
           replace q111 := eq_true q111
           have p112 : 0 ≤ (x17_2 : Int) := of_decide_eq_true (by first | (with_reducible assumption) | assumption)
           have q112 : x17_2 < (x0_2.length : Int) := of_decide_eq_true (by first | (with_reducible assumption) | assumption)
           obtain ⟨ad112, e112, hx112_0⟩ := Kd.at_flo (Kd.R_reads' HO_0.out).2.2 x17_2 p112 q112
           obtain rfl : ad111 = ad112 := (by injection e112)
           replace p112 := eq_true p112
           replace q112 := eq_true q112
           have p50 : 0 ≤ (x17_2 : Int) := of_decide_eq_true (by first | (with_reducible assumption) | assumption)
           have q50 : (x17_2 : Int) < ((x0_2.length : Int) : Int) := of_decide_eq_true (by first | (with_reducible assumption) | assumption)
           obtain ⟨go50, co50, eo50, gb50, gl50, cl50, HG50⟩ := Kd.R_form HO_0.out (by omega)
           (first | cases eo50 | (injection eo50 with ea_ en_ ec_; (first | subst ea_ | (injection ea_ with ea_; subst ea_)); subst ec_; clear en_))
           have GB50 := Zs.mk gb50
           have GG50 := Zs.mk HG50
           clear gb50 gl50 HG50
           have HMgo50 := Zs.mk (show (P0_ go50 ∨ w.heap.size ≤ go50) from (HO_0.out.1 _ rfl))
           (first | simp only [add_plain] at hx111_0 | skip)
           (first | simp only [add_plain] at hx112_0 | skip)
           obtain ⟨hx50_0, hf50_0⟩ := Kd.R_celln 0 HO_0.out (x17_2 : Int) p50 q50
           replace p50 := eq_true p50
           replace q50 := eq_true q50
           have HP54 := Kd.R_putn HO_0.out (x17_2 : Int) (rdOf (0 : Nat) x0_2 (ji45))
           rw [← Ny113.out] at HP54
           have HQ54 := Zs.mk HP54
           clear HP54
           have p51 : 0 ≤ ((ji45) : Int) := of_decide_eq_true (by first | (with_reducible assumption) | assumption)
           have q51 : ((ji45) : Int) < ((x0_2.length : Int) : Int) := of_decide_eq_true (by first | (with_reducible assumption) | assumption)
           obtain ⟨hx51_0, hf51_0⟩ := Kd.R_celln 0 HQ54.out ((ji45) : Int) p51 q51
           replace p51 := eq_true p51
           replace q51 := eq_true q51
           have HP55 := Kd.R_putn HQ54.out ((ji45) : Int) (rdOf (0 : Nat) x0_2 x17_2)
           rw [← Ny114.out] at HP55
           have HQ55 := Zs.mk HP55
           clear HP55
           refine start_ (n := 18) (S := fun w' => w'.cell? ⟨go50, ((ji45)).toNat, none⟩ = some (.float .f64 (rdOf (0 : Nat) x0_2 (ji45))) ∧ w'.cell? ⟨go50, (x17_2).toNat, none⟩ = some (.float .f64 (rdOf (0 : Nat) x0_2 x17_2))) (ds := [15, 17]) (ba 18 0) (by kernel_rfl) rfl rfl ⟨hx111_0, hx112_0⟩ (fun hHeld => ?_); refine zT qssmcff6.tab23 qssmcff6.bits23 (fun HT_ HW_ => ?_)
           generalize wr.drew = w52 at HO_0 HK HB GG50 HQ54 HQ55 hf50_0 hf51_0 hx111_0 hx112_0 hx50_0 hx51_0 hHeld ⊢
           refine' pu 0 (some 113) (ba 18 1) HT_ rfl rfl (by kernel_rfl) (fun _ _ _ => id) ?_ ?_ ?_ <| pu 1 (some 114) (ba 18 3) HT_ rfl rfl (by kernel_rfl) (fun _ _ _ => id) ?_ ?_ ?_ <| pu 2 (some 115) (ba 18 7) HT_ rfl rfl (by kernel_rfl) (fun _ _ _ => id) ?_ ?_ ?_ <| pu 3 (some 116) (ba 18 15) HT_ rfl rfl (by kernel_rfl) (fun _ _ _ => id) ?_ ?_ ?_ <| pu 4 (some 117) (ba 18 31) HT_ rfl rfl (by kernel_rfl) (fun _ _ _ => id) ?_ ?_ ?_ <| pu 5 (some 118) (ba 18 63) HT_ rfl rfl (by kernel_rfl) (fun _ _ _ => id) ?_ ?_ ?_ <| pu 6 (some 119) (ba 18 127) HT_ rfl rfl (by kernel_rfl) (fun _ _ _ => id) ?_ ?_ ?_ <| pu 7 (some 120) (ba 18 255) HT_ rfl rfl (by kernel_rfl) (fun _ _ _ => id) ?_ ?_ ?_ <| pu 8 (some 121) (ba 18 511) HT_ rfl rfl (by kernel_rfl) (fun _ _ _ => id) ?_ ?_ ?_ <| pu 10 (some 123) (ba 18 1535) HT_ rfl rfl (by kernel_rfl) (fun _ _ _ => id) ?_ ?_ ?_ <| pu 11 (some 124) (ba 18 3583) HT_ rfl rfl (by kernel_rfl) (fun _ _ _ => id) ?_ ?_ ?_ <| pu 12 (some 125) (ba 18 7679) HT_ rfl rfl (by kernel_rfl) (fun _ _ _ => id) ?_ ?_ ?_ <| ta 9 (some 122) (ba 18 8191) HT_ HW_ rfl rfl (by kernel_rfl) (fun _ _ _ => id) ?_ ?_ hHeld ?_ <| ta 13 (some 126) (ba 18 16383) HT_ HW_ rfl rfl (by kernel_rfl) (fun _ _ _ => id) ?_ ?_ hHeld ?_ <| pu 14 (some 127) (ba 18 32767) HT_ rfl rfl (by kernel_rfl) (fun _ _ _ => id) ?_ ?_ ?_ <| ?_
           any_goals (first | (show Region.wanted _ _ = _; rfl) | (rintro w' ⟨s0, s1⟩; go_simp; with_reducible rfl) | (intro w'; go_simp; with_reducible rfl) | (simp only [Act.put, List.setIfInBounds_toArray, List.set_cons_zero, List.set_cons_succ, i64_w, i32_w]; rfl))
           refine last_ (i := 15) (N := none) (ba 18 65535) rfl rfl (one_of HT_.out (by kernel_rfl)) (by decide) (fun K hK => ?_)
           refine skip_ (w1 := ?_) (by rfl) rfl ?_ ?_
           rotate_left
           ·go_simp
            rfl
           refine hK.out _ _ ?_
           clear hK K
           refine' pu 16 (some 128) (ba 18 131071) HT_ rfl rfl (by kernel_rfl) (fun _ _ _ => id) ?_ ?_ ?_ <| ?_
           any_goals (first | (show Region.wanted _ _ = _; rfl) | (intro w'; go_simp; with_reducible rfl) | (simp only [Act.put, List.setIfInBounds_toArray, List.set_cons_zero, List.set_cons_succ, i64_w, i32_w]; rfl))
           refine last_ (i := 17) (N := none) (ba 18 262143) rfl rfl (one_of HT_.out (by kernel_rfl)) (by decide) (fun K hK => ?_)
           refine skip_ (w1 := ?_) (by rfl) rfl ?_ ?_
           rotate_left
           ·go_simp
            rfl
           refine hK.out _ _ ?_
           clear hK K
           refine done_ (done_of HT_.out (by kernel_rfl)) ?_
           try go_wp2
           go_roundg k2
           case measure => have := HK1.out; have := HK2.out; omega
           case rel => exact ⟨(y114), (ji45), (by first | rfl | (simp; done) | (simp only [← hji45] <;> (first | rfl | simp)) | (simp [*]; done)), H', ⟨by have := HK1.out; have := HK2.out; omega⟩, ⟨by (with_reducible repeat (first | apply Kd.R_alloc | apply Kd.R_drewN | apply Kd.R_drew)); exact HQ55.out⟩, ⟨by repeat (first | (with_reducible first | exact HK.out | apply Kept.alloc | apply Kept.drewN | apply Kept.drew | refine Kept.setCell ?_ HMgo50.out _ | refine Kept.setCell ?_ HMgo50.out _) | exact HK.out)⟩, ⟨by repeat (first | (with_reducible first | exact HB.out | apply zA | apply zB | apply zC | refine below_set ?_ GB50.out | refine below_set ?_ GB50.out) | exact HB.out)⟩⟩
          ·rw [if_neg c49] at H
           exact absurd H (by simp)
         ·rw [if_neg c48] at H
          exact absurd H (by simp)
        ·rw [if_neg c47] at H
         exact absurd H (by simp)
       ·rw [if_neg c46] at H
        exact absurd H (by simp)
      ·rw [if_neg c44] at H
       have c44b0 : decide (x14_1 < x17_2) = false := decide_eq_false c44
       clear c44
       obtain rfl := Option.some.inj H
       go_wp2
       first | go_end0 | ((try simp only [Exit.inBlock, Exit.then]); refine bodyPost_ret (results_none rfl _ _ _) rfl ?_)
       exact ⟨by first | rfl | (simp [zE, zF] <;> rfl) | (simp [*, zE, zF] <;> rfl), by (with_reducible repeat (first | apply Kd.R_alloc | apply Kd.R_drewN | apply Kd.R_drew)); exact HO_0.out, by repeat (first | (with_reducible first | exact HB.out | apply zA | apply zB | apply zC) | exact HB.out), by repeat (first | (with_reducible first | exact HK.out | apply Kept.alloc | apply Kept.drewN | apply Kept.drew) | exact HK.out)⟩
end Go.Proofs.Ytkmbgfhkdopigaa.P
