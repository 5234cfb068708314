/- Texts that the statement's proof leans on, part 10. -/
import Derived.Test.YtkmbgfhkdopigaaDoorTB4
import Derived.Test.YtkmbgfhkdopigaaDoorTB5
namespace Go.Proofs.YtkmbgfhkdopigaaDoor.P
open Go.RowKit Go.Proofs.YtkmbgfhkdopigaaDoorW.PrintWords Go.Proofs.YtkmbgfhkdopigaaDoorW.PrintLast Go.Proofs.YtkmbgfhkdopigaaDoorW.PrintMore
attribute [local go_sem] max2_int min2_int max_two min_two max_three min_three max_four min_four
attribute [local go_sem] Go.Proofs.YtkmbgfhkdopigaaDoor.Fl.store_float Go.Proofs.YtkmbgfhkdopigaaDoor.Fl.call58 Go.Proofs.YtkmbgfhkdopigaaDoor.Fl.call62
set_option linter.unusedVariables false
set_option linter.unusedSimpArgs false
mutual
def qspeou6.l0 : Nat → List Int → Int → Int → Int → Option (Int × List Int)
 | 0, _, _, _, _ => none
 | k + 1, x0, x1, x9, x10 => qspeou6.l1 k x0 x1 x9 x10
def qspeou6.j2 : Nat → List Int → Int → Int → Int → Option (Int × List Int)
 | 0, _, _, _, _ => none
 | k + 1, x0, x1, x9, x10 => qspeou6.l2 k x0 x1 x9 x10
def qspeou6.l2 : Nat → List Int → Int → Int → Int → Option (Int × List Int)
 | 0, _, _, _, _ => none
 | k + 1, x0, x1, x9, x10 => if x9 ≤ x10 then (if 0 ≤ x1 then (if x1 < (x0.length : Int) then (if 0 ≤ x10 then (if x10 < (x0.length : Int) then ((qclu6.f (rd x0 x1) (rd x0 x10)).bind fun t110 => (if t110 = true then (qspeou6.l2 k x0 x1 x9 (wrap64 (x10 - 1))) else (if x9 > x10 then (some (x9, x0)) else (if 0 ≤ x9 then (if x9 < (x0.length : Int) then (qspeou6.l0 k ((x0.set (x9 : Int).toNat (rd x0 x10)).set (x10 : Int).toNat (rd x0 x9)) x1 (wrap64 (x9 + 1)) (wrap64 (x10 - 1))) else (none)) else (none))))) else (none)) else (none)) else (none)) else (none)) else (if x9 > x10 then (some (x9, x0)) else (if 0 ≤ x10 then (if x10 < (x0.length : Int) then (if 0 ≤ x9 then (if x9 < (x0.length : Int) then (qspeou6.l0 k ((x0.set (x9 : Int).toNat (rd x0 x10)).set (x10 : Int).toNat (rd x0 x9)) x1 (wrap64 (x9 + 1)) (wrap64 (x10 - 1))) else (none)) else (none)) else (none)) else (none)))
def qspeou6.l1 : Nat → List Int → Int → Int → Int → Option (Int × List Int)
 | 0, _, _, _, _ => none
 | k + 1, x0, x1, x9, x10 => if x9 ≤ x10 then (if 0 ≤ x1 then (if x1 < (x0.length : Int) then (if 0 ≤ x9 then (if x9 < (x0.length : Int) then ((qclu6.f (rd x0 x1) (rd x0 x9)).bind fun t107 => (if t107 = true then (qspeou6.j2 k x0 x1 x9 x10) else (qspeou6.l1 k x0 x1 (wrap64 (x9 + 1)) x10))) else (none)) else (none)) else (none)) else (none)) else (qspeou6.j2 k x0 x1 x9 x10)
end
def qspeou6.f (k : Nat) (l0 : List Int) (a1 : Int) (a2 : Int) (a3 : Int) : Option (Int × List Int) := if 0 ≤ a3 then (if a3 < (l0.length : Int) then (if 0 ≤ a1 then (if a1 < (l0.length : Int) then (qspeou6.l0 k ((l0.set (a1 : Int).toNat (rd l0 a3)).set (a3 : Int).toNat (rd l0 a1)) a1 (wrap64 (a1 + 1)) (wrap64 (a2 - 1))) else (none)) else (none)) else (none)) else (none)
def qspeou6.T1 : Bool × List (List Nat × List Nat) := (true, [([], []), ([], []), ([], []), ([], []), ([], []), ([], []), ([4, 5], [4, 5]), ([6], [6]), ([], []), ([], []), ([8, 9], [8, 9]), ([10], [10]), ([0, 1, 0, 1, 4, 5, 6, 7, 11], [0, 1]), ([12, 7, 0, 1, 4, 5, 6, 7, 11], [7, 12]), ([2, 3, 0, 1, 2, 3, 4, 5, 6, 7, 8, 9, 10, 11, 12, 13], [2, 3]), ([14, 11, 13, 0, 1, 2, 3, 4, 5, 6, 7, 8, 9, 10, 11, 12, 13], [11, 14])])
def qspeou6.B1 : List Nat := [0, 0, 0, 0, 0, 0, 48, 112, 0, 0, 768, 1792, 4083, 8179, 16383, 32767]
theorem qspeou6.tab1 : rtab .any (opsOf Tryd.f96 1) = qspeou6.T1 := by kernel_rfl
theorem qspeou6.bits1 : waitsOk qspeou6.T1.2 qspeou6.B1 = true := by kernel_rfl
def qspeou6.T3 : Bool × List (List Nat × List Nat) := (true, [([], []), ([], []), ([0, 1], [0, 1]), ([2], [2]), ([3], [3]), ([3], [3]), ([4, 5, 3], [3, 4, 5]), ([6, 3], [3, 6]), ([3], [3]), ([3], [3]), ([8, 9, 3], [3, 8, 9]), ([10, 3], [3, 10]), ([7, 11, 3, 3], [3, 7, 11]), ([12, 3], [3, 12]), ([3, 13], [3, 13])])
def qspeou6.B3 : List Nat := [0, 0, 3, 7, 15, 15, 63, 127, 15, 15, 783, 1807, 4095, 8191, 16383]
theorem qspeou6.tab3 : rtab .any (opsOf Tryd.f96 3) = qspeou6.T3 := by kernel_rfl
theorem qspeou6.bits3 : waitsOk qspeou6.T3.2 qspeou6.B3 = true := by kernel_rfl
def qspeou6.T5 : Bool × List (List Nat × List Nat) := (true, [([], []), ([], []), ([0, 1], [0, 1]), ([2], [2]), ([3], [3]), ([3], [3]), ([4, 5, 3], [3, 4, 5]), ([6, 3], [3, 6]), ([3], [3]), ([3], [3]), ([8, 9, 3], [3, 8, 9]), ([10, 3], [3, 10]), ([7, 11, 3, 3], [3, 7, 11]), ([3, 12], [3, 12])])
def qspeou6.B5 : List Nat := [0, 0, 3, 7, 15, 15, 63, 127, 15, 15, 783, 1807, 4095, 8191]
theorem qspeou6.tab5 : rtab .any (opsOf Tryd.f96 5) = qspeou6.T5 := by kernel_rfl
theorem qspeou6.bits5 : waitsOk qspeou6.T5.2 qspeou6.B5 = true := by kernel_rfl
def qspeou6.T8 : Bool × List (List Nat × List Nat) := (true, [([], []), ([], []), ([], []), ([], []), ([], []), ([], []), ([4, 5], [4, 5]), ([6], [6]), ([], []), ([], []), ([8, 9], [8, 9]), ([10], [10]), ([0, 1, 0, 1, 4, 5, 6, 7, 11], [0, 1]), ([12, 7, 0, 1, 4, 5, 6, 7, 11], [7, 12]), ([2, 3, 0, 1, 2, 3, 4, 5, 6, 7, 8, 9, 10, 11, 12, 13], [2, 3]), ([14, 11, 13, 0, 1, 2, 3, 4, 5, 6, 7, 8, 9, 10, 11, 12, 13], [11, 14])])
def qspeou6.B8 : List Nat := [0, 0, 0, 0, 0, 0, 48, 112, 0, 0, 768, 1792, 4083, 8179, 16383, 32767]
theorem qspeou6.tab8 : rtab .any (opsOf Tryd.f96 8) = qspeou6.T8 := by kernel_rfl
theorem qspeou6.bits8 : waitsOk qspeou6.T8.2 qspeou6.B8 = true := by kernel_rfl
set_option maxHeartbeats 8000000 in
set_option maxRecDepth 100000 in
theorem qspeou6.calls (k : Nat) (P0_ : Nat → Prop) (u9000_ : Value) (l0 : List Int) (a1 : Int) (a2 : Int) (a3 : Int) (r1 : Int) (r2 : List Int) (w0 w : World) (hB : Below w0.heap.size w0 w) (ho0 : Kd.R (Kd.int .u64) 33 w w0.heap.size P0_ u9000_ l0) (h : qspeou6.f k l0 a1 a2 a3 = some (r1, r2)) :
  Calls Tryd.prog 96 #[u9000_, .int .i64 a1, .int .i64 a2, .int .i64 a3] w fun e w' => e = .returned (.int .i64 r1) ∧ Kd.R (Kd.int .u64) 33 w' w0.heap.size (fun k_ => (P0_ k_ ∨ w.heap.size ≤ k_)) u9000_ r2 ∧ Below w0.heap.size w0 w' ∧ Kept w w' (fun k_ => P0_ k_) := by
 have HO0 := Zs.mk (show Kd.R (Kd.int .u64) 33 w w0.heap.size (fun k_ => (P0_ k_ ∨ w.heap.size ≤ k_)) u9000_ l0 from Kd.R_mono ho0 (fun k_ hk => (.inl hk)))
 have HK := Zs.mk (Kept.refl w (fun k_ => P0_ k_))
 have HW0 := Zs.mk hB.size
 have HB := Zs.mk hB
 clear hB
 have H : (if 0 ≤ a3 then (if a3 < (l0.length : Int) then (if 0 ≤ a1 then (if a1 < (l0.length : Int) then (qspeou6.l0 k ((l0.set (a1 : Int).toNat (rd l0 a3)).set (a3 : Int).toNat (rd l0 a1)) a1 (wrap64 (a1 + 1)) (wrap64 (a2 - 1))) else (none)) else (none)) else (none)) else (none)) = some (r1, r2) := h
 clear h
 by_cases c5 : 0 ≤ a3
 ·rw [if_pos c5] at H
  have c5b0 : decide (0 ≤ a3) = true := decide_eq_true c5
  clear c5
  by_cases c6 : a3 < (l0.length : Int)
  ·rw [if_pos c6] at H
   have c6b0 : decide (a3 < (l0.length : Int)) = true := decide_eq_true c6
   clear c6
   by_cases c7 : 0 ≤ a1
   ·rw [if_pos c7] at H
    have c7b0 : decide (0 ≤ a1) = true := decide_eq_true c7
    clear c7
    by_cases c8 : a1 < (l0.length : Int)
    ·rw [if_pos c8] at H
     have c8b0 : decide (a1 < (l0.length : Int)) = true := decide_eq_true c8
     clear c8
     obtain ⟨y103, hy103⟩ : ∃ y_ : List Int, y_ = (l0.set (a1 : Int).toNat (rd l0 a3)) := ⟨_, rfl⟩
     replace H : (qspeou6.l0 k (y103.set (a3 : Int).toNat (rd l0 a1)) a1 (wrap64 (a1 + 1)) (wrap64 (a2 - 1))) = some (r1, r2) := by first | (rw [hy103]; with_reducible exact H) | (have H2_ := (Option.bind_some _ _).symm.trans H; rw [hy103]; with_reducible exact H2_) | (have H2_ := (Option.bind_some _ _).symm.trans H; with_reducible exact H2_) | with_reducible exact H | (rw [hy103]; exact H) | exact H
     have Ny103 := Zs.mk hy103
     clear hy103
     obtain ⟨y104, hy104⟩ : ∃ y_ : List Int, y_ = (y103.set (a3 : Int).toNat (rd l0 a1)) := ⟨_, rfl⟩
     replace H : (qspeou6.l0 k y104 a1 (wrap64 (a1 + 1)) (wrap64 (a2 - 1))) = some (r1, r2) := by first | (rw [hy104]; with_reducible exact H) | (have H2_ := (Option.bind_some _ _).symm.trans H; rw [hy104]; with_reducible exact H2_) | (have H2_ := (Option.bind_some _ _).symm.trans H; with_reducible exact H2_) | with_reducible exact H | (rw [hy104]; exact H) | exact H
     have Ny104 := Zs.mk hy104
     clear hy104
     have H' := Zs.mk H
     clear H
     go_enter Tryd.func96, Tryd.ntmps96
     try go_wp2
     have n0_ := Zs.mk (Kd.R_drew HO0.out)
     have n1_ := Zs.mk (Kept.drew HK.out)
     have n2_ := Zs.mk (zC HB.out)
     clear HO0
     clear HK
     clear HB
     have HO0 := n0_
     have HK := n1_
     have HB := n2_
     clear n0_ n1_ n2_
     obtain ⟨Ao12, co12, eo12⟩ := Kd.R_slice HO0.out
     (first | subst eo12 | (injection eo12 with f1_ f2_ f3_; have f4_ := f1_.symm; have f5_ := f3_.symm; clear f1_ f2_ f3_; subst f4_; subst f5_))
     have p101 : 0 ≤ (a3 : Int) := of_decide_eq_true (by first | (with_reducible assumption) | assumption)
     have q101 : a3 < (l0.length : Int) := of_decide_eq_true (by first | (with_reducible assumption) | assumption)
     obtain ⟨ad101, e101, hx101_0⟩ := Kd.at_int (Kd.R_reads' HO0.out).2.2 a3 p101 q101
     cases e101
     replace p101 := eq_true p101
     replace q101 := eq_true q101
     have p102 : 0 ≤ (a1 : Int) := of_decide_eq_true (by first | (with_reducible assumption) | assumption)
     have q102 : a1 < (l0.length : Int) := of_decide_eq_true (by first | (with_reducible assumption) | assumption)
     obtain ⟨ad102, e102, hx102_0⟩ := Kd.at_int (Kd.R_reads' HO0.out).2.2 a1 p102 q102
     obtain rfl : ad101 = ad102 := (by injection e102)
     replace p102 := eq_true p102
     replace q102 := eq_true q102
     have p9 : 0 ≤ (a1 : Int) := of_decide_eq_true (by first | (with_reducible assumption) | assumption)
     have q9 : (a1 : Int) < ((l0.length : Int) : Int) := of_decide_eq_true (by first | (with_reducible assumption) | assumption)
     obtain ⟨go9, co9, eo9, gb9, gl9, cl9, HG9⟩ := Kd.R_form HO0.out (by omega)
     (first | cases eo9 | (injection eo9 with ea_ en_ ec_; (first | subst ea_ | (injection ea_ with ea_; subst ea_)); subst ec_; clear en_))
     have GB9 := Zs.mk gb9
     have GG9 := Zs.mk HG9
     clear gb9 gl9 HG9
     have HMgo9 := Zs.mk (show (P0_ go9 ∨ w.heap.size ≤ go9) from (HO0.out.1 _ rfl))
     (first | simp only [add_plain] at hx101_0 | skip)
     (first | simp only [add_plain] at hx102_0 | skip)
     obtain ⟨hx9_0, hf9_0⟩ := Kd.R_celln 0 HO0.out (a1 : Int) p9 q9
     replace p9 := eq_true p9
     replace q9 := eq_true q9
     have HP13 := Kd.R_putn HO0.out (a1 : Int) (rd l0 a3)
     rw [← Ny103.out] at HP13
     have HQ13 := Zs.mk HP13
     clear HP13
     have p10 : 0 ≤ (a3 : Int) := of_decide_eq_true (by first | (with_reducible assumption) | assumption)
     have q10 : (a3 : Int) < ((l0.length : Int) : Int) := of_decide_eq_true (by first | (with_reducible assumption) | assumption)
     obtain ⟨hx10_0, hf10_0⟩ := Kd.R_celln 0 HQ13.out (a3 : Int) p10 q10
     replace p10 := eq_true p10
     replace q10 := eq_true q10
     have HP14 := Kd.R_putn HQ13.out (a3 : Int) (rd l0 a1)
     rw [← Ny104.out] at HP14
     have HQ14 := Zs.mk HP14
     clear HP14
     refine start_ (n := 16) (S := fun w' => w'.cell? ⟨go9, (a3).toNat, none⟩ = some (.int .u64 (rd l0 a3)) ∧ w'.cell? ⟨go9, (a1).toNat, none⟩ = some (.int .u64 (rd l0 a1))) (ds := [13, 15]) (ba 16 0) (by kernel_rfl) rfl rfl ⟨hx101_0, hx102_0⟩ (fun hHeld => ?_); refine zT qspeou6.tab1 qspeou6.bits1 (fun HT_ HW_ => ?_)
     generalize w.drew = w11 at HO0 HK HB GG9 HQ13 HQ14 hf10_0 hf9_0 hx101_0 hx102_0 hx10_0 hx9_0 hHeld ⊢
     refine' pu 0 (some 11) (ba 16 1) HT_ rfl rfl (by kernel_rfl) (fun _ _ _ => id) ?_ ?_ ?_ <| pu 1 (some 12) (ba 16 3) HT_ rfl rfl (by kernel_rfl) (fun _ _ _ => id) ?_ ?_ ?_ <| pu 2 (some 13) (ba 16 7) HT_ rfl rfl (by kernel_rfl) (fun _ _ _ => id) ?_ ?_ ?_ <| pu 3 (some 14) (ba 16 15) HT_ rfl rfl (by kernel_rfl) (fun _ _ _ => id) ?_ ?_ ?_ <| pu 4 (some 15) (ba 16 31) HT_ rfl rfl (by kernel_rfl) (fun _ _ _ => id) ?_ ?_ ?_ <| pu 5 (some 16) (ba 16 63) HT_ rfl rfl (by kernel_rfl) (fun _ _ _ => id) ?_ ?_ ?_ <| pu 6 (some 17) (ba 16 127) HT_ rfl rfl (by kernel_rfl) (fun _ _ _ => id) ?_ ?_ ?_ <| pu 8 (some 19) (ba 16 383) HT_ rfl rfl (by kernel_rfl) (fun _ _ _ => id) ?_ ?_ ?_ <| pu 9 (some 20) (ba 16 895) HT_ rfl rfl (by kernel_rfl) (fun _ _ _ => id) ?_ ?_ ?_ <| pu 10 (some 21) (ba 16 1919) HT_ rfl rfl (by kernel_rfl) (fun _ _ _ => id) ?_ ?_ ?_ <| ta 7 (some 18) (ba 16 2047) HT_ HW_ rfl rfl (by kernel_rfl) (fun _ _ _ => id) ?_ ?_ hHeld ?_ <| ta 11 (some 22) (ba 16 4095) HT_ HW_ rfl rfl (by kernel_rfl) (fun _ _ _ => id) ?_ ?_ hHeld ?_ <| pu 12 (some 23) (ba 16 8191) HT_ rfl rfl (by kernel_rfl) (fun _ _ _ => id) ?_ ?_ ?_ <| ?_
     any_goals (first | (show Region.wanted _ _ = _; rfl) | (rintro w' ⟨s0, s1⟩; go_simp; with_reducible rfl) | (intro w'; go_simp; with_reducible rfl) | (simp only [Act.put, List.setIfInBounds_toArray, List.set_cons_zero, List.set_cons_succ, i64_w, i32_w]; rfl))
     refine last_ (i := 13) (N := none) (ba 16 16383) rfl rfl (one_of HT_.out (by kernel_rfl)) (by decide) (fun K hK => ?_)
     refine skip_ (w1 := ?_) (by rfl) rfl ?_ ?_
     rotate_left
     ·go_simp
      rfl
     refine hK.out _ _ ?_
     clear hK K
     refine' pu 14 (some 24) (ba 16 32767) HT_ rfl rfl (by kernel_rfl) (fun _ _ _ => id) ?_ ?_ ?_ <| ?_
     any_goals (first | (show Region.wanted _ _ = _; rfl) | (intro w'; go_simp; with_reducible rfl) | (simp only [Act.put, List.setIfInBounds_toArray, List.set_cons_zero, List.set_cons_succ, i64_w, i32_w]; rfl))
     refine last_ (i := 15) (N := none) (ba 16 65535) rfl rfl (one_of HT_.out (by kernel_rfl)) (by decide) (fun K hK => ?_)
     refine skip_ (w1 := ?_) (by rfl) rfl ?_ ?_
     rotate_left
     ·go_simp
      rfl
     refine hK.out _ _ ?_
     clear hK K
     refine done_ (done_of HT_.out (by kernel_rfl)) ?_
     try go_wp2
     go_loopg [9, 10] k (fun kq v9 v10 w' => ∃ (x0_1 : List Int) (x9_1 : Int) (x10_1 : Int), v9 = .int .i64 x9_1 ∧ v10 = .int .i64 x10_1 ∧ Zs (qspeou6.l0 kq x0_1 a1 x9_1 x10_1 = some (r1, r2)) ∧ Zs (kq ≤ k) ∧ Zs (Kd.R (Kd.int .u64) 33 w' w0.heap.size (fun k_ => (P0_ k_ ∨ w.heap.size ≤ k_)) (.slice (some ⟨go9, 0, none⟩) l0.length co12) x0_1) ∧ Zs (Kept w w' (fun k_ => P0_ k_)) ∧ Zs (Below w0.heap.size w0 w'))
     case atStart => exact ⟨(y104), (wrap64 (a1 + 1)), (wrap64 (a2 - 1)), (by first | rfl | (simp; done) | (simp [*]; done)), (by first | rfl | (simp; done) | (simp [*]; done)), H', ⟨Nat.le_refl _⟩, ⟨by (with_reducible repeat (first | apply Kd.R_alloc | apply Kd.R_drewN | apply Kd.R_drew)); exact HQ14.out⟩, ⟨by repeat (first | (with_reducible first | exact HK.out | apply Kept.alloc | apply Kept.drewN | apply Kept.drew | refine Kept.setCell ?_ HMgo9.out _ | refine Kept.setCell ?_ HMgo9.out _) | exact HK.out)⟩, ⟨by repeat (first | (with_reducible first | exact HB.out | apply zA | apply zB | apply zC | refine below_set ?_ GB9.out | refine below_set ?_ GB9.out) | exact HB.out)⟩⟩
     case round =>
      clear H'
      try clear c5; try clear c5b0; try clear c6; try clear c6b0; try clear c7; try clear c7b0; try clear c8; try clear c8b0; try clear p9; try clear q9; try clear p10; try clear q10; try clear hx101_0; try clear hx102_0; try clear hx10_0; try clear hx9_0; try clear p10; try clear p101; try clear p102; try clear p9; try clear q10; try clear q101; try clear q102; try clear q9
      obtain ⟨x0_1, x9_1, x10_1, rfl, rfl, HA, HK1, HO_0, HK, HB⟩ := hrel
      have hl0_1 := (Kd.R_reads' HO_0.out).1
      rw [hl0_1] at HO_0
      (try simp only [hl0_1])
      cases gk with
      | zero => exact absurd HA.out (by simp [qspeou6.l0])
      | succ k1 =>
       have H := HA.out
       clear HA
       simp only [qspeou6.l0] at H
       have HC15 := Zs.mk H
       clear H
       go_upto_block 2 with (fail)
       go_cut [9] (fun v9 wc => ∃ (kq : Nat) (x9_14 : Int), v9 = .int .i64 x9_14 ∧ Zs (qspeou6.j2 kq x0_1 a1 x9_14 x10_1 = some (r1, r2)) ∧ Zs (kq ≤ k1) ∧ Zs (Kd.R (Kd.int .u64) 33 wc w0.heap.size (fun k_ => (P0_ k_ ∨ w.heap.size ≤ k_)) (.slice (some ⟨go9, 0, none⟩) x0_1.length co12) x0_1) ∧ Zs (Kept w wc (fun k_ => P0_ k_)) ∧ Zs (Below w0.heap.size w0 wc))
       case first =>
        have H := HC15.out
        clear HC15
        have H' := Zs.mk H
        clear H
        go_wp2
        go_loopg [9] k1 (fun kq v9 w' => ∃ (x9_2 : Int), v9 = .int .i64 x9_2 ∧ Zs (qspeou6.l1 kq x0_1 a1 x9_2 x10_1 = some (r1, r2)) ∧ Zs (kq ≤ k1) ∧ Zs (Kd.R (Kd.int .u64) 33 w' w0.heap.size (fun k_ => (P0_ k_ ∨ w.heap.size ≤ k_)) (.slice (some ⟨go9, 0, none⟩) x0_1.length co12) x0_1) ∧ Zs (Kept w w' (fun k_ => P0_ k_)) ∧ Zs (Below w0.heap.size w0 w'))
        case atStart => exact ⟨(x9_1), (by first | rfl | (simp; done) | (simp [*]; done)), H', ⟨Nat.le_refl _⟩, ⟨by (try simp only [hl0_1]); (with_reducible repeat (first | apply Kd.R_alloc | apply Kd.R_drewN | apply Kd.R_drew)); exact HO_0.out⟩, ⟨by repeat (first | (with_reducible first | exact HK.out | apply Kept.alloc | apply Kept.drewN | apply Kept.drew) | exact HK.out)⟩, ⟨by repeat (first | (with_reducible first | exact HB.out | apply zA | apply zB | apply zC) | exact HB.out)⟩⟩
        case round =>
         clear H'
         try clear c5; try clear c5b0; try clear c6; try clear c6b0; try clear c7; try clear c7b0; try clear c8; try clear c8b0; try clear p9; try clear q9; try clear p10; try clear q10; try clear hx101_0; try clear hx102_0; try clear hx10_0; try clear hx9_0; try clear p10; try clear p101; try clear p102; try clear p9; try clear q10; try clear q101; try clear q102; try clear q9
         obtain ⟨x9_2, rfl, HA, HK2, HO_0, HK, HB⟩ := hrel
         cases gk with
         | zero => exact absurd HA.out (by simp [qspeou6.l1])
         | succ k2 =>
          have H := HA.out
          clear HA
          simp only [qspeou6.l1] at H
          by_cases c16 : x9_2 ≤ x10_1
          ·rw [if_pos c16] at H
           have c16b0 : decide (x9_2 ≤ x10_1) = true := decide_eq_true c16
           clear c16
           (first | rw [c16b0] | (simp only [i64_w, i32_w]; rw [c16b0]) | skip)
           by_cases c17 : 0 ≤ a1
           ·rw [if_pos c17] at H
            have c17b0 : decide (0 ≤ a1) = true := decide_eq_true c17
            clear c17
            by_cases c18 : a1 < (x0_1.length : Int)
            ·rw [if_pos c18] at H
             have c18b0 : decide (a1 < (x0_1.length : Int)) = true := decide_eq_true c18
             clear c18
             by_cases c19 : 0 ≤ x9_2
             ·rw [if_pos c19] at H
              have c19b0 : decide (0 ≤ x9_2) = true := decide_eq_true c19
              clear c19
              by_cases c20 : x9_2 < (x0_1.length : Int)
              ·rw [if_pos c20] at H
               have c20b0 : decide (x9_2 < (x0_1.length : Int)) = true := decide_eq_true c20
               clear c20
               replace H := Option.bind_eq_some_iff.mp H
               obtain ⟨t107, A210, H⟩ := H
               replace H : (if t107 = true then (qspeou6.j2 k2 x0_1 a1 x9_2 x10_1) else (qspeou6.l1 k2 x0_1 a1 (wrap64 (x9_2 + 1)) x10_1)) = some (r1, r2) := H
               have A21 := Zs.mk A210
               clear A210
               by_cases c22 : t107 = true
               ·subst c22
                have H1 : (qspeou6.j2 k2 x0_1 a1 x9_2 x10_1) = some (r1, r2) := by rw [if_pos rfl] at H; exact H
                clear H
                have H := H1
                clear H1
                have H' := Zs.mk H
                clear H
                try go_wp2
                have n0_ := Zs.mk (Kd.R_drew HO_0.out)
                have n1_ := Zs.mk (Kept.drew HK.out)
                have n2_ := Zs.mk (zC HB.out)
                clear HO_0
                clear HK
                clear HB
                have HO_0 := n0_
                have HK := n1_
                have HB := n2_
                clear n0_ n1_ n2_
                have p105 : 0 ≤ (a1 : Int) := of_decide_eq_true (by first | (with_reducible assumption) | assumption)
                have q105 : a1 < (x0_1.length : Int) := of_decide_eq_true (by first | (with_reducible assumption) | assumption)
                obtain ⟨ad105, e105, hx105_0⟩ := Kd.at_int (Kd.R_reads' HO_0.out).2.2 a1 p105 q105
                obtain rfl : (⟨go9, 0, none⟩ : Addr) = ad105 := (by injection e105)
                (first | simp only [add_plain] at hx105_0 | simp only [add_at] at hx105_0 | simp only [Addr.add, Nat.zero_add] at hx105_0 | skip)
                replace p105 := eq_true p105
                replace q105 := eq_true q105
                have p106 : 0 ≤ (x9_2 : Int) := of_decide_eq_true (by first | (with_reducible assumption) | assumption)
                have q106 : x9_2 < (x0_1.length : Int) := of_decide_eq_true (by first | (with_reducible assumption) | assumption)
                obtain ⟨ad106, e106, hx106_0⟩ := Kd.at_int (Kd.R_reads' HO_0.out).2.2 x9_2 p106 q106
                obtain rfl : (⟨go9, 0, none⟩ : Addr) = ad106 := (by injection e106)
                (first | simp only [add_plain] at hx106_0 | simp only [add_at] at hx106_0 | simp only [Addr.add, Nat.zero_add] at hx106_0 | skip)
                replace p106 := eq_true p106
                replace q106 := eq_true q106
                refine start_ (n := 15) (S := fun w' => w'.cell? ⟨go9, (a1).toNat, none⟩ = some (.int .u64 (rd x0_1 a1)) ∧ w'.cell? ⟨go9, (x9_2).toNat, none⟩ = some (.int .u64 (rd x0_1 x9_2))) (ds := []) (ba 15 0) (by kernel_rfl) rfl rfl ⟨hx105_0, hx106_0⟩ (fun hHeld => ?_); refine zT qspeou6.tab3 qspeou6.bits3 (fun HT_ HW_ => ?_)
                generalize wr.drew = w23 at HO_0 HK HB hx105_0 hx106_0 hHeld ⊢
                refine' pu 0 (some 29) (ba 15 1) HT_ rfl rfl (by kernel_rfl) (fun _ _ _ => id) ?_ ?_ ?_ <| pu 1 (some 30) (ba 15 3) HT_ rfl rfl (by kernel_rfl) (fun _ _ _ => id) ?_ ?_ ?_ <| pu 2 (some 31) (ba 15 7) HT_ rfl rfl (by kernel_rfl) (fun _ _ _ => id) ?_ ?_ ?_ <| pu 3 (some 32) (ba 15 15) HT_ rfl rfl (by kernel_rfl) (fun _ _ _ => id) ?_ ?_ ?_ <| pu 4 (some 33) (ba 15 31) HT_ rfl rfl (by kernel_rfl) (fun _ _ _ => id) ?_ ?_ ?_ <| pu 5 (some 34) (ba 15 63) HT_ rfl rfl (by kernel_rfl) (fun _ _ _ => id) ?_ ?_ ?_ <| pu 6 (some 35) (ba 15 127) HT_ rfl rfl (by kernel_rfl) (fun _ _ _ => id) ?_ ?_ ?_ <| pu 8 (some 37) (ba 15 383) HT_ rfl rfl (by kernel_rfl) (fun _ _ _ => id) ?_ ?_ ?_ <| pu 9 (some 38) (ba 15 895) HT_ rfl rfl (by kernel_rfl) (fun _ _ _ => id) ?_ ?_ ?_ <| pu 10 (some 39) (ba 15 1919) HT_ rfl rfl (by kernel_rfl) (fun _ _ _ => id) ?_ ?_ ?_ <| ta 7 (some 36) (ba 15 2047) HT_ HW_ rfl rfl (by kernel_rfl) (fun _ _ _ => id) ?_ ?_ hHeld ?_ <| ta 11 (some 40) (ba 15 4095) HT_ HW_ rfl rfl (by kernel_rfl) (fun _ _ _ => id) ?_ ?_ hHeld ?_ <| ?_
                any_goals (first | (show Region.wanted _ _ = _; rfl) | (rintro w' ⟨s0, s1⟩; go_simp; with_reducible rfl) | (intro w'; go_simp; with_reducible rfl) | (simp only [Act.put, List.setIfInBounds_toArray, List.set_cons_zero, List.set_cons_succ, i64_w, i32_w]; rfl))
                refine one_ (i := 12) (N := some 41) (ba 15 8191) rfl rfl (one_of HT_.out (by kernel_rfl)) (by decide) (fun K hK => ?_)
                refine goes_ Tryd.func95 (by kernel_rfl) rfl #[.int .u64 (rd x0_1 a1), .int .u64 (rd x0_1 x9_2)] (by rfl) rfl rfl (by (try simp only [List.map_toArray, List.map_cons, List.map_nil]); first | done | rfl | (simp only [List.length_drop, List.length_take]; rfl)) ?_
                with_reducible refine (qclu6.calls (rd x0_1 a1) (rd x0_1 x9_2) true _ A21.out).mono ?_
                rintro e w' ⟨rfl, ⟨nd, rfl⟩⟩
                refine ⟨_, rfl, ?_⟩
                refine hK.out _ _ ⟨hHeld.1, hHeld.2⟩ (fun hHeld => ?_)
                clear hK K
                refine norm_ (a' := ?_) ?_ ?_
                rotate_left
                ·show Act.put _ (some 41) _ = _
                 simp only [Act.put, List.setIfInBounds_toArray, List.set_cons_zero, List.set_cons_succ, i64_w, i32_w]
                 rfl
                refine' pu 13 (some 42) (ba 15 16383) HT_ rfl rfl (by kernel_rfl) (fun _ _ _ => id) ?_ ?_ ?_ <| pu 14 (some 43) (ba 15 32767) HT_ rfl rfl (by kernel_rfl) (fun _ _ _ => id) ?_ ?_ ?_ <| ?_
                any_goals (first | (show Region.wanted _ _ = _; rfl) | (intro w'; go_simp; with_reducible rfl) | (simp only [Act.put, List.setIfInBounds_toArray, List.set_cons_zero, List.set_cons_succ, i64_w, i32_w]; rfl))
                refine done_ (done_of HT_.out (by kernel_rfl)) ?_
                try go_wp2
                go_meet
                case rel => exact ⟨_, (x9_2), (by first | rfl | (simp; done) | (simp [*]; done)), H', ⟨by have := HK1.out; have := HK2.out; first | omega | exact Nat.le_refl _⟩, ⟨by (try simp only [hl0_1]); (with_reducible repeat (first | apply Kd.R_alloc | apply Kd.R_drewN | apply Kd.R_drew)); exact HO_0.out⟩, ⟨by repeat (first | (with_reducible first | exact HK.out | apply Kept.alloc | apply Kept.drewN | apply Kept.drew) | exact HK.out)⟩, ⟨by repeat (first | (with_reducible first | exact HB.out | apply zA | apply zB | apply zC) | exact HB.out)⟩⟩
               ·replace c22 := Bool.eq_false_iff.mpr c22
                subst c22
                have H1 : (qspeou6.l1 k2 x0_1 a1 (wrap64 (x9_2 + 1)) x10_1) = some (r1, r2) := by rw [if_neg (show ¬ (false = true) by decide)] at H; exact H
                clear H
                have H := H1
                clear H1
                have H' := Zs.mk H
                clear H
                try go_wp2
                have n0_ := Zs.mk (Kd.R_drew HO_0.out)
                have n1_ := Zs.mk (Kept.drew HK.out)
                have n2_ := Zs.mk (zC HB.out)
                clear HO_0
                clear HK
                clear HB
                have HO_0 := n0_
                have HK := n1_
                have HB := n2_
                clear n0_ n1_ n2_
                have p105 : 0 ≤ (a1 : Int) := of_decide_eq_true (by first | (with_reducible assumption) | assumption)
                have q105 : a1 < (x0_1.length : Int) := of_decide_eq_true (by first | (with_reducible assumption) | assumption)
                obtain ⟨ad105, e105, hx105_0⟩ := Kd.at_int (Kd.R_reads' HO_0.out).2.2 a1 p105 q105
                obtain rfl : (⟨go9, 0, none⟩ : Addr) = ad105 := (by injection e105)
                (first | simp only [add_plain] at hx105_0 | simp only [add_at] at hx105_0 | simp only [Addr.add, Nat.zero_add] at hx105_0 | skip)
                replace p105 := eq_true p105
                replace q105 := eq_true q105
                have p106 : 0 ≤ (x9_2 : Int) := of_decide_eq_true (by first | (with_reducible assumption) | assumption)
                have q106 : x9_2 < (x0_1.length : Int) := of_decide_eq_true (by first | (with_reducible assumption) | assumption)
                obtain ⟨ad106, e106, hx106_0⟩ := Kd.at_int (Kd.R_reads' HO_0.out).2.2 x9_2 p106 q106
                obtain rfl : (⟨go9, 0, none⟩ : Addr) = ad106 := (by injection e106)
                (first | simp only [add_plain] at hx106_0 | simp only [add_at] at hx106_0 | simp only [Addr.add, Nat.zero_add] at hx106_0 | skip)
                replace p106 := eq_true p106
                replace q106 := eq_true q106
                refine start_ (n := 15) (S := fun w' => w'.cell? ⟨go9, (a1).toNat, none⟩ = some (.int .u64 (rd x0_1 a1)) ∧ w'.cell? ⟨go9, (x9_2).toNat, none⟩ = some (.int .u64 (rd x0_1 x9_2))) (ds := []) (ba 15 0) (by kernel_rfl) rfl rfl ⟨hx105_0, hx106_0⟩ (fun hHeld => ?_); refine zT qspeou6.tab3 qspeou6.bits3 (fun HT_ HW_ => ?_)
                generalize wr.drew = w24 at HO_0 HK HB hx105_0 hx106_0 hHeld ⊢
                refine' pu 0 (some 29) (ba 15 1) HT_ rfl rfl (by kernel_rfl) (fun _ _ _ => id) ?_ ?_ ?_ <| pu 1 (some 30) (ba 15 3) HT_ rfl rfl (by kernel_rfl) (fun _ _ _ => id) ?_ ?_ ?_ <| pu 2 (some 31) (ba 15 7) HT_ rfl rfl (by kernel_rfl) (fun _ _ _ => id) ?_ ?_ ?_ <| pu 3 (some 32) (ba 15 15) HT_ rfl rfl (by kernel_rfl) (fun _ _ _ => id) ?_ ?_ ?_ <| pu 4 (some 33) (ba 15 31) HT_ rfl rfl (by kernel_rfl) (fun _ _ _ => id) ?_ ?_ ?_ <| pu 5 (some 34) (ba 15 63) HT_ rfl rfl (by kernel_rfl) (fun _ _ _ => id) ?_ ?_ ?_ <| pu 6 (some 35) (ba 15 127) HT_ rfl rfl (by kernel_rfl) (fun _ _ _ => id) ?_ ?_ ?_ <| pu 8 (some 37) (ba 15 383) HT_ rfl rfl (by kernel_rfl) (fun _ _ _ => id) ?_ ?_ ?_ <| pu 9 (some 38) (ba 15 895) HT_ rfl rfl (by kernel_rfl) (fun _ _ _ => id) ?_ ?_ ?_ <| pu 10 (some 39) (ba 15 1919) HT_ rfl rfl (by kernel_rfl) (fun _ _ _ => id) ?_ ?_ ?_ <| ta 7 (some 36) (ba 15 2047) HT_ HW_ rfl rfl (by kernel_rfl) (fun _ _ _ => id) ?_ ?_ hHeld ?_ <| ta 11 (some 40) (ba 15 4095) HT_ HW_ rfl rfl (by kernel_rfl) (fun _ _ _ => id) ?_ ?_ hHeld ?_ <| ?_
                any_goals (first | (show Region.wanted _ _ = _; rfl) | (rintro w' ⟨s0, s1⟩; go_simp; with_reducible rfl) | (intro w'; go_simp; with_reducible rfl) | (simp only [Act.put, List.setIfInBounds_toArray, List.set_cons_zero, List.set_cons_succ, i64_w, i32_w]; rfl))
                refine one_ (i := 12) (N := some 41) (ba 15 8191) rfl rfl (one_of HT_.out (by kernel_rfl)) (by decide) (fun K hK => ?_)
                refine goes_ Tryd.func95 (by kernel_rfl) rfl #[.int .u64 (rd x0_1 a1), .int .u64 (rd x0_1 x9_2)] (by rfl) rfl rfl (by (try simp only [List.map_toArray, List.map_cons, List.map_nil]); first | done | rfl | (simp only [List.length_drop, List.length_take]; rfl)) ?_
                with_reducible refine (qclu6.calls (rd x0_1 a1) (rd x0_1 x9_2) false _ A21.out).mono ?_
                rintro e w' ⟨rfl, ⟨nd, rfl⟩⟩
                refine ⟨_, rfl, ?_⟩
                refine hK.out _ _ ⟨hHeld.1, hHeld.2⟩ (fun hHeld => ?_)
                clear hK K
                refine norm_ (a' := ?_) ?_ ?_
                rotate_left
                ·show Act.put _ (some 41) _ = _
                 simp only [Act.put, List.setIfInBounds_toArray, List.set_cons_zero, List.set_cons_succ, i64_w, i32_w]
                 rfl
                refine' pu 13 (some 42) (ba 15 16383) HT_ rfl rfl (by kernel_rfl) (fun _ _ _ => id) ?_ ?_ ?_ <| pu 14 (some 43) (ba 15 32767) HT_ rfl rfl (by kernel_rfl) (fun _ _ _ => id) ?_ ?_ ?_ <| ?_
                any_goals (first | (show Region.wanted _ _ = _; rfl) | (intro w'; go_simp; with_reducible rfl) | (simp only [Act.put, List.setIfInBounds_toArray, List.set_cons_zero, List.set_cons_succ, i64_w, i32_w]; rfl))
                refine done_ (done_of HT_.out (by kernel_rfl)) ?_
                try go_wp2
                go_roundg k2
                case measure => have := HK1.out; have := HK2.out; omega
                case rel => exact ⟨(wrap64 (x9_2 + 1)), (by first | rfl | (simp; done) | (simp [*]; done)), H', ⟨by have := HK1.out; have := HK2.out; omega⟩, ⟨by (try simp only [hl0_1]); (with_reducible repeat (first | apply Kd.R_alloc | apply Kd.R_drewN | apply Kd.R_drew)); exact HO_0.out⟩, ⟨by repeat (first | (with_reducible first | exact HK.out | apply Kept.alloc | apply Kept.drewN | apply Kept.drew) | exact HK.out)⟩, ⟨by repeat (first | (with_reducible first | exact HB.out | apply zA | apply zB | apply zC) | exact HB.out)⟩⟩
              ·rw [if_neg c20] at H
               exact absurd H (by simp)
             ·rw [if_neg c19] at H
              exact absurd H (by simp)
            ·rw [if_neg c18] at H
             exact absurd H (by simp)
           ·rw [if_neg c17] at H
            exact absurd H (by simp)
          ·rw [if_neg c16] at H
           have c16b0 : decide (x9_2 ≤ x10_1) = false := decide_eq_false c16
           clear c16
           (first | rw [c16b0] | (simp only [i64_w, i32_w]; rw [c16b0]) | skip)
           have H' := Zs.mk H
           clear H
           try go_wp2
           have n0_ := Zs.mk (Kd.R_drew HO_0.out)
           have n1_ := Zs.mk (Kept.drew HK.out)
           have n2_ := Zs.mk (zC HB.out)
           clear HO_0
           clear HK
           clear HB
           have HO_0 := n0_
           have HK := n1_
           have HB := n2_
           clear n0_ n1_ n2_
           refine start_ (n := 15) (S := fun w' => True) (ds := []) (ba 15 0) (by kernel_rfl) rfl rfl trivial (fun hHeld => ?_); refine zT qspeou6.tab3 qspeou6.bits3 (fun HT_ HW_ => ?_)
           generalize wr.drew = w25 at HO_0 HK HB hHeld ⊢
           refine' pu 0 (some 29) (ba 15 1) HT_ rfl rfl (by kernel_rfl) (fun _ _ _ => id) ?_ ?_ ?_ <| pu 1 (some 30) (ba 15 3) HT_ rfl rfl (by kernel_rfl) (fun _ _ _ => id) ?_ ?_ ?_ <| pu 2 (some 31) (ba 15 7) HT_ rfl rfl (by kernel_rfl) (fun _ _ _ => id) ?_ ?_ ?_ <| pu 3 (some 32) (ba 15 15) HT_ rfl rfl (by kernel_rfl) (fun _ _ _ => id) ?_ ?_ ?_ <| un 4 (some 33) (ba 15 31) HT_ rfl rfl (by kernel_rfl) (fun _ _ _ => id) ?_ ?_ <| un 5 (some 34) (ba 15 63) HT_ rfl rfl (by kernel_rfl) (fun _ _ _ => id) ?_ ?_ <| un 6 (some 35) (ba 15 127) HT_ rfl rfl (by kernel_rfl) (fun _ _ _ => id) ?_ ?_ <| un 7 (some 36) (ba 15 255) HT_ rfl rfl (by kernel_rfl) (fun _ _ _ => id) ?_ ?_ <| un 8 (some 37) (ba 15 511) HT_ rfl rfl (by kernel_rfl) (fun _ _ _ => id) ?_ ?_ <| un 9 (some 38) (ba 15 1023) HT_ rfl rfl (by kernel_rfl) (fun _ _ _ => id) ?_ ?_ <| un 10 (some 39) (ba 15 2047) HT_ rfl rfl (by kernel_rfl) (fun _ _ _ => id) ?_ ?_ <| un 11 (some 40) (ba 15 4095) HT_ rfl rfl (by kernel_rfl) (fun _ _ _ => id) ?_ ?_ <| un 12 (some 41) (ba 15 8191) HT_ rfl rfl (by kernel_rfl) (fun _ _ _ => id) ?_ ?_ <| un 13 (some 42) (ba 15 16383) HT_ rfl rfl (by kernel_rfl) (fun _ _ _ => id) ?_ ?_ <| pu 14 (some 43) (ba 15 32767) HT_ rfl rfl (by kernel_rfl) (fun _ _ _ => id) ?_ ?_ ?_ <| ?_
           any_goals (first | (show Region.wanted _ _ = _; rfl) | (intro w'; go_simp; with_reducible rfl) | (simp only [Act.put, List.setIfInBounds_toArray, List.set_cons_zero, List.set_cons_succ, i64_w, i32_w]; rfl))
           refine done_ (done_of HT_.out (by kernel_rfl)) ?_
           try go_wp2
           go_meet
           case rel => exact ⟨_, (x9_2), (by first | rfl | (simp; done) | (simp [*]; done)), H', ⟨by have := HK1.out; have := HK2.out; first | omega | exact Nat.le_refl _⟩, ⟨by (try simp only [hl0_1]); (with_reducible repeat (first | apply Kd.R_alloc | apply Kd.R_drewN | apply Kd.R_drew)); exact HO_0.out⟩, ⟨by repeat (first | (with_reducible first | exact HK.out | apply Kept.alloc | apply Kept.drewN | apply Kept.drew) | exact HK.out)⟩, ⟨by repeat (first | (with_reducible first | exact HB.out | apply zA | apply zB | apply zC) | exact HB.out)⟩⟩
       case rest =>
        clear HC15
        try clear c5; try clear c5b0; try clear c6; try clear c6b0; try clear c7; try clear c7b0; try clear c8; try clear c8b0; try clear p9; try clear q9; try clear p10; try clear q10; try clear c16; try clear c16b0; try clear c17; try clear c17b0; try clear c18; try clear c18b0; try clear c19; try clear c19b0; try clear c20; try clear c20b0; try clear c22; try clear hx101_0; try clear hx102_0; try clear hx105_0; try clear hx106_0; try clear hx10_0; try clear hx9_0; try clear p10; try clear p101; try clear p102; try clear p105; try clear p106; try clear p9; try clear q10; try clear q101; try clear q102; try clear q105; try clear q106; try clear q9
        obtain ⟨kq, x9_14, rfl, HA, HJ14, HO_0, HK, HB⟩ := hcut
        cases kq with
        | zero => exact absurd HA.out (by simp [qspeou6.j2])
        | succ kj14 =>
         have H := HA.out
         clear HA
         simp only [qspeou6.j2] at H
         have H' := Zs.mk H
         clear H
         go_wp2
         go_loopg [10] kj14 (fun kq v10 w' => ∃ (x10_3 : Int), v10 = .int .i64 x10_3 ∧ Zs (qspeou6.l2 kq x0_1 a1 x9_14 x10_3 = some (r1, r2)) ∧ Zs (kq ≤ kj14) ∧ Zs (Kd.R (Kd.int .u64) 33 w' w0.heap.size (fun k_ => (P0_ k_ ∨ w.heap.size ≤ k_)) (.slice (some ⟨go9, 0, none⟩) x0_1.length co12) x0_1) ∧ Zs (Kept w w' (fun k_ => P0_ k_)) ∧ Zs (Below w0.heap.size w0 w'))
         case atStart => exact ⟨(x10_1), (by first | rfl | (simp; done) | (simp [*]; done)), H', ⟨Nat.le_refl _⟩, ⟨by (try simp only [hl0_1]); (with_reducible repeat (first | apply Kd.R_alloc | apply Kd.R_drewN | apply Kd.R_drew)); exact HO_0.out⟩, ⟨by repeat (first | (with_reducible first | exact HK.out | apply Kept.alloc | apply Kept.drewN | apply Kept.drew) | exact HK.out)⟩, ⟨by repeat (first | (with_reducible first | exact HB.out | apply zA | apply zB | apply zC) | exact HB.out)⟩⟩
         case round =>
          clear H'
          try clear c5; try clear c5b0; try clear c6; try clear c6b0; try clear c7; try clear c7b0; try clear c8; try clear c8b0; try clear p9; try clear q9; try clear p10; try clear q10; try clear c16; try clear c16b0; try clear c17; try clear c17b0; try clear c18; try clear c18b0; try clear c19; try clear c19b0; try clear c20; try clear c20b0; try clear c22; try clear hx101_0; try clear hx102_0; try clear hx105_0; try clear hx106_0; try clear hx10_0; try clear hx9_0; try clear p10; try clear p101; try clear p102; try clear p105; try clear p106; try clear p9; try clear q10; try clear q101; try clear q102; try clear q105; try clear q106; try clear q9
          obtain ⟨x10_3, rfl, HA, HK3, HO_0, HK, HB⟩ := hrel
          cases gk with
          | zero => exact absurd HA.out (by simp [qspeou6.l2])
          | succ k3 =>
           have H := HA.out
           clear HA
           simp only [qspeou6.l2] at H
           by_cases c26 : x9_14 ≤ x10_3
           ·rw [if_pos c26] at H
            have c26b0 : decide (x9_14 ≤ x10_3) = true := decide_eq_true c26
            clear c26
            by_cases c27 : 0 ≤ a1
            ·rw [if_pos c27] at H
             have c27b0 : decide (0 ≤ a1) = true := decide_eq_true c27
             clear c27
             by_cases c28 : a1 < (x0_1.length : Int)
             ·rw [if_pos c28] at H
              have c28b0 : decide (a1 < (x0_1.length : Int)) = true := decide_eq_true c28
              clear c28
              by_cases c29 : 0 ≤ x10_3
              ·rw [if_pos c29] at H
               have c29b0 : decide (0 ≤ x10_3) = true := decide_eq_true c29
               clear c29
               by_cases c30 : x10_3 < (x0_1.length : Int)
               ·rw [if_pos c30] at H
                have c30b0 : decide (x10_3 < (x0_1.length : Int)) = true := decide_eq_true c30
                clear c30
                replace H := Option.bind_eq_some_iff.mp H
                obtain ⟨t110, A310, H⟩ := H
                replace H : (if t110 = true then (qspeou6.l2 k3 x0_1 a1 x9_14 (wrap64 (x10_3 - 1))) else (if x9_14 > x10_3 then (some (x9_14, x0_1)) else (if 0 ≤ x9_14 then (if x9_14 < (x0_1.length : Int) then (qspeou6.l0 k3 ((x0_1.set (x9_14 : Int).toNat (rd x0_1 x10_3)).set (x10_3 : Int).toNat (rd x0_1 x9_14)) a1 (wrap64 (x9_14 + 1)) (wrap64 (x10_3 - 1))) else (none)) else (none)))) = some (r1, r2) := H
                have A31 := Zs.mk A310
                clear A310
                by_cases c32 : t110 = true
                ·subst c32
                 have H1 : (qspeou6.l2 k3 x0_1 a1 x9_14 (wrap64 (x10_3 - 1))) = some (r1, r2) := by rw [if_pos rfl] at H; exact H
                 clear H
                 have H := H1
                 clear H1
                 have H' := Zs.mk H
                 clear H
                 try go_wp2
                 have n0_ := Zs.mk (Kd.R_drew HO_0.out)
                 have n1_ := Zs.mk (Kept.drew HK.out)
                 have n2_ := Zs.mk (zC HB.out)
                 clear HO_0
                 clear HK
                 clear HB
                 have HO_0 := n0_
                 have HK := n1_
                 have HB := n2_
                 clear n0_ n1_ n2_
                 have p108 : 0 ≤ (a1 : Int) := of_decide_eq_true (by first | (with_reducible assumption) | assumption)
                 have q108 : a1 < (x0_1.length : Int) := of_decide_eq_true (by first | (with_reducible assumption) | assumption)
                 obtain ⟨ad108, e108, hx108_0⟩ := Kd.at_int (Kd.R_reads' HO_0.out).2.2 a1 p108 q108
                 obtain rfl : (⟨go9, 0, none⟩ : Addr) = ad108 := (by injection e108)
                 (first | simp only [add_plain] at hx108_0 | simp only [add_at] at hx108_0 | simp only [Addr.add, Nat.zero_add] at hx108_0 | skip)
                 replace p108 := eq_true p108
                 replace q108 := eq_true q108
                 have p109 : 0 ≤ (x10_3 : Int) := of_decide_eq_true (by first | (with_reducible assumption) | assumption)
                 have q109 : x10_3 < (x0_1.length : Int) := of_decide_eq_true (by first | (with_reducible assumption) | assumption)
                 obtain ⟨ad109, e109, hx109_0⟩ := Kd.at_int (Kd.R_reads' HO_0.out).2.2 x10_3 p109 q109
                 obtain rfl : (⟨go9, 0, none⟩ : Addr) = ad109 := (by injection e109)
                 (first | simp only [add_plain] at hx109_0 | simp only [add_at] at hx109_0 | simp only [Addr.add, Nat.zero_add] at hx109_0 | skip)
                 replace p109 := eq_true p109
                 replace q109 := eq_true q109
                 refine start_ (n := 14) (S := fun w' => w'.cell? ⟨go9, (a1).toNat, none⟩ = some (.int .u64 (rd x0_1 a1)) ∧ w'.cell? ⟨go9, (x10_3).toNat, none⟩ = some (.int .u64 (rd x0_1 x10_3))) (ds := []) (ba 14 0) (by kernel_rfl) rfl rfl ⟨hx108_0, hx109_0⟩ (fun hHeld => ?_); refine zT qspeou6.tab5 qspeou6.bits5 (fun HT_ HW_ => ?_)
                 generalize wr.drew = w33 at HO_0 HK HB hx108_0 hx109_0 hHeld ⊢
                 refine' pu 0 (some 46) (ba 14 1) HT_ rfl rfl (by kernel_rfl) (fun _ _ _ => id) ?_ ?_ ?_ <| pu 1 (some 47) (ba 14 3) HT_ rfl rfl (by kernel_rfl) (fun _ _ _ => id) ?_ ?_ ?_ <| pu 2 (some 48) (ba 14 7) HT_ rfl rfl (by kernel_rfl) (fun _ _ _ => id) ?_ ?_ ?_ <| pu 3 (some 49) (ba 14 15) HT_ rfl rfl (by kernel_rfl) (fun _ _ _ => id) ?_ ?_ ?_ <| pu 4 (some 50) (ba 14 31) HT_ rfl rfl (by kernel_rfl) (fun _ _ _ => id) ?_ ?_ ?_ <| pu 5 (some 51) (ba 14 63) HT_ rfl rfl (by kernel_rfl) (fun _ _ _ => id) ?_ ?_ ?_ <| pu 6 (some 52) (ba 14 127) HT_ rfl rfl (by kernel_rfl) (fun _ _ _ => id) ?_ ?_ ?_ <| pu 8 (some 54) (ba 14 383) HT_ rfl rfl (by kernel_rfl) (fun _ _ _ => id) ?_ ?_ ?_ <| pu 9 (some 55) (ba 14 895) HT_ rfl rfl (by kernel_rfl) (fun _ _ _ => id) ?_ ?_ ?_ <| pu 10 (some 56) (ba 14 1919) HT_ rfl rfl (by kernel_rfl) (fun _ _ _ => id) ?_ ?_ ?_ <| ta 7 (some 53) (ba 14 2047) HT_ HW_ rfl rfl (by kernel_rfl) (fun _ _ _ => id) ?_ ?_ hHeld ?_ <| ta 11 (some 57) (ba 14 4095) HT_ HW_ rfl rfl (by kernel_rfl) (fun _ _ _ => id) ?_ ?_ hHeld ?_ <| ?_
                 any_goals (first | (show Region.wanted _ _ = _; rfl) | (rintro w' ⟨s0, s1⟩; go_simp; with_reducible rfl) | (intro w'; go_simp; with_reducible rfl) | (simp only [Act.put, List.setIfInBounds_toArray, List.set_cons_zero, List.set_cons_succ, i64_w, i32_w]; rfl))
                 refine one_ (i := 12) (N := some 58) (ba 14 8191) rfl rfl (one_of HT_.out (by kernel_rfl)) (by decide) (fun K hK => ?_)
                 refine goes_ Tryd.func95 (by kernel_rfl) rfl #[.int .u64 (rd x0_1 a1), .int .u64 (rd x0_1 x10_3)] (by rfl) rfl rfl (by (try simp only [List.map_toArray, List.map_cons, List.map_nil]); first | done | rfl | (simp only [List.length_drop, List.length_take]; rfl)) ?_
                 with_reducible refine (qclu6.calls (rd x0_1 a1) (rd x0_1 x10_3) true _ A31.out).mono ?_
                 rintro e w' ⟨rfl, ⟨nd, rfl⟩⟩
                 refine ⟨_, rfl, ?_⟩
                 refine hK.out _ _ ⟨hHeld.1, hHeld.2⟩ (fun hHeld => ?_)
                 clear hK K
                 refine norm_ (a' := ?_) ?_ ?_
                 rotate_left
                 ·show Act.put _ (some 58) _ = _
                  simp only [Act.put, List.setIfInBounds_toArray, List.set_cons_zero, List.set_cons_succ, i64_w, i32_w]
                  rfl
                 refine' pu 13 (some 59) (ba 14 16383) HT_ rfl rfl (by kernel_rfl) (fun _ _ _ => id) ?_ ?_ ?_ <| ?_
                 any_goals (first | (show Region.wanted _ _ = _; rfl) | (intro w'; go_simp; with_reducible rfl) | (simp only [Act.put, List.setIfInBounds_toArray, List.set_cons_zero, List.set_cons_succ, i64_w, i32_w]; rfl))
                 refine done_ (done_of HT_.out (by kernel_rfl)) ?_
                 try go_wp2
                 go_roundg k3
                 case measure => have := HK1.out; have := HJ14.out; have := HK3.out; omega
                 case rel => exact ⟨(wrap64 (x10_3 - 1)), (by first | rfl | (simp; done) | (simp [*]; done)), H', ⟨by have := HK1.out; have := HJ14.out; have := HK3.out; omega⟩, ⟨by (try simp only [hl0_1]); (with_reducible repeat (first | apply Kd.R_alloc | apply Kd.R_drewN | apply Kd.R_drew)); exact HO_0.out⟩, ⟨by repeat (first | (with_reducible first | exact HK.out | apply Kept.alloc | apply Kept.drewN | apply Kept.drew) | exact HK.out)⟩, ⟨by repeat (first | (with_reducible first | exact HB.out | apply zA | apply zB | apply zC) | exact HB.out)⟩⟩
                ·replace c32 := Bool.eq_false_iff.mpr c32
                 subst c32
                 have H1 : (if x9_14 > x10_3 then (some (x9_14, x0_1)) else (if 0 ≤ x9_14 then (if x9_14 < (x0_1.length : Int) then (qspeou6.l0 k3 ((x0_1.set (x9_14 : Int).toNat (rd x0_1 x10_3)).set (x10_3 : Int).toNat (rd x0_1 x9_14)) a1 (wrap64 (x9_14 + 1)) (wrap64 (x10_3 - 1))) else (none)) else (none))) = some (r1, r2) := by rw [if_neg (show ¬ (false = true) by decide)] at H; exact H
                 clear H
                 have H := H1
                 clear H1
                 by_cases c34 : x9_14 > x10_3
                 ·rw [if_pos c34] at H
                  have c34b0 : decide (x10_3 < x9_14) = true := decide_eq_true c34
                  clear c34
                  simp only [Option.some.injEq, Prod.mk.injEq] at H
                  obtain ⟨rfl, rfl⟩ := H
                  try go_wp2
                  have n0_ := Zs.mk (Kd.R_drew HO_0.out)
                  have n1_ := Zs.mk (Kept.drew HK.out)
                  have n2_ := Zs.mk (zC HB.out)
                  clear HO_0
                  clear HK
                  clear HB
                  have HO_0 := n0_
                  have HK := n1_
                  have HB := n2_
                  clear n0_ n1_ n2_
                  have p108 : 0 ≤ (a1 : Int) := of_decide_eq_true (by first | (with_reducible assumption) | assumption)
                  have q108 : a1 < (x0_1.length : Int) := of_decide_eq_true (by first | (with_reducible assumption) | assumption)
                  obtain ⟨ad108, e108, hx108_0⟩ := Kd.at_int (Kd.R_reads' HO_0.out).2.2 a1 p108 q108
                  obtain rfl : (⟨go9, 0, none⟩ : Addr) = ad108 := (by injection e108)
                  (first | simp only [add_plain] at hx108_0 | simp only [add_at] at hx108_0 | simp only [Addr.add, Nat.zero_add] at hx108_0 | skip)
                  replace p108 := eq_true p108
                  replace q108 := eq_true q108
                  have p109 : 0 ≤ (x10_3 : Int) := of_decide_eq_true (by first | (with_reducible assumption) | assumption)
                  have q109 : x10_3 < (x0_1.length : Int) := of_decide_eq_true (by first | (with_reducible assumption) | assumption)
                  obtain ⟨ad109, e109, hx109_0⟩ := Kd.at_int (Kd.R_reads' HO_0.out).2.2 x10_3 p109 q109
                  obtain rfl : (⟨go9, 0, none⟩ : Addr) = ad109 := (by injection e109)
                  (first | simp only [add_plain] at hx109_0 | simp only [add_at] at hx109_0 | simp only [Addr.add, Nat.zero_add] at hx109_0 | skip)
                  replace p109 := eq_true p109
                  replace q109 := eq_true q109
                  refine start_ (n := 14) (S := fun w' => w'.cell? ⟨go9, (a1).toNat, none⟩ = some (.int .u64 (rd x0_1 a1)) ∧ w'.cell? ⟨go9, (x10_3).toNat, none⟩ = some (.int .u64 (rd x0_1 x10_3))) (ds := []) (ba 14 0) (by kernel_rfl) rfl rfl ⟨hx108_0, hx109_0⟩ (fun hHeld => ?_); refine zT qspeou6.tab5 qspeou6.bits5 (fun HT_ HW_ => ?_)
                  generalize wr.drew = w35 at HO_0 HK HB hx108_0 hx109_0 hHeld ⊢
                  refine' pu 0 (some 46) (ba 14 1) HT_ rfl rfl (by kernel_rfl) (fun _ _ _ => id) ?_ ?_ ?_ <| pu 1 (some 47) (ba 14 3) HT_ rfl rfl (by kernel_rfl) (fun _ _ _ => id) ?_ ?_ ?_ <| pu 2 (some 48) (ba 14 7) HT_ rfl rfl (by kernel_rfl) (fun _ _ _ => id) ?_ ?_ ?_ <| pu 3 (some 49) (ba 14 15) HT_ rfl rfl (by kernel_rfl) (fun _ _ _ => id) ?_ ?_ ?_ <| pu 4 (some 50) (ba 14 31) HT_ rfl rfl (by kernel_rfl) (fun _ _ _ => id) ?_ ?_ ?_ <| pu 5 (some 51) (ba 14 63) HT_ rfl rfl (by kernel_rfl) (fun _ _ _ => id) ?_ ?_ ?_ <| pu 6 (some 52) (ba 14 127) HT_ rfl rfl (by kernel_rfl) (fun _ _ _ => id) ?_ ?_ ?_ <| pu 8 (some 54) (ba 14 383) HT_ rfl rfl (by kernel_rfl) (fun _ _ _ => id) ?_ ?_ ?_ <| pu 9 (some 55) (ba 14 895) HT_ rfl rfl (by kernel_rfl) (fun _ _ _ => id) ?_ ?_ ?_ <| pu 10 (some 56) (ba 14 1919) HT_ rfl rfl (by kernel_rfl) (fun _ _ _ => id) ?_ ?_ ?_ <| ta 7 (some 53) (ba 14 2047) HT_ HW_ rfl rfl (by kernel_rfl) (fun _ _ _ => id) ?_ ?_ hHeld ?_ <| ta 11 (some 57) (ba 14 4095) HT_ HW_ rfl rfl (by kernel_rfl) (fun _ _ _ => id) ?_ ?_ hHeld ?_ <| ?_
                  any_goals (first | (show Region.wanted _ _ = _; rfl) | (rintro w' ⟨s0, s1⟩; go_simp; with_reducible rfl) | (intro w'; go_simp; with_reducible rfl) | (simp only [Act.put, List.setIfInBounds_toArray, List.set_cons_zero, List.set_cons_succ, i64_w, i32_w]; rfl))
                  refine one_ (i := 12) (N := some 58) (ba 14 8191) rfl rfl (one_of HT_.out (by kernel_rfl)) (by decide) (fun K hK => ?_)
                  refine goes_ Tryd.func95 (by kernel_rfl) rfl #[.int .u64 (rd x0_1 a1), .int .u64 (rd x0_1 x10_3)] (by rfl) rfl rfl (by (try simp only [List.map_toArray, List.map_cons, List.map_nil]); first | done | rfl | (simp only [List.length_drop, List.length_take]; rfl)) ?_
                  with_reducible refine (qclu6.calls (rd x0_1 a1) (rd x0_1 x10_3) false _ A31.out).mono ?_
                  rintro e w' ⟨rfl, ⟨nd, rfl⟩⟩
                  refine ⟨_, rfl, ?_⟩
                  refine hK.out _ _ ⟨hHeld.1, hHeld.2⟩ (fun hHeld => ?_)
                  clear hK K
                  refine norm_ (a' := ?_) ?_ ?_
                  rotate_left
                  ·show Act.put _ (some 58) _ = _
                   simp only [Act.put, List.setIfInBounds_toArray, List.set_cons_zero, List.set_cons_succ, i64_w, i32_w]
                   rfl
                  refine' pu 13 (some 59) (ba 14 16383) HT_ rfl rfl (by kernel_rfl) (fun _ _ _ => id) ?_ ?_ ?_ <| ?_
                  any_goals (first | (show Region.wanted _ _ = _; rfl) | (intro w'; go_simp; with_reducible rfl) | (simp only [Act.put, List.setIfInBounds_toArray, List.set_cons_zero, List.set_cons_succ, i64_w, i32_w]; rfl))
                  refine done_ (done_of HT_.out (by kernel_rfl)) ?_
                  try go_wp2
                  go_ret
                  exact ⟨by first | rfl | (simp [zE, zF] <;> rfl) | (simp [*, zE, zF] <;> rfl), (by first | exact (by (with_reducible repeat (first | apply Kd.R_alloc | apply Kd.R_drewN | apply Kd.R_drew)); exact HO_0.out) | (simp only [hl0_1]; exact (by (with_reducible repeat (first | apply Kd.R_alloc | apply Kd.R_drewN | apply Kd.R_drew)); exact HO_0.out))), by repeat (first | (with_reducible first | exact HB.out | apply zA | apply zB | apply zC) | exact HB.out), by repeat (first | (with_reducible first | exact HK.out | apply Kept.alloc | apply Kept.drewN | apply Kept.drew) | exact HK.out)⟩
                 ·rw [if_neg c34] at H
                  have c34b0 : decide (x10_3 < x9_14) = false := decide_eq_false c34
                  clear c34
                  by_cases c36 : 0 ≤ x9_14
                  ·rw [if_pos c36] at H
                   have c36b0 : decide (0 ≤ x9_14) = true := decide_eq_true c36
                   clear c36
                   by_cases c37 : x9_14 < (x0_1.length : Int)
                   ·rw [if_pos c37] at H
                    have c37b0 : decide (x9_14 < (x0_1.length : Int)) = true := decide_eq_true c37
                    clear c37
                    obtain ⟨y113, hy113⟩ : ∃ y_ : List Int, y_ = (x0_1.set (x9_14 : Int).toNat (rd x0_1 x10_3)) := ⟨_, rfl⟩
                    replace H : (qspeou6.l0 k3 (y113.set (x10_3 : Int).toNat (rd x0_1 x9_14)) a1 (wrap64 (x9_14 + 1)) (wrap64 (x10_3 - 1))) = some (r1, r2) := by first | (rw [hy113]; with_reducible exact H) | (have H2_ := (Option.bind_some _ _).symm.trans H; rw [hy113]; with_reducible exact H2_) | (have H2_ := (Option.bind_some _ _).symm.trans H; with_reducible exact H2_) | with_reducible exact H | (rw [hy113]; exact H) | exact H
                    have Ny113 := Zs.mk hy113
                    clear hy113
                    obtain ⟨y114, hy114⟩ : ∃ y_ : List Int, y_ = (y113.set (x10_3 : Int).toNat (rd x0_1 x9_14)) := ⟨_, rfl⟩
                    replace H : (qspeou6.l0 k3 y114 a1 (wrap64 (x9_14 + 1)) (wrap64 (x10_3 - 1))) = some (r1, r2) := by first | (rw [hy114]; with_reducible exact H) | (have H2_ := (Option.bind_some _ _).symm.trans H; rw [hy114]; with_reducible exact H2_) | (have H2_ := (Option.bind_some _ _).symm.trans H; with_reducible exact H2_) | with_reducible exact H | (rw [hy114]; exact H) | exact H
                    have Ny114 := Zs.mk hy114
                    clear hy114
                    have H' := Zs.mk H
                    clear H
                    try go_wp2
                    have n0_ := Zs.mk (Kd.R_drew HO_0.out)
                    have n1_ := Zs.mk (Kept.drew HK.out)
                    have n2_ := Zs.mk (zC HB.out)
                    clear HO_0
                    clear HK
                    clear HB
                    have HO_0 := n0_
                    have HK := n1_
                    have HB := n2_
                    clear n0_ n1_ n2_
                    have p108 : 0 ≤ (a1 : Int) := of_decide_eq_true (by first | (with_reducible assumption) | assumption)
                    have q108 : a1 < (x0_1.length : Int) := of_decide_eq_true (by first | (with_reducible assumption) | assumption)
                    obtain ⟨ad108, e108, hx108_0⟩ := Kd.at_int (Kd.R_reads' HO_0.out).2.2 a1 p108 q108
                    obtain rfl : (⟨go9, 0, none⟩ : Addr) = ad108 := (by injection e108)
                    (first | simp only [add_plain] at hx108_0 | simp only [add_at] at hx108_0 | simp only [Addr.add, Nat.zero_add] at hx108_0 | skip)
                    replace p108 := eq_true p108
                    replace q108 := eq_true q108
                    have p109 : 0 ≤ (x10_3 : Int) := of_decide_eq_true (by first | (with_reducible assumption) | assumption)
                    have q109 : x10_3 < (x0_1.length : Int) := of_decide_eq_true (by first | (with_reducible assumption) | assumption)
                    obtain ⟨ad109, e109, hx109_0⟩ := Kd.at_int (Kd.R_reads' HO_0.out).2.2 x10_3 p109 q109
                    obtain rfl : (⟨go9, 0, none⟩ : Addr) = ad109 := (by injection e109)
                    (first | simp only [add_plain] at hx109_0 | simp only [add_at] at hx109_0 | simp only [Addr.add, Nat.zero_add] at hx109_0 | skip)
                    replace p109 := eq_true p109
                    replace q109 := eq_true q109
                    refine start_ (n := 14) (S := fun w' => w'.cell? ⟨go9, (a1).toNat, none⟩ = some (.int .u64 (rd x0_1 a1)) ∧ w'.cell? ⟨go9, (x10_3).toNat, none⟩ = some (.int .u64 (rd x0_1 x10_3))) (ds := []) (ba 14 0) (by kernel_rfl) rfl rfl ⟨hx108_0, hx109_0⟩ (fun hHeld => ?_); refine zT qspeou6.tab5 qspeou6.bits5 (fun HT_ HW_ => ?_)
                    generalize wr.drew = w40 at HO_0 HK HB hx108_0 hx109_0 hHeld ⊢
                    refine' pu 0 (some 46) (ba 14 1) HT_ rfl rfl (by kernel_rfl) (fun _ _ _ => id) ?_ ?_ ?_ <| pu 1 (some 47) (ba 14 3) HT_ rfl rfl (by kernel_rfl) (fun _ _ _ => id) ?_ ?_ ?_ <| pu 2 (some 48) (ba 14 7) HT_ rfl rfl (by kernel_rfl) (fun _ _ _ => id) ?_ ?_ ?_ <| pu 3 (some 49) (ba 14 15) HT_ rfl rfl (by kernel_rfl) (fun _ _ _ => id) ?_ ?_ ?_ <| pu 4 (some 50) (ba 14 31) HT_ rfl rfl (by kernel_rfl) (fun _ _ _ => id) ?_ ?_ ?_ <| pu 5 (some 51) (ba 14 63) HT_ rfl rfl (by kernel_rfl) (fun _ _ _ => id) ?_ ?_ ?_ <| pu 6 (some 52) (ba 14 127) HT_ rfl rfl (by kernel_rfl) (fun _ _ _ => id) ?_ ?_ ?_ <| pu 8 (some 54) (ba 14 383) HT_ rfl rfl (by kernel_rfl) (fun _ _ _ => id) ?_ ?_ ?_ <| pu 9 (some 55) (ba 14 895) HT_ rfl rfl (by kernel_rfl) (fun _ _ _ => id) ?_ ?_ ?_ <| pu 10 (some 56) (ba 14 1919) HT_ rfl rfl (by kernel_rfl) (fun _ _ _ => id) ?_ ?_ ?_ <| ta 7 (some 53) (ba 14 2047) HT_ HW_ rfl rfl (by kernel_rfl) (fun _ _ _ => id) ?_ ?_ hHeld ?_ <| ta 11 (some 57) (ba 14 4095) HT_ HW_ rfl rfl (by kernel_rfl) (fun _ _ _ => id) ?_ ?_ hHeld ?_ <| ?_
                    any_goals (first | (show Region.wanted _ _ = _; rfl) | (rintro w' ⟨s0, s1⟩; go_simp; with_reducible rfl) | (intro w'; go_simp; with_reducible rfl) | (simp only [Act.put, List.setIfInBounds_toArray, List.set_cons_zero, List.set_cons_succ, i64_w, i32_w]; rfl))
                    refine one_ (i := 12) (N := some 58) (ba 14 8191) rfl rfl (one_of HT_.out (by kernel_rfl)) (by decide) (fun K hK => ?_)
                    refine goes_ Tryd.func95 (by kernel_rfl) rfl #[.int .u64 (rd x0_1 a1), .int .u64 (rd x0_1 x10_3)] (by rfl) rfl rfl (by (try simp only [List.map_toArray, List.map_cons, List.map_nil]); first | done | rfl | (simp only [List.length_drop, List.length_take]; rfl)) ?_
                    with_reducible refine (qclu6.calls (rd x0_1 a1) (rd x0_1 x10_3) false _ A31.out).mono ?_
                    rintro e w' ⟨rfl, ⟨nd, rfl⟩⟩
                    refine ⟨_, rfl, ?_⟩
                    refine hK.out _ _ ⟨hHeld.1, hHeld.2⟩ (fun hHeld => ?_)
                    clear hK K
                    refine norm_ (a' := ?_) ?_ ?_
                    rotate_left
                    ·show Act.put _ (some 58) _ = _
                     simp only [Act.put, List.setIfInBounds_toArray, List.set_cons_zero, List.set_cons_succ, i64_w, i32_w]
                     rfl
                    refine' pu 13 (some 59) (ba 14 16383) HT_ rfl rfl (by kernel_rfl) (fun _ _ _ => id) ?_ ?_ ?_ <| ?_
                    any_goals (first | (show Region.wanted _ _ = _; rfl) | (intro w'; go_simp; with_reducible rfl) | (simp only [Act.put, List.setIfInBounds_toArray, List.set_cons_zero, List.set_cons_succ, i64_w, i32_w]; rfl))
                    refine done_ (done_of HT_.out (by kernel_rfl)) ?_
                    try go_wp2
                    (try (rw [drewN_self w40]; generalize hq_ : World.drewN w40 _ = w40; have n0_ : Zs (Kd.R (Kd.int .u64) 33 w40 w0.heap.size (fun k_ => (P0_ k_ ∨ w.heap.size ≤ k_)) (.slice (some ⟨go9, 0, none⟩) x0_1.length co12) x0_1) := ⟨by rw [← hq_]; exact (by (with_reducible repeat (first | apply Kd.R_alloc | apply Kd.R_drewN | apply Kd.R_drew)); exact HO_0.out)⟩; have n1_ : Zs (Kept w w40 (fun k_ => P0_ k_)) := ⟨by rw [← hq_]; exact (by repeat (first | (with_reducible first | exact HK.out | apply Kept.alloc | apply Kept.drewN | apply Kept.drew) | exact HK.out))⟩; have n2_ : Zs (Below w0.heap.size w0 w40) := ⟨by rw [← hq_]; exact (by repeat (first | (with_reducible first | exact HB.out | apply zA | apply zB | apply zC) | exact HB.out))⟩; clear HO_0 HK HB hq_; have HO_0 := n0_; have HK := n1_; have HB := n2_; clear n0_ n1_ n2_))
                    have n0_ := Zs.mk (Kd.R_drew HO_0.out)
                    have n1_ := Zs.mk (Kept.drew HK.out)
                    have n2_ := Zs.mk (zC HB.out)
                    clear HO_0
                    clear HK
                    clear HB
                    have HO_0 := n0_
                    have HK := n1_
                    have HB := n2_
                    clear n0_ n1_ n2_
                    have p111 : 0 ≤ (x10_3 : Int) := of_decide_eq_true (by first | (with_reducible assumption) | assumption)
                    have q111 : x10_3 < (x0_1.length : Int) := of_decide_eq_true (by first | (with_reducible assumption) | assumption)
                    obtain ⟨ad111, e111, hx111_0⟩ := Kd.at_int (Kd.R_reads' HO_0.out).2.2 x10_3 p111 q111
                    obtain rfl : (⟨go9, 0, none⟩ : Addr) = ad111 := (by injection e111)
                    (first | simp only [add_plain] at hx111_0 | simp only [add_at] at hx111_0 | simp only [Addr.add, Nat.zero_add] at hx111_0 | skip)
                    replace p111 := eq_true p111
                    replace q111 := eq_true q111
                    have p112 : 0 ≤ (x9_14 : Int) := of_decide_eq_true (by first | (with_reducible assumption) | assumption)
                    have q112 : x9_14 < (x0_1.length : Int) := of_decide_eq_true (by first | (with_reducible assumption) | assumption)
                    obtain ⟨ad112, e112, hx112_0⟩ := Kd.at_int (Kd.R_reads' HO_0.out).2.2 x9_14 p112 q112
                    obtain rfl : (⟨go9, 0, none⟩ : Addr) = ad112 := (by injection e112)
                    (first | simp only [add_plain] at hx112_0 | simp only [add_at] at hx112_0 | simp only [Addr.add, Nat.zero_add] at hx112_0 | skip)
                    replace p112 := eq_true p112
                    replace q112 := eq_true q112
                    have p38 : 0 ≤ (x9_14 : Int) := of_decide_eq_true (by first | (with_reducible assumption) | assumption)
                    have q38 : (x9_14 : Int) < ((x0_1.length : Int) : Int) := of_decide_eq_true (by first | (with_reducible assumption) | assumption)
                    obtain ⟨hx38_0, hf38_0⟩ := Kd.R_celln 0 HO_0.out (x9_14 : Int) p38 q38
                    replace p38 := eq_true p38
                    replace q38 := eq_true q38
                    have HP42 := Kd.R_putn HO_0.out (x9_14 : Int) (rd x0_1 x10_3)
                    rw [← Ny113.out] at HP42
                    have HQ42 := Zs.mk HP42
                    clear HP42
                    have p39 : 0 ≤ (x10_3 : Int) := of_decide_eq_true (by first | (with_reducible assumption) | assumption)
                    have q39 : (x10_3 : Int) < ((x0_1.length : Int) : Int) := of_decide_eq_true (by first | (with_reducible assumption) | assumption)
                    obtain ⟨hx39_0, hf39_0⟩ := Kd.R_celln 0 HQ42.out (x10_3 : Int) p39 q39
                    replace p39 := eq_true p39
                    replace q39 := eq_true q39
                    have HP43 := Kd.R_putn HQ42.out (x10_3 : Int) (rd x0_1 x9_14)
                    rw [← Ny114.out] at HP43
                    have HQ43 := Zs.mk HP43
                    clear HP43
                    refine start_ (n := 16) (S := fun w' => w'.cell? ⟨go9, (x10_3).toNat, none⟩ = some (.int .u64 (rd x0_1 x10_3)) ∧ w'.cell? ⟨go9, (x9_14).toNat, none⟩ = some (.int .u64 (rd x0_1 x9_14))) (ds := [13, 15]) (ba 16 0) (by kernel_rfl) rfl rfl ⟨hx111_0, hx112_0⟩ (fun hHeld => ?_); refine zT qspeou6.tab8 qspeou6.bits8 (fun HT_ HW_ => ?_)
                    generalize w40.drew = w41 at HO_0 HK HB HQ42 HQ43 hf38_0 hf39_0 hx111_0 hx112_0 hx38_0 hx39_0 hHeld ⊢
                    refine' pu 0 (some 65) (ba 16 1) HT_ rfl rfl (by kernel_rfl) (fun _ _ _ => id) ?_ ?_ ?_ <| pu 1 (some 66) (ba 16 3) HT_ rfl rfl (by kernel_rfl) (fun _ _ _ => id) ?_ ?_ ?_ <| pu 2 (some 67) (ba 16 7) HT_ rfl rfl (by kernel_rfl) (fun _ _ _ => id) ?_ ?_ ?_ <| pu 3 (some 68) (ba 16 15) HT_ rfl rfl (by kernel_rfl) (fun _ _ _ => id) ?_ ?_ ?_ <| pu 4 (some 69) (ba 16 31) HT_ rfl rfl (by kernel_rfl) (fun _ _ _ => id) ?_ ?_ ?_ <| pu 5 (some 70) (ba 16 63) HT_ rfl rfl (by kernel_rfl) (fun _ _ _ => id) ?_ ?_ ?_ <| pu 6 (some 71) (ba 16 127) HT_ rfl rfl (by kernel_rfl) (fun _ _ _ => id) ?_ ?_ ?_ <| pu 8 (some 73) (ba 16 383) HT_ rfl rfl (by kernel_rfl) (fun _ _ _ => id) ?_ ?_ ?_ <| pu 9 (some 74) (ba 16 895) HT_ rfl rfl (by kernel_rfl) (fun _ _ _ => id) ?_ ?_ ?_ <| pu 10 (some 75) (ba 16 1919) HT_ rfl rfl (by kernel_rfl) (fun _ _ _ => id) ?_ ?_ ?_ <| ta 7 (some 72) (ba 16 2047) HT_ HW_ rfl rfl (by kernel_rfl) (fun _ _ _ => id) ?_ ?_ hHeld ?_ <| ta 11 (some 76) (ba 16 4095) HT_ HW_ rfl rfl (by kernel_rfl) (fun _ _ _ => id) ?_ ?_ hHeld ?_ <| pu 12 (some 77) (ba 16 8191) HT_ rfl rfl (by kernel_rfl) (fun _ _ _ => id) ?_ ?_ ?_ <| ?_
                    any_goals (first | (show Region.wanted _ _ = _; rfl) | (rintro w' ⟨s0, s1⟩; go_simp; with_reducible rfl) | (intro w'; go_simp; with_reducible rfl) | (simp only [Act.put, List.setIfInBounds_toArray, List.set_cons_zero, List.set_cons_succ, i64_w, i32_w]; rfl))
                    refine last_ (i := 13) (N := none) (ba 16 16383) rfl rfl (one_of HT_.out (by kernel_rfl)) (by decide) (fun K hK => ?_)
                    refine skip_ (w1 := ?_) (by rfl) rfl ?_ ?_
                    rotate_left
                    ·go_simp
                     rfl
                    refine hK.out _ _ ?_
                    clear hK K
                    refine' pu 14 (some 78) (ba 16 32767) HT_ rfl rfl (by kernel_rfl) (fun _ _ _ => id) ?_ ?_ ?_ <| ?_
                    any_goals (first | (show Region.wanted _ _ = _; rfl) | (intro w'; go_simp; with_reducible rfl) | (simp only [Act.put, List.setIfInBounds_toArray, List.set_cons_zero, List.set_cons_succ, i64_w, i32_w]; rfl))
                    refine last_ (i := 15) (N := none) (ba 16 65535) rfl rfl (one_of HT_.out (by kernel_rfl)) (by decide) (fun K hK => ?_)
                    refine skip_ (w1 := ?_) (by rfl) rfl ?_ ?_
                    rotate_left
                    ·go_simp
                     rfl
                    refine hK.out _ _ ?_
                    clear hK K
                    refine done_ (done_of HT_.out (by kernel_rfl)) ?_
                    try go_wp2
                    (try simp only [← hl0_1])
                    go_roundg k3
                    case measure => have := HK1.out; have := HJ14.out; have := HK3.out; omega
                    case rel => exact ⟨(y114), (wrap64 (x9_14 + 1)), (wrap64 (x10_3 - 1)), (by first | rfl | (simp; done) | (simp [*]; done)), (by first | rfl | (simp; done) | (simp [*]; done)), H', ⟨by have := HK1.out; have := HJ14.out; have := HK3.out; omega⟩, ⟨by (try simp only [hl0_1]); (with_reducible repeat (first | apply Kd.R_alloc | apply Kd.R_drewN | apply Kd.R_drew)); exact HQ43.out⟩, ⟨by repeat (first | (with_reducible first | exact HK.out | apply Kept.alloc | apply Kept.drewN | apply Kept.drew | refine Kept.setCell ?_ HMgo9.out _ | refine Kept.setCell ?_ HMgo9.out _) | exact HK.out)⟩, ⟨by repeat (first | (with_reducible first | exact HB.out | apply zA | apply zB | apply zC | refine below_set ?_ GB9.out | refine below_set ?_ GB9.out) | exact HB.out)⟩⟩
                   ·rw [if_neg c37] at H
                    exact absurd H (by simp)
                  ·rw [if_neg c36] at H
                   exact absurd H (by simp)
               ·rw [if_neg c30] at H
                exact absurd H (by simp)
              ·rw [if_neg c29] at H
               exact absurd H (by simp)
             ·rw [if_neg c28] at H
              exact absurd H (by simp)
            ·rw [if_neg c27] at H
             exact absurd H (by simp)
           ·rw [if_neg c26] at H
            have c26b0 : decide (x9_14 ≤ x10_3) = false := decide_eq_false c26
            clear c26
            by_cases c44 : x9_14 > x10_3
            ·rw [if_pos c44] at H
             have c44b0 : decide (x10_3 < x9_14) = true := decide_eq_true c44
             clear c44
             simp only [Option.some.injEq, Prod.mk.injEq] at H
             obtain ⟨rfl, rfl⟩ := H
             try go_wp2
             have n0_ := Zs.mk (Kd.R_drew HO_0.out)
             have n1_ := Zs.mk (Kept.drew HK.out)
             have n2_ := Zs.mk (zC HB.out)
             clear HO_0
             clear HK
             clear HB
             have HO_0 := n0_
             have HK := n1_
             have HB := n2_
             clear n0_ n1_ n2_
             refine start_ (n := 14) (S := fun w' => True) (ds := []) (ba 14 0) (by kernel_rfl) rfl rfl trivial (fun hHeld => ?_); refine zT qspeou6.tab5 qspeou6.bits5 (fun HT_ HW_ => ?_)
             generalize wr.drew = w45 at HO_0 HK HB hHeld ⊢
             refine' pu 0 (some 46) (ba 14 1) HT_ rfl rfl (by kernel_rfl) (fun _ _ _ => id) ?_ ?_ ?_ <| pu 1 (some 47) (ba 14 3) HT_ rfl rfl (by kernel_rfl) (fun _ _ _ => id) ?_ ?_ ?_ <| pu 2 (some 48) (ba 14 7) HT_ rfl rfl (by kernel_rfl) (fun _ _ _ => id) ?_ ?_ ?_ <| pu 3 (some 49) (ba 14 15) HT_ rfl rfl (by kernel_rfl) (fun _ _ _ => id) ?_ ?_ ?_ <| un 4 (some 50) (ba 14 31) HT_ rfl rfl (by kernel_rfl) (fun _ _ _ => id) ?_ ?_ <| un 5 (some 51) (ba 14 63) HT_ rfl rfl (by kernel_rfl) (fun _ _ _ => id) ?_ ?_ <| un 6 (some 52) (ba 14 127) HT_ rfl rfl (by kernel_rfl) (fun _ _ _ => id) ?_ ?_ <| un 7 (some 53) (ba 14 255) HT_ rfl rfl (by kernel_rfl) (fun _ _ _ => id) ?_ ?_ <| un 8 (some 54) (ba 14 511) HT_ rfl rfl (by kernel_rfl) (fun _ _ _ => id) ?_ ?_ <| un 9 (some 55) (ba 14 1023) HT_ rfl rfl (by kernel_rfl) (fun _ _ _ => id) ?_ ?_ <| un 10 (some 56) (ba 14 2047) HT_ rfl rfl (by kernel_rfl) (fun _ _ _ => id) ?_ ?_ <| un 11 (some 57) (ba 14 4095) HT_ rfl rfl (by kernel_rfl) (fun _ _ _ => id) ?_ ?_ <| un 12 (some 58) (ba 14 8191) HT_ rfl rfl (by kernel_rfl) (fun _ _ _ => id) ?_ ?_ <| pu 13 (some 59) (ba 14 16383) HT_ rfl rfl (by kernel_rfl) (fun _ _ _ => id) ?_ ?_ ?_ <| ?_
             any_goals (first | (show Region.wanted _ _ = _; rfl) | (intro w'; go_simp; with_reducible rfl) | (simp only [Act.put, List.setIfInBounds_toArray, List.set_cons_zero, List.set_cons_succ, i64_w, i32_w]; rfl))
             refine done_ (done_of HT_.out (by kernel_rfl)) ?_
             try go_wp2
             go_ret
             exact ⟨by first | rfl | (simp [zE, zF] <;> rfl) | (simp [*, zE, zF] <;> rfl), (by first | exact (by (with_reducible repeat (first | apply Kd.R_alloc | apply Kd.R_drewN | apply Kd.R_drew)); exact HO_0.out) | (simp only [hl0_1]; exact (by (with_reducible repeat (first | apply Kd.R_alloc | apply Kd.R_drewN | apply Kd.R_drew)); exact HO_0.out))), by repeat (first | (with_reducible first | exact HB.out | apply zA | apply zB | apply zC) | exact HB.out), by repeat (first | (with_reducible first | exact HK.out | apply Kept.alloc | apply Kept.drewN | apply Kept.drew) | exact HK.out)⟩
            ·rw [if_neg c44] at H
             have c44b0 : decide (x10_3 < x9_14) = false := decide_eq_false c44
             clear c44
             by_cases c46 : 0 ≤ x10_3
             ·rw [if_pos c46] at H
              have c46b0 : decide (0 ≤ x10_3) = true := decide_eq_true c46
              clear c46
              by_cases c47 : x10_3 < (x0_1.length : Int)
              ·rw [if_pos c47] at H
               have c47b0 : decide (x10_3 < (x0_1.length : Int)) = true := decide_eq_true c47
               clear c47
               by_cases c48 : 0 ≤ x9_14
               ·rw [if_pos c48] at H
                have c48b0 : decide (0 ≤ x9_14) = true := decide_eq_true c48
                clear c48
                by_cases c49 : x9_14 < (x0_1.length : Int)
                ·rw [if_pos c49] at H
                 have c49b0 : decide (x9_14 < (x0_1.length : Int)) = true := decide_eq_true c49
                 clear c49
                 obtain ⟨y117, hy117⟩ : ∃ y_ : List Int, y_ = (x0_1.set (x9_14 : Int).toNat (rd x0_1 x10_3)) := ⟨_, rfl⟩
                 replace H : (qspeou6.l0 k3 (y117.set (x10_3 : Int).toNat (rd x0_1 x9_14)) a1 (wrap64 (x9_14 + 1)) (wrap64 (x10_3 - 1))) = some (r1, r2) := by first | (rw [hy117]; with_reducible exact H) | (have H2_ := (Option.bind_some _ _).symm.trans H; rw [hy117]; with_reducible exact H2_) | (have H2_ := (Option.bind_some _ _).symm.trans H; with_reducible exact H2_) | with_reducible exact H | (rw [hy117]; exact H) | exact H
                 have Ny117 := Zs.mk hy117
                 clear hy117
                 obtain ⟨y118, hy118⟩ : ∃ y_ : List Int, y_ = (y117.set (x10_3 : Int).toNat (rd x0_1 x9_14)) := ⟨_, rfl⟩
                 replace H : (qspeou6.l0 k3 y118 a1 (wrap64 (x9_14 + 1)) (wrap64 (x10_3 - 1))) = some (r1, r2) := by first | (rw [hy118]; with_reducible exact H) | (have H2_ := (Option.bind_some _ _).symm.trans H; rw [hy118]; with_reducible exact H2_) | (have H2_ := (Option.bind_some _ _).symm.trans H; with_reducible exact H2_) | with_reducible exact H | (rw [hy118]; exact H) | exact H
                 have Ny118 := Zs.mk hy118
                 clear hy118
                 have H' := Zs.mk H
                 clear H
                 try go_wp2
                 have n0_ := Zs.mk (Kd.R_drew HO_0.out)
                 have n1_ := Zs.mk (Kept.drew HK.out)
                 have n2_ := Zs.mk (zC HB.out)
                 clear HO_0
                 clear HK
                 clear HB
                 have HO_0 := n0_
                 have HK := n1_
                 have HB := n2_
                 clear n0_ n1_ n2_
                 refine start_ (n := 14) (S := fun w' => True) (ds := []) (ba 14 0) (by kernel_rfl) rfl rfl trivial (fun hHeld => ?_); refine zT qspeou6.tab5 qspeou6.bits5 (fun HT_ HW_ => ?_)
                 generalize wr.drew = w52 at HO_0 HK HB hHeld ⊢
                 refine' pu 0 (some 46) (ba 14 1) HT_ rfl rfl (by kernel_rfl) (fun _ _ _ => id) ?_ ?_ ?_ <| pu 1 (some 47) (ba 14 3) HT_ rfl rfl (by kernel_rfl) (fun _ _ _ => id) ?_ ?_ ?_ <| pu 2 (some 48) (ba 14 7) HT_ rfl rfl (by kernel_rfl) (fun _ _ _ => id) ?_ ?_ ?_ <| pu 3 (some 49) (ba 14 15) HT_ rfl rfl (by kernel_rfl) (fun _ _ _ => id) ?_ ?_ ?_ <| un 4 (some 50) (ba 14 31) HT_ rfl rfl (by kernel_rfl) (fun _ _ _ => id) ?_ ?_ <| un 5 (some 51) (ba 14 63) HT_ rfl rfl (by kernel_rfl) (fun _ _ _ => id) ?_ ?_ <| un 6 (some 52) (ba 14 127) HT_ rfl rfl (by kernel_rfl) (fun _ _ _ => id) ?_ ?_ <| un 7 (some 53) (ba 14 255) HT_ rfl rfl (by kernel_rfl) (fun _ _ _ => id) ?_ ?_ <| un 8 (some 54) (ba 14 511) HT_ rfl rfl (by kernel_rfl) (fun _ _ _ => id) ?_ ?_ <| un 9 (some 55) (ba 14 1023) HT_ rfl rfl (by kernel_rfl) (fun _ _ _ => id) ?_ ?_ <| un 10 (some 56) (ba 14 2047) HT_ rfl rfl (by kernel_rfl) (fun _ _ _ => id) ?_ ?_ <| un 11 (some 57) (ba 14 4095) HT_ rfl rfl (by kernel_rfl) (fun _ _ _ => id) ?_ ?_ <| un 12 (some 58) (ba 14 8191) HT_ rfl rfl (by kernel_rfl) (fun _ _ _ => id) ?_ ?_ <| pu 13 (some 59) (ba 14 16383) HT_ rfl rfl (by kernel_rfl) (fun _ _ _ => id) ?_ ?_ ?_ <| ?_
                 any_goals (first | (show Region.wanted _ _ = _; rfl) | (intro w'; go_simp; with_reducible rfl) | (simp only [Act.put, List.setIfInBounds_toArray, List.set_cons_zero, List.set_cons_succ, i64_w, i32_w]; rfl))
                 refine done_ (done_of HT_.out (by kernel_rfl)) ?_
                 try go_wp2
                 have n0_ := Zs.mk (Kd.R_drew HO_0.out)
                 have n1_ := Zs.mk (Kept.drew HK.out)
                 have n2_ := Zs.mk (zC HB.out)
                 clear HO_0
                 clear HK
                 clear HB
                 have HO_0 := n0_
                 have HK := n1_
                 have HB := n2_
                 clear n0_ n1_ n2_
                 have p115 : 0 ≤ (x10_3 : Int) := of_decide_eq_true (by first | (with_reducible assumption) | assumption)
                 have q115 : x10_3 < (x0_1.length : Int) := of_decide_eq_true (by first | (with_reducible assumption) | assumption)
                 obtain ⟨ad115, e115, hx115_0⟩ := Kd.at_int (Kd.R_reads' HO_0.out).2.2 x10_3 p115 q115
                 obtain rfl : (⟨go9, 0, none⟩ : Addr) = ad115 := (by injection e115)
                 (first | simp only [add_plain] at hx115_0 | simp only [add_at] at hx115_0 | simp only [Addr.add, Nat.zero_add] at hx115_0 | skip)
                 replace p115 := eq_true p115
                 replace q115 := eq_true q115
                 have p116 : 0 ≤ (x9_14 : Int) := of_decide_eq_true (by first | (with_reducible assumption) | assumption)
                 have q116 : x9_14 < (x0_1.length : Int) := of_decide_eq_true (by first | (with_reducible assumption) | assumption)
                 obtain ⟨ad116, e116, hx116_0⟩ := Kd.at_int (Kd.R_reads' HO_0.out).2.2 x9_14 p116 q116
                 obtain rfl : (⟨go9, 0, none⟩ : Addr) = ad116 := (by injection e116)
                 (first | simp only [add_plain] at hx116_0 | simp only [add_at] at hx116_0 | simp only [Addr.add, Nat.zero_add] at hx116_0 | skip)
                 replace p116 := eq_true p116
                 replace q116 := eq_true q116
                 have p50 : 0 ≤ (x9_14 : Int) := of_decide_eq_true (by first | (with_reducible assumption) | assumption)
                 have q50 : (x9_14 : Int) < ((x0_1.length : Int) : Int) := of_decide_eq_true (by first | (with_reducible assumption) | assumption)
                 obtain ⟨hx50_0, hf50_0⟩ := Kd.R_celln 0 HO_0.out (x9_14 : Int) p50 q50
                 replace p50 := eq_true p50
                 replace q50 := eq_true q50
                 have HP54 := Kd.R_putn HO_0.out (x9_14 : Int) (rd x0_1 x10_3)
                 rw [← Ny117.out] at HP54
                 have HQ54 := Zs.mk HP54
                 clear HP54
                 have p51 : 0 ≤ (x10_3 : Int) := of_decide_eq_true (by first | (with_reducible assumption) | assumption)
                 have q51 : (x10_3 : Int) < ((x0_1.length : Int) : Int) := of_decide_eq_true (by first | (with_reducible assumption) | assumption)
                 obtain ⟨hx51_0, hf51_0⟩ := Kd.R_celln 0 HQ54.out (x10_3 : Int) p51 q51
                 replace p51 := eq_true p51
                 replace q51 := eq_true q51
                 have HP55 := Kd.R_putn HQ54.out (x10_3 : Int) (rd x0_1 x9_14)
                 rw [← Ny118.out] at HP55
                 have HQ55 := Zs.mk HP55
                 clear HP55
                 refine start_ (n := 16) (S := fun w' => w'.cell? ⟨go9, (x10_3).toNat, none⟩ = some (.int .u64 (rd x0_1 x10_3)) ∧ w'.cell? ⟨go9, (x9_14).toNat, none⟩ = some (.int .u64 (rd x0_1 x9_14))) (ds := [13, 15]) (ba 16 0) (by kernel_rfl) rfl rfl ⟨hx115_0, hx116_0⟩ (fun hHeld => ?_); refine zT qspeou6.tab8 qspeou6.bits8 (fun HT_ HW_ => ?_)
                 generalize w52.drew = w53 at HO_0 HK HB HQ54 HQ55 hf50_0 hf51_0 hx115_0 hx116_0 hx50_0 hx51_0 hHeld ⊢
                 refine' pu 0 (some 65) (ba 16 1) HT_ rfl rfl (by kernel_rfl) (fun _ _ _ => id) ?_ ?_ ?_ <| pu 1 (some 66) (ba 16 3) HT_ rfl rfl (by kernel_rfl) (fun _ _ _ => id) ?_ ?_ ?_ <| pu 2 (some 67) (ba 16 7) HT_ rfl rfl (by kernel_rfl) (fun _ _ _ => id) ?_ ?_ ?_ <| pu 3 (some 68) (ba 16 15) HT_ rfl rfl (by kernel_rfl) (fun _ _ _ => id) ?_ ?_ ?_ <| pu 4 (some 69) (ba 16 31) HT_ rfl rfl (by kernel_rfl) (fun _ _ _ => id) ?_ ?_ ?_ <| pu 5 (some 70) (ba 16 63) HT_ rfl rfl (by kernel_rfl) (fun _ _ _ => id) ?_ ?_ ?_ <| pu 6 (some 71) (ba 16 127) HT_ rfl rfl (by kernel_rfl) (fun _ _ _ => id) ?_ ?_ ?_ <| pu 8 (some 73) (ba 16 383) HT_ rfl rfl (by kernel_rfl) (fun _ _ _ => id) ?_ ?_ ?_ <| pu 9 (some 74) (ba 16 895) HT_ rfl rfl (by kernel_rfl) (fun _ _ _ => id) ?_ ?_ ?_ <| pu 10 (some 75) (ba 16 1919) HT_ rfl rfl (by kernel_rfl) (fun _ _ _ => id) ?_ ?_ ?_ <| ta 7 (some 72) (ba 16 2047) HT_ HW_ rfl rfl (by kernel_rfl) (fun _ _ _ => id) ?_ ?_ hHeld ?_ <| ta 11 (some 76) (ba 16 4095) HT_ HW_ rfl rfl (by kernel_rfl) (fun _ _ _ => id) ?_ ?_ hHeld ?_ <| pu 12 (some 77) (ba 16 8191) HT_ rfl rfl (by kernel_rfl) (fun _ _ _ => id) ?_ ?_ ?_ <| ?_
                 any_goals (first | (show Region.wanted _ _ = _; rfl) | (rintro w' ⟨s0, s1⟩; go_simp; with_reducible rfl) | (intro w'; go_simp; with_reducible rfl) | (simp only [Act.put, List.setIfInBounds_toArray, List.set_cons_zero, List.set_cons_succ, i64_w, i32_w]; rfl))
                 refine last_ (i := 13) (N := none) (ba 16 16383) rfl rfl (one_of HT_.out (by kernel_rfl)) (by decide) (fun K hK => ?_)
                 refine skip_ (w1 := ?_) (by rfl) rfl ?_ ?_
                 rotate_left
                 ·go_simp
                  rfl
                 refine hK.out _ _ ?_
                 clear hK K
                 refine' pu 14 (some 78) (ba 16 32767) HT_ rfl rfl (by kernel_rfl) (fun _ _ _ => id) ?_ ?_ ?_ <| ?_
                 any_goals (first | (show Region.wanted _ _ = _; rfl) | (intro w'; go_simp; with_reducible rfl) | (simp only [Act.put, List.setIfInBounds_toArray, List.set_cons_zero, List.set_cons_succ, i64_w, i32_w]; rfl))
                 refine last_ (i := 15) (N := none) (ba 16 65535) rfl rfl (one_of HT_.out (by kernel_rfl)) (by decide) (fun K hK => ?_)
                 refine skip_ (w1 := ?_) (by rfl) rfl ?_ ?_
                 rotate_left
                 ·go_simp
                  rfl
                 refine hK.out _ _ ?_
                 clear hK K
                 refine done_ (done_of HT_.out (by kernel_rfl)) ?_
                 try go_wp2
                 (try simp only [← hl0_1])
                 go_roundg k3
                 case measure => have := HK1.out; have := HJ14.out; have := HK3.out; omega
                 case rel => exact ⟨(y118), (wrap64 (x9_14 + 1)), (wrap64 (x10_3 - 1)), (by first | rfl | (simp; done) | (simp [*]; done)), (by first | rfl | (simp; done) | (simp [*]; done)), H', ⟨by have := HK1.out; have := HJ14.out; have := HK3.out; omega⟩, ⟨by (try simp only [hl0_1]); (with_reducible repeat (first | apply Kd.R_alloc | apply Kd.R_drewN | apply Kd.R_drew)); exact HQ55.out⟩, ⟨by repeat (first | (with_reducible first | exact HK.out | apply Kept.alloc | apply Kept.drewN | apply Kept.drew | refine Kept.setCell ?_ HMgo9.out _ | refine Kept.setCell ?_ HMgo9.out _) | exact HK.out)⟩, ⟨by repeat (first | (with_reducible first | exact HB.out | apply zA | apply zB | apply zC | refine below_set ?_ GB9.out | refine below_set ?_ GB9.out) | exact HB.out)⟩⟩
                ·rw [if_neg c49] at H
                 exact absurd H (by simp)
               ·rw [if_neg c48] at H
                exact absurd H (by simp)
              ·rw [if_neg c47] at H
               exact absurd H (by simp)
             ·rw [if_neg c46] at H
              exact absurd H (by simp)
    ·rw [if_neg c8] at H
     exact absurd H (by simp)
   ·rw [if_neg c7] at H
    exact absurd H (by simp)
  ·rw [if_neg c6] at H
   exact absurd H (by simp)
 ·rw [if_neg c5] at H
  exact absurd H (by simp)
end Go.Proofs.YtkmbgfhkdopigaaDoor.P
