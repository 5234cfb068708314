/- Texts that the statement's proof leans on, part 6. -/
import Derived.Test.YtkmbgfhkdopigaaDoorTB4
import Derived.Test.YtkmbgfhkdopigaaDoorTB5
namespace Go.Proofs.YtkmbgfhkdopigaaDoor.P
open Go.RowKit Go.Proofs.YtkmbgfhkdopigaaDoorW.PrintWords Go.Proofs.YtkmbgfhkdopigaaDoorW.PrintLast Go.Proofs.YtkmbgfhkdopigaaDoorW.PrintMore
attribute [local go_sem] max2_int min2_int max_two min_two max_three min_three max_four min_four
attribute [local go_sem] Go.Proofs.YtkmbgfhkdopigaaDoor.Fl.store_float Go.Proofs.YtkmbgfhkdopigaaDoor.Fl.call58 Go.Proofs.YtkmbgfhkdopigaaDoor.Fl.call62
set_option linter.unusedVariables false
set_option linter.unusedSimpArgs false
mutual
def qssdou6.l0 : Nat → List Int → Int → Int → Int → Option (List Int)
 | 0, _, _, _, _ => none
 | k + 1, x0, x2, x3, x8 => if (wrap64 ((wrap64 (2 * x8)) + 1)) ≥ x2 then (some x0) else (if (wrap64 ((wrap64 ((wrap64 (2 * x8)) + 1)) + 1)) < x2 then (if 0 ≤ (wrap64 (x3 + (wrap64 ((wrap64 (2 * x8)) + 1)))) then (if (wrap64 (x3 + (wrap64 ((wrap64 (2 * x8)) + 1)))) < (x0.length : Int) then (if 0 ≤ (wrap64 ((wrap64 (x3 + (wrap64 ((wrap64 (2 * x8)) + 1)))) + 1)) then (if (wrap64 ((wrap64 (x3 + (wrap64 ((wrap64 (2 * x8)) + 1)))) + 1)) < (x0.length : Int) then ((qclu6.f (rd x0 (wrap64 (x3 + (wrap64 ((wrap64 (2 * x8)) + 1))))) (rd x0 (wrap64 ((wrap64 (x3 + (wrap64 ((wrap64 (2 * x8)) + 1)))) + 1)))).bind fun t103 => (qssdou6.j1 k x0 x2 x3 x8 (wrap64 ((wrap64 (2 * x8)) + 1)) t103)) else (none)) else (none)) else (none)) else (none)) else (qssdou6.j1 k x0 x2 x3 x8 (wrap64 ((wrap64 (2 * x8)) + 1)) false))
def qssdou6.j1 : Nat → List Int → Int → Int → Int → Int → Bool → Option (List Int)
 | 0, _, _, _, _, _, _ => none
 | k + 1, x0, x2, x3, x8, x9, x36 => if x36 = true then (if 0 ≤ (wrap64 (x3 + x8)) then (if (wrap64 (x3 + x8)) < (x0.length : Int) then (if 0 ≤ (wrap64 (x3 + (wrap64 (x9 + 1)))) then (if (wrap64 (x3 + (wrap64 (x9 + 1)))) < (x0.length : Int) then ((qclu6.f (rd x0 (wrap64 (x3 + x8))) (rd x0 (wrap64 (x3 + (wrap64 (x9 + 1)))))).bind fun t106 => (if t106 = true then (qssdou6.l0 k ((x0.set ((wrap64 (x3 + x8)) : Int).toNat (rd x0 (wrap64 (x3 + (wrap64 (x9 + 1)))))).set ((wrap64 (x3 + (wrap64 (x9 + 1)))) : Int).toNat (rd x0 (wrap64 (x3 + x8)))) x2 x3 (wrap64 (x9 + 1))) else (some x0))) else (none)) else (none)) else (none)) else (none)) else (if 0 ≤ (wrap64 (x3 + x8)) then (if (wrap64 (x3 + x8)) < (x0.length : Int) then (if 0 ≤ (wrap64 (x3 + x9)) then (if (wrap64 (x3 + x9)) < (x0.length : Int) then ((qclu6.f (rd x0 (wrap64 (x3 + x8))) (rd x0 (wrap64 (x3 + x9)))).bind fun t113 => (if t113 = true then (qssdou6.l0 k ((x0.set ((wrap64 (x3 + x8)) : Int).toNat (rd x0 (wrap64 (x3 + x9)))).set ((wrap64 (x3 + x9)) : Int).toNat (rd x0 (wrap64 (x3 + x8)))) x2 x3 x9) else (some x0))) else (none)) else (none)) else (none)) else (none))
end
def qssdou6.f (k : Nat) (l0 : List Int) (a1 : Int) (a2 : Int) (a3 : Int) : Option (List Int) := qssdou6.l0 k l0 a2 a3 a1
def qssdou6.T3 : Bool × List (List Nat × List Nat) := (true, [([], []), ([0], [0]), ([], []), ([1, 2], [1, 2]), ([3], [3]), ([4], [4]), ([4], [4]), ([4], [4]), ([6, 7, 4], [4, 6, 7]), ([5, 8, 4], [4, 5, 8]), ([9, 4], [4, 9]), ([4], [4]), ([4], [4]), ([4], [4]), ([12, 13, 4], [4, 12, 13]), ([14, 4], [4, 14]), ([11, 15, 4], [4, 11, 15]), ([16, 4], [4, 16]), ([10, 17, 4, 4], [4, 10, 17]), ([4, 18], [4, 18])])
def qssdou6.B3 : List Nat := [0, 1, 0, 7, 15, 31, 31, 31, 223, 511, 1023, 31, 31, 31, 12319, 28703, 63519, 129055, 262143, 524287]
theorem qssdou6.tab3 : rtab .any (opsOf Tryd.f126 3) = qssdou6.T3 := by kernel_rfl
theorem qssdou6.bits3 : waitsOk qssdou6.T3.2 qssdou6.B3 = true := by kernel_rfl
def qssdou6.T5 : Bool × List (List Nat × List Nat) := (true, [([], []), ([], []), ([], []), ([1, 2], [1, 2]), ([0, 3], [0, 3]), ([4], [4]), ([], []), ([], []), ([], []), ([7, 8], [7, 8]), ([6, 9], [6, 9]), ([10], [10]), ([5, 11], [5, 11]), ([12], [12])])
def qssdou6.B5 : List Nat := [0, 0, 0, 6, 15, 31, 0, 0, 0, 384, 960, 1984, 4095, 8191]
theorem qssdou6.tab5 : rtab .any (opsOf Tryd.f126 5) = qssdou6.T5 := by kernel_rfl
theorem qssdou6.bits5 : waitsOk qssdou6.T5.2 qssdou6.B5 = true := by kernel_rfl
def qssdou6.T6 : Bool × List (List Nat × List Nat) := (true, [([], []), ([], []), ([], []), ([1, 2], [1, 2]), ([], []), ([], []), ([], []), ([5, 6], [5, 6]), ([], []), ([], []), ([], []), ([9, 10], [9, 10]), ([8, 11], [8, 11]), ([12], [12]), ([], []), ([], []), ([], []), ([15, 16], [15, 16]), ([14, 17], [14, 17]), ([18], [18]), ([0, 3, 0, 1, 2, 3, 8, 9, 10, 11, 12, 13, 19], [0, 3]), ([20, 13, 0, 1, 2, 3, 8, 9, 10, 11, 12, 13, 19], [13, 20]), ([4, 7, 0, 1, 2, 3, 4, 5, 6, 7, 8, 9, 10, 11, 12, 13, 14, 15, 16, 17, 18, 19, 20, 21], [4, 7]), ([22, 19, 21, 0, 1, 2, 3, 4, 5, 6, 7, 8, 9, 10, 11, 12, 13, 14, 15, 16, 17, 18, 19, 20, 21], [19, 22])])
def qssdou6.B6 : List Nat := [0, 0, 0, 6, 0, 0, 0, 96, 0, 0, 0, 1536, 3840, 7936, 0, 0, 0, 98304, 245760, 507904, 1048335, 2096911, 4194303, 8388607]
theorem qssdou6.tab6 : rtab .any (opsOf Tryd.f126 6) = qssdou6.T6 := by kernel_rfl
theorem qssdou6.bits6 : waitsOk qssdou6.T6.2 qssdou6.B6 = true := by kernel_rfl
set_option maxHeartbeats 8000000 in
set_option maxRecDepth 100000 in
theorem qssdou6.calls (k : Nat) (P0_ : Nat → Prop) (u9000_ : Value) (l0 : List Int) (a1 : Int) (a2 : Int) (a3 : Int) (r : List Int) (w0 w : World) (hB : Below w0.heap.size w0 w) (ho0 : Kd.R (Kd.int .u64) 33 w w0.heap.size P0_ u9000_ l0) (h : qssdou6.f k l0 a1 a2 a3 = some r) :
  Calls Tryd.prog 126 #[u9000_, .int .i64 a1, .int .i64 a2, .int .i64 a3] w fun e w' => e = .returned (.tuple #[]) ∧ Kd.R (Kd.int .u64) 33 w' w0.heap.size (fun k_ => (P0_ k_ ∨ w.heap.size ≤ k_)) u9000_ r ∧ Below w0.heap.size w0 w' ∧ Kept w w' (fun k_ => P0_ k_) := by
 have HO0 := Zs.mk (show Kd.R (Kd.int .u64) 33 w w0.heap.size (fun k_ => (P0_ k_ ∨ w.heap.size ≤ k_)) u9000_ l0 from Kd.R_mono ho0 (fun k_ hk => (.inl hk)))
 have HK := Zs.mk (Kept.refl w (fun k_ => P0_ k_))
 have HW0 := Zs.mk hB.size
 have HB := Zs.mk hB
 clear hB
 have H : (qssdou6.l0 k l0 a2 a3 a1) = some r := h
 clear h
 have H' := Zs.mk H
 clear H
 go_enter Tryd.func126, Tryd.ntmps126
 go_wp2
 go_loopg [8] k (fun kq v8 w' => ∃ (x0_1 : List Int) (x8_1 : Int), v8 = .int .i64 x8_1 ∧ Zs (qssdou6.l0 kq x0_1 a2 a3 x8_1 = some r) ∧ Zs (kq ≤ k) ∧ Zs (Kd.R (Kd.int .u64) 33 w' w0.heap.size (fun k_ => (P0_ k_ ∨ w.heap.size ≤ k_)) u9000_ x0_1) ∧ Zs (Kept w w' (fun k_ => P0_ k_)) ∧ Zs (Below w0.heap.size w0 w'))
 case atStart => exact ⟨(l0), (a1), (by first | rfl | (simp; done) | (simp [*]; done)), H', ⟨Nat.le_refl _⟩, ⟨by (with_reducible repeat (first | apply Kd.R_alloc | apply Kd.R_drewN | apply Kd.R_drew)); exact HO0.out⟩, ⟨by repeat (first | (with_reducible first | exact HK.out | apply Kept.alloc | apply Kept.drewN | apply Kept.drew) | exact HK.out)⟩, ⟨by repeat (first | (with_reducible first | exact HB.out | apply zA | apply zB | apply zC) | exact HB.out)⟩⟩
 case round =>
  clear H'
  obtain ⟨x0_1, x8_1, rfl, HA, HK1, HO_0, HK, HB⟩ := hrel
  cases gk with
  | zero => exact absurd HA.out (by simp [qssdou6.l0])
  | succ k1 =>
   have H := HA.out
   clear HA
   simp only [qssdou6.l0] at H
   by_cases c5 : (wrap64 ((wrap64 (2 * x8_1)) + 1)) ≥ a2
   ·rw [if_pos c5] at H
    have c5b0 : decide (a2 ≤ (wrap64 ((wrap64 (2 * x8_1)) + 1))) = true := decide_eq_true c5
    clear c5
    obtain rfl := Option.some.inj H
    go_wp2
    first | go_end0 | ((try simp only [Exit.inBlock, Exit.then]); refine bodyPost_ret (results_none rfl _ _ _) rfl ?_)
    exact ⟨by first | rfl | (simp [zE, zF] <;> rfl) | (simp [*, zE, zF] <;> rfl), by (with_reducible repeat (first | apply Kd.R_alloc | apply Kd.R_drewN | apply Kd.R_drew)); exact HO_0.out, by repeat (first | (with_reducible first | exact HB.out | apply zA | apply zB | apply zC) | exact HB.out), by repeat (first | (with_reducible first | exact HK.out | apply Kept.alloc | apply Kept.drewN | apply Kept.drew) | exact HK.out)⟩
   ·rw [if_neg c5] at H
    have c5b0 : decide (a2 ≤ (wrap64 ((wrap64 (2 * x8_1)) + 1))) = false := decide_eq_false c5
    clear c5
    have HC6 := Zs.mk H
    clear H
    go_upto_region 3 with (fail)
    go_cut [36] (fun v36 wc => ∃ (kq : Nat) (x36_5 : Bool), v36 = .bool x36_5 ∧ Zs (qssdou6.j1 kq x0_1 a2 a3 x8_1 (wrap64 ((wrap64 (2 * x8_1)) + 1)) x36_5 = some r) ∧ Zs (kq ≤ k1) ∧ Zs (Kd.R (Kd.int .u64) 33 wc w0.heap.size (fun k_ => (P0_ k_ ∨ w.heap.size ≤ k_)) u9000_ x0_1) ∧ Zs (Kept w wc (fun k_ => P0_ k_)) ∧ Zs (Below w0.heap.size w0 wc))
    case first =>
     have H := HC6.out
     clear HC6
     by_cases c7 : (wrap64 ((wrap64 ((wrap64 (2 * x8_1)) + 1)) + 1)) < a2
     ·rw [if_pos c7] at H
      have c7b0 : decide ((wrap64 ((wrap64 ((wrap64 (2 * x8_1)) + 1)) + 1)) < a2) = true := decide_eq_true c7
      clear c7
      (first | rw [c7b0] | (simp only [i64_w, i32_w]; rw [c7b0]) | skip)
      obtain ⟨ji8, hji8⟩ : ∃ j_ : Int, (wrap64 (a3 + (wrap64 ((wrap64 (2 * x8_1)) + 1)))) = j_ := ⟨_, rfl⟩
      replace H : (if 0 ≤ (ji8) then (if (ji8) < (x0_1.length : Int) then (if 0 ≤ (wrap64 ((ji8) + 1)) then (if (wrap64 ((ji8) + 1)) < (x0_1.length : Int) then ((qclu6.f (rd x0_1 (ji8)) (rd x0_1 (wrap64 ((ji8) + 1)))).bind fun t103 => (qssdou6.j1 k1 x0_1 a2 a3 x8_1 (wrap64 ((wrap64 (2 * x8_1)) + 1)) t103)) else (none)) else (none)) else (none)) else (none)) = some r := by first | (rw [hji8] at H; exact H) | (simp only [hji8] at H ⊢; exact H)
      have hji8w : (IntKind.i64.wrap (a3 + (wrap64 ((wrap64 (2 * x8_1)) + 1)))) = ji8 := (i64_w _).trans hji8
      by_cases c9 : 0 ≤ (ji8)
      ·rw [if_pos c9] at H
       have c9b0 : decide (0 ≤ (ji8)) = true := decide_eq_true c9
       clear c9
       by_cases c10 : (ji8) < (x0_1.length : Int)
       ·rw [if_pos c10] at H
        have c10b0 : decide ((ji8) < (x0_1.length : Int)) = true := decide_eq_true c10
        clear c10
        obtain ⟨ji11, hji11⟩ : ∃ j_ : Int, (wrap64 ((ji8) + 1)) = j_ := ⟨_, rfl⟩
        replace H : (if 0 ≤ (ji11) then (if (ji11) < (x0_1.length : Int) then ((qclu6.f (rd x0_1 (ji8)) (rd x0_1 (ji11))).bind fun t103 => (qssdou6.j1 k1 x0_1 a2 a3 x8_1 (wrap64 ((wrap64 (2 * x8_1)) + 1)) t103)) else (none)) else (none)) = some r := by first | (rw [hji11] at H; exact H) | (simp only [hji11] at H ⊢; exact H)
        have hji11w : (IntKind.i64.wrap ((ji8) + 1)) = ji11 := (i64_w _).trans hji11
        by_cases c12 : 0 ≤ (ji11)
        ·rw [if_pos c12] at H
         have c12b0 : decide (0 ≤ (ji11)) = true := decide_eq_true c12
         clear c12
         by_cases c13 : (ji11) < (x0_1.length : Int)
         ·rw [if_pos c13] at H
          have c13b0 : decide ((ji11) < (x0_1.length : Int)) = true := decide_eq_true c13
          clear c13
          replace H := Option.bind_eq_some_iff.mp H
          obtain ⟨t103, A140, H⟩ := H
          replace H : (qssdou6.j1 k1 x0_1 a2 a3 x8_1 (wrap64 ((wrap64 (2 * x8_1)) + 1)) t103) = some r := H
          have A14 := Zs.mk A140
          clear A140
          have H' := Zs.mk H
          clear H
          try go_wp2
          have n0_ := Zs.mk (Kd.R_drew HO_0.out)
          have n1_ := Zs.mk (Kept.drew HK.out)
          have n2_ := Zs.mk (zC HB.out)
          clear HO_0
          clear HK
          clear HB
          have HO_0 := n0_
          have HK := n1_
          have HB := n2_
          clear n0_ n1_ n2_
          obtain ⟨Ao16, co16, eo16⟩ := Kd.R_slice HO_0.out
          (first | subst eo16 | (injection eo16 with f1_ f2_ f3_; have f4_ := f1_.symm; have f5_ := f3_.symm; clear f1_ f2_ f3_; subst f4_; subst f5_))
          have p101 : 0 ≤ ((ji8) : Int) := of_decide_eq_true (by first | (with_reducible assumption) | assumption)
          have q101 : (ji8) < (x0_1.length : Int) := of_decide_eq_true (by first | (with_reducible assumption) | assumption)
          obtain ⟨ad101, e101, hx101_0⟩ := Kd.at_int (Kd.R_reads' HO_0.out).2.2 (ji8) p101 q101
          cases e101
          replace p101 := eq_true p101
          replace q101 := eq_true q101
          have p102 : 0 ≤ ((ji11) : Int) := of_decide_eq_true (by first | (with_reducible assumption) | assumption)
          have q102 : (ji11) < (x0_1.length : Int) := of_decide_eq_true (by first | (with_reducible assumption) | assumption)
          obtain ⟨ad102, e102, hx102_0⟩ := Kd.at_int (Kd.R_reads' HO_0.out).2.2 (ji11) p102 q102
          obtain rfl : ad101 = ad102 := (by injection e102)
          replace p102 := eq_true p102
          replace q102 := eq_true q102
          refine start_ (n := 20) (S := fun w' => w'.cell? (ad101.add ((ji8)).toNat) = some (.int .u64 (rd x0_1 (ji8))) ∧ w'.cell? (ad101.add ((ji11)).toNat) = some (.int .u64 (rd x0_1 (ji11)))) (ds := []) (ba 20 0) (by kernel_rfl) rfl rfl ⟨hx101_0, hx102_0⟩ (fun hHeld => ?_); refine zT qssdou6.tab3 qssdou6.bits3 (fun HT_ HW_ => ?_)
          generalize wr.drew = w15 at HO_0 HK HB hx101_0 hx102_0 hHeld ⊢
          refine' pu 0 (some 17) (ba 20 1) HT_ rfl rfl (by kernel_rfl) (fun _ _ _ => id) ?_ ?_ ?_ <| pu 1 (some 18) (ba 20 3) HT_ rfl rfl (by kernel_rfl) (fun _ _ _ => id) ?_ ?_ ?_ <| pu 2 (some 19) (ba 20 7) HT_ rfl rfl (by kernel_rfl) (fun _ _ _ => id) ?_ ?_ ?_ <| pu 3 (some 20) (ba 20 15) HT_ rfl rfl (by kernel_rfl) (fun _ _ _ => id) ?_ ?_ ?_ <| pu 4 (some 21) (ba 20 31) HT_ rfl rfl (by kernel_rfl) (fun _ _ _ => id) ?_ ?_ ?_ <| pu 5 (some 22) (ba 20 63) HT_ rfl rfl (by kernel_rfl) (fun _ _ _ => id) ?_ ?_ ?_ <| pu 6 (some 23) (ba 20 127) HT_ rfl rfl (by kernel_rfl) (fun _ _ _ => id) ?_ ?_ ?_ <| pu 7 (some 24) (ba 20 255) HT_ rfl rfl (by kernel_rfl) (fun _ _ _ => id) ?_ ?_ ?_ <| pu 8 (some 25) (ba 20 511) HT_ rfl rfl (by kernel_rfl) (fun _ _ _ => id) ?_ ?_ ?_ <| pu 9 (some 26) (ba 20 1023) HT_ rfl rfl (by kernel_rfl) (fun _ _ _ => id) ?_ ?_ ?_ <| pu 11 (some 28) (ba 20 3071) HT_ rfl rfl (by kernel_rfl) (fun _ _ _ => id) ?_ ?_ ?_ <| pu 12 (some 29) (ba 20 7167) HT_ rfl rfl (by kernel_rfl) (fun _ _ _ => id) ?_ ?_ ?_ <| pu 13 (some 30) (ba 20 15359) HT_ rfl rfl (by kernel_rfl) (fun _ _ _ => id) ?_ ?_ ?_ <| pu 14 (some 31) (ba 20 31743) HT_ rfl rfl (by kernel_rfl) (fun _ _ _ => id) ?_ ?_ ?_ <| pu 15 (some 32) (ba 20 64511) HT_ rfl rfl (by kernel_rfl) (fun _ _ _ => id) ?_ ?_ ?_ <| pu 16 (some 33) (ba 20 130047) HT_ rfl rfl (by kernel_rfl) (fun _ _ _ => id) ?_ ?_ ?_ <| ta 10 (some 27) (ba 20 131071) HT_ HW_ rfl rfl (by kernel_rfl) (fun _ _ _ => id) ?_ ?_ hHeld ?_ <| ta 17 (some 34) (ba 20 262143) HT_ HW_ rfl rfl (by kernel_rfl) (fun _ _ _ => id) ?_ ?_ hHeld ?_ <| ?_
          any_goals (first | (show Region.wanted _ _ = _; rfl) | (rintro w' ⟨s0, s1⟩; go_simp; with_reducible rfl) | (intro w'; go_simp; with_reducible rfl) | (simp only [Act.put, List.setIfInBounds_toArray, List.set_cons_zero, List.set_cons_succ, i64_w, i32_w]; rfl))
          refine one_ (i := 18) (N := some 35) (ba 20 524287) rfl rfl (one_of HT_.out (by kernel_rfl)) (by decide) (fun K hK => ?_)
          refine goes_ Tryd.func95 (by kernel_rfl) rfl #[.int .u64 (rd x0_1 (ji8)), .int .u64 (rd x0_1 (ji11))] (by rfl) rfl rfl (by (try simp only [List.map_toArray, List.map_cons, List.map_nil]); first | done | (simp only [hji11, hji8]; rfl) | rfl | (simp only [List.length_drop, List.length_take]; rfl)) ?_
          with_reducible refine (qclu6.calls (rd x0_1 (ji8)) (rd x0_1 (ji11)) t103 _ A14.out).mono ?_
          rintro e w' ⟨rfl, ⟨nd, rfl⟩⟩
          refine ⟨_, rfl, ?_⟩
          refine hK.out _ _ ⟨hHeld.1, hHeld.2⟩ (fun hHeld => ?_)
          clear hK K
          refine norm_ (a' := ?_) ?_ ?_
          rotate_left
          ·show Act.put _ (some 35) _ = _
           simp only [Act.put, List.setIfInBounds_toArray, List.set_cons_zero, List.set_cons_succ, i64_w, i32_w]
           rfl
          refine' pu 19 (some 36) (ba 20 1048575) HT_ rfl rfl (by kernel_rfl) (fun _ _ _ => id) ?_ ?_ ?_ <| ?_
          any_goals (first | (show Region.wanted _ _ = _; rfl) | (intro w'; go_simp; with_reducible rfl) | (simp only [Act.put, List.setIfInBounds_toArray, List.set_cons_zero, List.set_cons_succ, i64_w, i32_w]; rfl))
          refine done_ (done_of HT_.out (by kernel_rfl)) ?_
          try go_wp2
          go_meet
          case rel => exact ⟨_, (t103), (by first | rfl | (simp; done) | (simp [*]; done)), H', ⟨by have := HK1.out; first | omega | exact Nat.le_refl _⟩, ⟨by (with_reducible repeat (first | apply Kd.R_alloc | apply Kd.R_drewN | apply Kd.R_drew)); exact HO_0.out⟩, ⟨by repeat (first | (with_reducible first | exact HK.out | apply Kept.alloc | apply Kept.drewN | apply Kept.drew) | exact HK.out)⟩, ⟨by repeat (first | (with_reducible first | exact HB.out | apply zA | apply zB | apply zC) | exact HB.out)⟩⟩
         ·rw [if_neg c13] at H
          exact absurd H (by simp)
        ·rw [if_neg c12] at H
         exact absurd H (by simp)
       ·rw [if_neg c10] at H
        exact absurd H (by simp)
      ·rw [if_neg c9] at H
       exact absurd H (by simp)
     ·rw [if_neg c7] at H
      have c7b0 : decide ((wrap64 ((wrap64 ((wrap64 (2 * x8_1)) + 1)) + 1)) < a2) = false := decide_eq_false c7
      clear c7
      (first | rw [c7b0] | (simp only [i64_w, i32_w]; rw [c7b0]) | skip)
      have H' := Zs.mk H
      clear H
      try go_wp2
      have n0_ := Zs.mk (Kd.R_drew HO_0.out)
      have n1_ := Zs.mk (Kept.drew HK.out)
      have n2_ := Zs.mk (zC HB.out)
      clear HO_0
      clear HK
      clear HB
      have HO_0 := n0_
      have HK := n1_
      have HB := n2_
      clear n0_ n1_ n2_
      refine start_ (n := 20) (S := fun w' => True) (ds := []) (ba 20 0) (by kernel_rfl) rfl rfl trivial (fun hHeld => ?_); refine zT qssdou6.tab3 qssdou6.bits3 (fun HT_ HW_ => ?_)
      generalize wr.drew = w17 at HO_0 HK HB hHeld ⊢
      refine' pu 0 (some 17) (ba 20 1) HT_ rfl rfl (by kernel_rfl) (fun _ _ _ => id) ?_ ?_ ?_ <| pu 1 (some 18) (ba 20 3) HT_ rfl rfl (by kernel_rfl) (fun _ _ _ => id) ?_ ?_ ?_ <| pu 2 (some 19) (ba 20 7) HT_ rfl rfl (by kernel_rfl) (fun _ _ _ => id) ?_ ?_ ?_ <| pu 3 (some 20) (ba 20 15) HT_ rfl rfl (by kernel_rfl) (fun _ _ _ => id) ?_ ?_ ?_ <| pu 4 (some 21) (ba 20 31) HT_ rfl rfl (by kernel_rfl) (fun _ _ _ => id) ?_ ?_ ?_ <| un 5 (some 22) (ba 20 63) HT_ rfl rfl (by kernel_rfl) (fun _ _ _ => id) ?_ ?_ <| un 6 (some 23) (ba 20 127) HT_ rfl rfl (by kernel_rfl) (fun _ _ _ => id) ?_ ?_ <| un 7 (some 24) (ba 20 255) HT_ rfl rfl (by kernel_rfl) (fun _ _ _ => id) ?_ ?_ <| un 8 (some 25) (ba 20 511) HT_ rfl rfl (by kernel_rfl) (fun _ _ _ => id) ?_ ?_ <| un 9 (some 26) (ba 20 1023) HT_ rfl rfl (by kernel_rfl) (fun _ _ _ => id) ?_ ?_ <| un 10 (some 27) (ba 20 2047) HT_ rfl rfl (by kernel_rfl) (fun _ _ _ => id) ?_ ?_ <| un 11 (some 28) (ba 20 4095) HT_ rfl rfl (by kernel_rfl) (fun _ _ _ => id) ?_ ?_ <| un 12 (some 29) (ba 20 8191) HT_ rfl rfl (by kernel_rfl) (fun _ _ _ => id) ?_ ?_ <| un 13 (some 30) (ba 20 16383) HT_ rfl rfl (by kernel_rfl) (fun _ _ _ => id) ?_ ?_ <| un 14 (some 31) (ba 20 32767) HT_ rfl rfl (by kernel_rfl) (fun _ _ _ => id) ?_ ?_ <| un 15 (some 32) (ba 20 65535) HT_ rfl rfl (by kernel_rfl) (fun _ _ _ => id) ?_ ?_ <| un 16 (some 33) (ba 20 131071) HT_ rfl rfl (by kernel_rfl) (fun _ _ _ => id) ?_ ?_ <| un 17 (some 34) (ba 20 262143) HT_ rfl rfl (by kernel_rfl) (fun _ _ _ => id) ?_ ?_ <| un 18 (some 35) (ba 20 524287) HT_ rfl rfl (by kernel_rfl) (fun _ _ _ => id) ?_ ?_ <| pu 19 (some 36) (ba 20 1048575) HT_ rfl rfl (by kernel_rfl) (fun _ _ _ => id) ?_ ?_ ?_ <| ?_
      any_goals (first | (show Region.wanted _ _ = _; rfl) | (intro w'; go_simp; with_reducible rfl) | (simp only [Act.put, List.setIfInBounds_toArray, List.set_cons_zero, List.set_cons_succ, i64_w, i32_w]; rfl))
      refine done_ (done_of HT_.out (by kernel_rfl)) ?_
      try go_wp2
      go_meet
      case rel => exact ⟨_, (false), (by first | rfl | (simp; done) | (simp [*]; done)), H', ⟨by have := HK1.out; first | omega | exact Nat.le_refl _⟩, ⟨by (with_reducible repeat (first | apply Kd.R_alloc | apply Kd.R_drewN | apply Kd.R_drew)); exact HO_0.out⟩, ⟨by repeat (first | (with_reducible first | exact HK.out | apply Kept.alloc | apply Kept.drewN | apply Kept.drew) | exact HK.out)⟩, ⟨by repeat (first | (with_reducible first | exact HB.out | apply zA | apply zB | apply zC) | exact HB.out)⟩⟩
    case rest =>
     clear HC6
     try clear c5; try clear c5b0; try clear c7; try clear c7b0; try clear c9; try clear c9b0; try clear c10; try clear c10b0; try clear c12; try clear c12b0; try clear c13; try clear c13b0; try clear hx101_0; try clear hx102_0; try clear p101; try clear p102; try clear q101; try clear q102
     obtain ⟨kq, x36_5, rfl, HA, HJ5, HO_0, HK, HB⟩ := hcut
     cases kq with
     | zero => exact absurd HA.out (by simp [qssdou6.j1])
     | succ kj5 =>
      have H := HA.out
      clear HA
      simp only [qssdou6.j1] at H
      by_cases c18 : x36_5 = true
      ·subst c18
       have H1 : (if 0 ≤ (wrap64 (a3 + x8_1)) then (if (wrap64 (a3 + x8_1)) < (x0_1.length : Int) then (if 0 ≤ (wrap64 (a3 + (wrap64 ((wrap64 ((wrap64 (2 * x8_1)) + 1)) + 1)))) then (if (wrap64 (a3 + (wrap64 ((wrap64 ((wrap64 (2 * x8_1)) + 1)) + 1)))) < (x0_1.length : Int) then ((qclu6.f (rd x0_1 (wrap64 (a3 + x8_1))) (rd x0_1 (wrap64 (a3 + (wrap64 ((wrap64 ((wrap64 (2 * x8_1)) + 1)) + 1)))))).bind fun t106 => (if t106 = true then (qssdou6.l0 kj5 ((x0_1.set ((wrap64 (a3 + x8_1)) : Int).toNat (rd x0_1 (wrap64 (a3 + (wrap64 ((wrap64 ((wrap64 (2 * x8_1)) + 1)) + 1)))))).set ((wrap64 (a3 + (wrap64 ((wrap64 ((wrap64 (2 * x8_1)) + 1)) + 1)))) : Int).toNat (rd x0_1 (wrap64 (a3 + x8_1)))) a2 a3 (wrap64 ((wrap64 ((wrap64 (2 * x8_1)) + 1)) + 1))) else (some x0_1))) else (none)) else (none)) else (none)) else (none)) = some r := by rw [if_pos rfl] at H; exact H
       clear H
       have H := H1
       clear H1
       obtain ⟨ji19, hji19⟩ : ∃ j_ : Int, (wrap64 (a3 + x8_1)) = j_ := ⟨_, rfl⟩
       replace H : (if 0 ≤ (ji19) then (if (ji19) < (x0_1.length : Int) then (if 0 ≤ (wrap64 (a3 + (wrap64 ((wrap64 ((wrap64 (2 * x8_1)) + 1)) + 1)))) then (if (wrap64 (a3 + (wrap64 ((wrap64 ((wrap64 (2 * x8_1)) + 1)) + 1)))) < (x0_1.length : Int) then ((qclu6.f (rd x0_1 (ji19)) (rd x0_1 (wrap64 (a3 + (wrap64 ((wrap64 ((wrap64 (2 * x8_1)) + 1)) + 1)))))).bind fun t106 => (if t106 = true then (qssdou6.l0 kj5 ((x0_1.set ((ji19) : Int).toNat (rd x0_1 (wrap64 (a3 + (wrap64 ((wrap64 ((wrap64 (2 * x8_1)) + 1)) + 1)))))).set ((wrap64 (a3 + (wrap64 ((wrap64 ((wrap64 (2 * x8_1)) + 1)) + 1)))) : Int).toNat (rd x0_1 (ji19))) a2 a3 (wrap64 ((wrap64 ((wrap64 (2 * x8_1)) + 1)) + 1))) else (some x0_1))) else (none)) else (none)) else (none)) else (none)) = some r := by first | (rw [hji19] at H; exact H) | (simp only [hji19] at H ⊢; exact H)
       have hji19w : (IntKind.i64.wrap (a3 + x8_1)) = ji19 := (i64_w _).trans hji19
       by_cases c20 : 0 ≤ (ji19)
       ·rw [if_pos c20] at H
        have c20b0 : decide (0 ≤ (ji19)) = true := decide_eq_true c20
        clear c20
        by_cases c21 : (ji19) < (x0_1.length : Int)
        ·rw [if_pos c21] at H
         have c21b0 : decide ((ji19) < (x0_1.length : Int)) = true := decide_eq_true c21
         clear c21
         obtain ⟨ji22, hji22⟩ : ∃ j_ : Int, (wrap64 (a3 + (wrap64 ((wrap64 ((wrap64 (2 * x8_1)) + 1)) + 1)))) = j_ := ⟨_, rfl⟩
         replace H : (if 0 ≤ (ji22) then (if (ji22) < (x0_1.length : Int) then ((qclu6.f (rd x0_1 (ji19)) (rd x0_1 (ji22))).bind fun t106 => (if t106 = true then (qssdou6.l0 kj5 ((x0_1.set ((ji19) : Int).toNat (rd x0_1 (ji22))).set ((ji22) : Int).toNat (rd x0_1 (ji19))) a2 a3 (wrap64 ((wrap64 ((wrap64 (2 * x8_1)) + 1)) + 1))) else (some x0_1))) else (none)) else (none)) = some r := by first | (rw [hji22] at H; exact H) | (simp only [hji22] at H ⊢; exact H)
         have hji22w : (IntKind.i64.wrap (a3 + (wrap64 ((wrap64 ((wrap64 (2 * x8_1)) + 1)) + 1)))) = ji22 := (i64_w _).trans hji22
         by_cases c23 : 0 ≤ (ji22)
         ·rw [if_pos c23] at H
          have c23b0 : decide (0 ≤ (ji22)) = true := decide_eq_true c23
          clear c23
          by_cases c24 : (ji22) < (x0_1.length : Int)
          ·rw [if_pos c24] at H
           have c24b0 : decide ((ji22) < (x0_1.length : Int)) = true := decide_eq_true c24
           clear c24
           replace H := Option.bind_eq_some_iff.mp H
           obtain ⟨t106, A250, H⟩ := H
           replace H : (if t106 = true then (qssdou6.l0 kj5 ((x0_1.set ((ji19) : Int).toNat (rd x0_1 (ji22))).set ((ji22) : Int).toNat (rd x0_1 (ji19))) a2 a3 (wrap64 ((wrap64 ((wrap64 (2 * x8_1)) + 1)) + 1))) else (some x0_1)) = some r := H
           have A25 := Zs.mk A250
           clear A250
           by_cases c26 : t106 = true
           ·subst c26
            have H1 : (qssdou6.l0 kj5 ((x0_1.set ((ji19) : Int).toNat (rd x0_1 (ji22))).set ((ji22) : Int).toNat (rd x0_1 (ji19))) a2 a3 (wrap64 ((wrap64 ((wrap64 (2 * x8_1)) + 1)) + 1))) = some r := by rw [if_pos rfl] at H; exact H
            clear H
            have H := H1
            clear H1
            obtain ⟨y109, hy109⟩ : ∃ y_ : List Int, y_ = (x0_1.set ((ji19) : Int).toNat (rd x0_1 (ji22))) := ⟨_, rfl⟩
            replace H : (qssdou6.l0 kj5 (y109.set ((ji22) : Int).toNat (rd x0_1 (ji19))) a2 a3 (wrap64 ((wrap64 ((wrap64 (2 * x8_1)) + 1)) + 1))) = some r := by first | (rw [hy109]; with_reducible exact H) | (have H2_ := (Option.bind_some _ _).symm.trans H; rw [hy109]; with_reducible exact H2_) | (have H2_ := (Option.bind_some _ _).symm.trans H; with_reducible exact H2_) | with_reducible exact H | (rw [hy109]; exact H) | exact H
            have Ny109 := Zs.mk hy109
            clear hy109
            obtain ⟨y110, hy110⟩ : ∃ y_ : List Int, y_ = (y109.set ((ji22) : Int).toNat (rd x0_1 (ji19))) := ⟨_, rfl⟩
            replace H : (qssdou6.l0 kj5 y110 a2 a3 (wrap64 ((wrap64 ((wrap64 (2 * x8_1)) + 1)) + 1))) = some r := by first | (rw [hy110]; with_reducible exact H) | (have H2_ := (Option.bind_some _ _).symm.trans H; rw [hy110]; with_reducible exact H2_) | (have H2_ := (Option.bind_some _ _).symm.trans H; with_reducible exact H2_) | with_reducible exact H | (rw [hy110]; exact H) | exact H
            have Ny110 := Zs.mk hy110
            clear hy110
            have H' := Zs.mk H
            clear H
            try go_wp2
            have n0_ := Zs.mk (Kd.R_drew HO_0.out)
            have n1_ := Zs.mk (Kept.drew HK.out)
            have n2_ := Zs.mk (zC HB.out)
            clear HO_0
            clear HK
            clear HB
            have HO_0 := n0_
            have HK := n1_
            have HB := n2_
            clear n0_ n1_ n2_
            obtain ⟨Ao30, co30, eo30⟩ := Kd.R_slice HO_0.out
            (first | subst eo30 | (injection eo30 with f1_ f2_ f3_; have f4_ := f1_.symm; have f5_ := f3_.symm; clear f1_ f2_ f3_; subst f4_; subst f5_))
            have p104 : 0 ≤ ((ji19) : Int) := of_decide_eq_true (by first | (with_reducible assumption) | assumption)
            have q104 : (ji19) < (x0_1.length : Int) := of_decide_eq_true (by first | (with_reducible assumption) | assumption)
            obtain ⟨ad104, e104, hx104_0⟩ := Kd.at_int (Kd.R_reads' HO_0.out).2.2 (ji19) p104 q104
            cases e104
            replace p104 := eq_true p104
            replace q104 := eq_true q104
            have p105 : 0 ≤ ((ji22) : Int) := of_decide_eq_true (by first | (with_reducible assumption) | assumption)
            have q105 : (ji22) < (x0_1.length : Int) := of_decide_eq_true (by first | (with_reducible assumption) | assumption)
            obtain ⟨ad105, e105, hx105_0⟩ := Kd.at_int (Kd.R_reads' HO_0.out).2.2 (ji22) p105 q105
            obtain rfl : ad104 = ad105 := (by injection e105)
            replace p105 := eq_true p105
            replace q105 := eq_true q105
            refine start_ (n := 14) (S := fun w' => w'.cell? (ad104.add ((ji19)).toNat) = some (.int .u64 (rd x0_1 (ji19))) ∧ w'.cell? (ad104.add ((ji22)).toNat) = some (.int .u64 (rd x0_1 (ji22)))) (ds := []) (ba 14 0) (by kernel_rfl) rfl rfl ⟨hx104_0, hx105_0⟩ (fun hHeld => ?_); refine zT qssdou6.tab5 qssdou6.bits5 (fun HT_ HW_ => ?_)
            generalize wc.drew = w29 at HO_0 HK HB hx104_0 hx105_0 hHeld ⊢
            refine' pu 0 (some 39) (ba 14 1) HT_ rfl rfl (by kernel_rfl) (fun _ _ _ => id) ?_ ?_ ?_ <| pu 1 (some 40) (ba 14 3) HT_ rfl rfl (by kernel_rfl) (fun _ _ _ => id) ?_ ?_ ?_ <| pu 2 (some 41) (ba 14 7) HT_ rfl rfl (by kernel_rfl) (fun _ _ _ => id) ?_ ?_ ?_ <| pu 3 (some 42) (ba 14 15) HT_ rfl rfl (by kernel_rfl) (fun _ _ _ => id) ?_ ?_ ?_ <| pu 4 (some 43) (ba 14 31) HT_ rfl rfl (by kernel_rfl) (fun _ _ _ => id) ?_ ?_ ?_ <| pu 6 (some 45) (ba 14 95) HT_ rfl rfl (by kernel_rfl) (fun _ _ _ => id) ?_ ?_ ?_ <| pu 7 (some 46) (ba 14 223) HT_ rfl rfl (by kernel_rfl) (fun _ _ _ => id) ?_ ?_ ?_ <| pu 8 (some 47) (ba 14 479) HT_ rfl rfl (by kernel_rfl) (fun _ _ _ => id) ?_ ?_ ?_ <| pu 9 (some 48) (ba 14 991) HT_ rfl rfl (by kernel_rfl) (fun _ _ _ => id) ?_ ?_ ?_ <| pu 10 (some 49) (ba 14 2015) HT_ rfl rfl (by kernel_rfl) (fun _ _ _ => id) ?_ ?_ ?_ <| ta 5 (some 44) (ba 14 2047) HT_ HW_ rfl rfl (by kernel_rfl) (fun _ _ _ => id) ?_ ?_ hHeld ?_ <| ta 11 (some 50) (ba 14 4095) HT_ HW_ rfl rfl (by kernel_rfl) (fun _ _ _ => id) ?_ ?_ hHeld ?_ <| ?_
            any_goals (first | (show Region.wanted _ _ = _; rfl) | (rintro w' ⟨s0, s1⟩; go_simp; with_reducible rfl) | (intro w'; go_simp; with_reducible rfl) | (simp only [Act.put, List.setIfInBounds_toArray, List.set_cons_zero, List.set_cons_succ, i64_w, i32_w]; rfl))
            refine one_ (i := 12) (N := some 51) (ba 14 8191) rfl rfl (one_of HT_.out (by kernel_rfl)) (by decide) (fun K hK => ?_)
            refine goes_ Tryd.func95 (by kernel_rfl) rfl #[.int .u64 (rd x0_1 (ji19)), .int .u64 (rd x0_1 (ji22))] (by rfl) rfl rfl (by (try simp only [List.map_toArray, List.map_cons, List.map_nil]); first | done | (simp only [hji19, hji22]; rfl) | rfl | (simp only [List.length_drop, List.length_take]; rfl)) ?_
            with_reducible refine (qclu6.calls (rd x0_1 (ji19)) (rd x0_1 (ji22)) true _ A25.out).mono ?_
            rintro e w' ⟨rfl, ⟨nd, rfl⟩⟩
            refine ⟨_, rfl, ?_⟩
            refine hK.out _ _ ⟨hHeld.1, hHeld.2⟩ (fun hHeld => ?_)
            clear hK K
            refine norm_ (a' := ?_) ?_ ?_
            rotate_left
            ·show Act.put _ (some 51) _ = _
             simp only [Act.put, List.setIfInBounds_toArray, List.set_cons_zero, List.set_cons_succ, i64_w, i32_w]
             rfl
            refine' pu 13 (some 52) (ba 14 16383) HT_ rfl rfl (by kernel_rfl) (fun _ _ _ => id) ?_ ?_ ?_ <| ?_
            any_goals (first | (show Region.wanted _ _ = _; rfl) | (intro w'; go_simp; with_reducible rfl) | (simp only [Act.put, List.setIfInBounds_toArray, List.set_cons_zero, List.set_cons_succ, i64_w, i32_w]; rfl))
            refine done_ (done_of HT_.out (by kernel_rfl)) ?_
            try go_wp2
            (try (rw [drewN_self w29]; generalize hq_ : World.drewN w29 _ = w29; have n0_ : Zs (Kd.R (Kd.int .u64) 33 w29 w0.heap.size (fun k_ => (P0_ k_ ∨ w.heap.size ≤ k_)) (.slice (some ad104) x0_1.length co30) x0_1) := ⟨by rw [← hq_]; exact (by (with_reducible repeat (first | apply Kd.R_alloc | apply Kd.R_drewN | apply Kd.R_drew)); exact HO_0.out)⟩; have n1_ : Zs (Kept w w29 (fun k_ => P0_ k_)) := ⟨by rw [← hq_]; exact (by repeat (first | (with_reducible first | exact HK.out | apply Kept.alloc | apply Kept.drewN | apply Kept.drew) | exact HK.out))⟩; have n2_ : Zs (Below w0.heap.size w0 w29) := ⟨by rw [← hq_]; exact (by repeat (first | (with_reducible first | exact HB.out | apply zA | apply zB | apply zC) | exact HB.out))⟩; clear HO_0 HK HB hq_; have HO_0 := n0_; have HK := n1_; have HB := n2_; clear n0_ n1_ n2_))
            have n0_ := Zs.mk (Kd.R_drew HO_0.out)
            have n1_ := Zs.mk (Kept.drew HK.out)
            have n2_ := Zs.mk (zC HB.out)
            clear HO_0
            clear HK
            clear HB
            have HO_0 := n0_
            have HK := n1_
            have HB := n2_
            clear n0_ n1_ n2_
            have p107 : 0 ≤ ((ji22) : Int) := of_decide_eq_true (by first | (with_reducible assumption) | assumption)
            have q107 : (ji22) < (x0_1.length : Int) := of_decide_eq_true (by first | (with_reducible assumption) | assumption)
            obtain ⟨ad107, e107, hx107_0⟩ := Kd.at_int (Kd.R_reads' HO_0.out).2.2 (ji22) p107 q107
            obtain rfl : ad104 = ad107 := (by injection e107)
            replace p107 := eq_true p107
            replace q107 := eq_true q107
            have p108 : 0 ≤ ((ji19) : Int) := of_decide_eq_true (by first | (with_reducible assumption) | assumption)
            have q108 : (ji19) < (x0_1.length : Int) := of_decide_eq_true (by first | (with_reducible assumption) | assumption)
            obtain ⟨ad108, e108, hx108_0⟩ := Kd.at_int (Kd.R_reads' HO_0.out).2.2 (ji19) p108 q108
            obtain rfl : ad104 = ad108 := (by injection e108)
            replace p108 := eq_true p108
            replace q108 := eq_true q108
            have p27 : 0 ≤ ((ji19) : Int) := of_decide_eq_true (by first | (with_reducible assumption) | assumption)
            have q27 : ((ji19) : Int) < ((x0_1.length : Int) : Int) := of_decide_eq_true (by first | (with_reducible assumption) | assumption)
            obtain ⟨go27, co27, eo27, gb27, gl27, cl27, HG27⟩ := Kd.R_form HO_0.out (by omega)
            (first | cases eo27 | (injection eo27 with ea_ en_ ec_; (first | subst ea_ | (injection ea_ with ea_; subst ea_)); subst ec_; clear en_))
            have GB27 := Zs.mk gb27
            have GG27 := Zs.mk HG27
            clear gb27 gl27 HG27
            have HMgo27 := Zs.mk (show (P0_ go27 ∨ w.heap.size ≤ go27) from (HO_0.out.1 _ rfl))
            (first | simp only [add_plain] at hx104_0 | skip)
            (first | simp only [add_plain] at hx105_0 | skip)
            (first | simp only [add_plain] at hx107_0 | skip)
            (first | simp only [add_plain] at hx108_0 | skip)
            obtain ⟨hx27_0, hf27_0⟩ := Kd.R_celln 0 HO_0.out ((ji19) : Int) p27 q27
            replace p27 := eq_true p27
            replace q27 := eq_true q27
            have HP32 := Kd.R_putn HO_0.out ((ji19) : Int) (rd x0_1 (ji22))
            rw [← Ny109.out] at HP32
            have HQ32 := Zs.mk HP32
            clear HP32
            have p28 : 0 ≤ ((ji22) : Int) := of_decide_eq_true (by first | (with_reducible assumption) | assumption)
            have q28 : ((ji22) : Int) < ((x0_1.length : Int) : Int) := of_decide_eq_true (by first | (with_reducible assumption) | assumption)
            obtain ⟨hx28_0, hf28_0⟩ := Kd.R_celln 0 HQ32.out ((ji22) : Int) p28 q28
            replace p28 := eq_true p28
            replace q28 := eq_true q28
            have HP33 := Kd.R_putn HQ32.out ((ji22) : Int) (rd x0_1 (ji19))
            rw [← Ny110.out] at HP33
            have HQ33 := Zs.mk HP33
            clear HP33
            refine start_ (n := 24) (S := fun w' => w'.cell? ⟨go27, ((ji22)).toNat, none⟩ = some (.int .u64 (rd x0_1 (ji22))) ∧ w'.cell? ⟨go27, ((ji19)).toNat, none⟩ = some (.int .u64 (rd x0_1 (ji19)))) (ds := [21, 23]) (ba 24 0) (by kernel_rfl) rfl rfl ⟨hx107_0, hx108_0⟩ (fun hHeld => ?_); refine zT qssdou6.tab6 qssdou6.bits6 (fun HT_ HW_ => ?_)
            generalize w29.drew = w31 at HO_0 HK HB GG27 HQ32 HQ33 hf27_0 hf28_0 hx104_0 hx105_0 hx107_0 hx108_0 hx27_0 hx28_0 hHeld ⊢
            refine' pu 0 (some 53) (ba 24 1) HT_ rfl rfl (by kernel_rfl) (fun _ _ _ => id) ?_ ?_ ?_ <| pu 1 (some 54) (ba 24 3) HT_ rfl rfl (by kernel_rfl) (fun _ _ _ => id) ?_ ?_ ?_ <| pu 2 (some 55) (ba 24 7) HT_ rfl rfl (by kernel_rfl) (fun _ _ _ => id) ?_ ?_ ?_ <| pu 3 (some 56) (ba 24 15) HT_ rfl rfl (by kernel_rfl) (fun _ _ _ => id) ?_ ?_ ?_ <| pu 4 (some 57) (ba 24 31) HT_ rfl rfl (by kernel_rfl) (fun _ _ _ => id) ?_ ?_ ?_ <| pu 5 (some 58) (ba 24 63) HT_ rfl rfl (by kernel_rfl) (fun _ _ _ => id) ?_ ?_ ?_ <| pu 6 (some 59) (ba 24 127) HT_ rfl rfl (by kernel_rfl) (fun _ _ _ => id) ?_ ?_ ?_ <| pu 7 (some 60) (ba 24 255) HT_ rfl rfl (by kernel_rfl) (fun _ _ _ => id) ?_ ?_ ?_ <| pu 8 (some 61) (ba 24 511) HT_ rfl rfl (by kernel_rfl) (fun _ _ _ => id) ?_ ?_ ?_ <| pu 9 (some 62) (ba 24 1023) HT_ rfl rfl (by kernel_rfl) (fun _ _ _ => id) ?_ ?_ ?_ <| pu 10 (some 63) (ba 24 2047) HT_ rfl rfl (by kernel_rfl) (fun _ _ _ => id) ?_ ?_ ?_ <| pu 11 (some 64) (ba 24 4095) HT_ rfl rfl (by kernel_rfl) (fun _ _ _ => id) ?_ ?_ ?_ <| pu 12 (some 65) (ba 24 8191) HT_ rfl rfl (by kernel_rfl) (fun _ _ _ => id) ?_ ?_ ?_ <| pu 14 (some 67) (ba 24 24575) HT_ rfl rfl (by kernel_rfl) (fun _ _ _ => id) ?_ ?_ ?_ <| pu 15 (some 68) (ba 24 57343) HT_ rfl rfl (by kernel_rfl) (fun _ _ _ => id) ?_ ?_ ?_ <| pu 16 (some 69) (ba 24 122879) HT_ rfl rfl (by kernel_rfl) (fun _ _ _ => id) ?_ ?_ ?_ <| pu 17 (some 70) (ba 24 253951) HT_ rfl rfl (by kernel_rfl) (fun _ _ _ => id) ?_ ?_ ?_ <| pu 18 (some 71) (ba 24 516095) HT_ rfl rfl (by kernel_rfl) (fun _ _ _ => id) ?_ ?_ ?_ <| ta 13 (some 66) (ba 24 524287) HT_ HW_ rfl rfl (by kernel_rfl) (fun _ _ _ => id) ?_ ?_ hHeld ?_ <| ta 19 (some 72) (ba 24 1048575) HT_ HW_ rfl rfl (by kernel_rfl) (fun _ _ _ => id) ?_ ?_ hHeld ?_ <| pu 20 (some 73) (ba 24 2097151) HT_ rfl rfl (by kernel_rfl) (fun _ _ _ => id) ?_ ?_ ?_ <| ?_
            any_goals (first | (show Region.wanted _ _ = _; rfl) | (rintro w' ⟨s0, s1⟩; go_simp; with_reducible rfl) | (intro w'; go_simp; with_reducible rfl) | (simp only [Act.put, List.setIfInBounds_toArray, List.set_cons_zero, List.set_cons_succ, i64_w, i32_w]; rfl))
            refine last_ (i := 21) (N := none) (ba 24 4194303) rfl rfl (one_of HT_.out (by kernel_rfl)) (by decide) (fun K hK => ?_)
            refine skip_ (w1 := ?_) (by rfl) rfl ?_ ?_
            rotate_left
            ·go_simp
             rfl
            refine hK.out _ _ ?_
            clear hK K
            refine' pu 22 (some 74) (ba 24 8388607) HT_ rfl rfl (by kernel_rfl) (fun _ _ _ => id) ?_ ?_ ?_ <| ?_
            any_goals (first | (show Region.wanted _ _ = _; rfl) | (intro w'; go_simp; with_reducible rfl) | (simp only [Act.put, List.setIfInBounds_toArray, List.set_cons_zero, List.set_cons_succ, i64_w, i32_w]; rfl))
            refine last_ (i := 23) (N := none) (ba 24 16777215) rfl rfl (one_of HT_.out (by kernel_rfl)) (by decide) (fun K hK => ?_)
            refine skip_ (w1 := ?_) (by rfl) rfl ?_ ?_
            rotate_left
            ·go_simp
             rfl
            refine hK.out _ _ ?_
            clear hK K
            refine done_ (done_of HT_.out (by kernel_rfl)) ?_
            try go_wp2
            go_roundg kj5
            case measure => have := HK1.out; have := HJ5.out; omega
            case rel => exact ⟨(y110), (wrap64 ((wrap64 ((wrap64 (2 * x8_1)) + 1)) + 1)), (by first | rfl | (simp; done) | (simp [*]; done)), H', ⟨by have := HK1.out; have := HJ5.out; omega⟩, ⟨by (with_reducible repeat (first | apply Kd.R_alloc | apply Kd.R_drewN | apply Kd.R_drew)); exact HQ33.out⟩, ⟨by repeat (first | (with_reducible first | exact HK.out | apply Kept.alloc | apply Kept.drewN | apply Kept.drew | refine Kept.setCell ?_ HMgo27.out _ | refine Kept.setCell ?_ HMgo27.out _) | exact HK.out)⟩, ⟨by repeat (first | (with_reducible first | exact HB.out | apply zA | apply zB | apply zC | refine below_set ?_ GB27.out | refine below_set ?_ GB27.out) | exact HB.out)⟩⟩
           ·replace c26 := Bool.eq_false_iff.mpr c26
            subst c26
            have H1 : (some x0_1) = some r := by rw [if_neg (show ¬ (false = true) by decide)] at H; exact H
            clear H
            have H := H1
            clear H1
            obtain rfl := Option.some.inj H
            try go_wp2
            have n0_ := Zs.mk (Kd.R_drew HO_0.out)
            have n1_ := Zs.mk (Kept.drew HK.out)
            have n2_ := Zs.mk (zC HB.out)
            clear HO_0
            clear HK
            clear HB
            have HO_0 := n0_
            have HK := n1_
            have HB := n2_
            clear n0_ n1_ n2_
            obtain ⟨Ao35, co35, eo35⟩ := Kd.R_slice HO_0.out
            (first | subst eo35 | (injection eo35 with f1_ f2_ f3_; have f4_ := f1_.symm; have f5_ := f3_.symm; clear f1_ f2_ f3_; subst f4_; subst f5_))
            have p104 : 0 ≤ ((ji19) : Int) := of_decide_eq_true (by first | (with_reducible assumption) | assumption)
            have q104 : (ji19) < (x0_1.length : Int) := of_decide_eq_true (by first | (with_reducible assumption) | assumption)
            obtain ⟨ad104, e104, hx104_0⟩ := Kd.at_int (Kd.R_reads' HO_0.out).2.2 (ji19) p104 q104
            cases e104
            replace p104 := eq_true p104
            replace q104 := eq_true q104
            have p105 : 0 ≤ ((ji22) : Int) := of_decide_eq_true (by first | (with_reducible assumption) | assumption)
            have q105 : (ji22) < (x0_1.length : Int) := of_decide_eq_true (by first | (with_reducible assumption) | assumption)
            obtain ⟨ad105, e105, hx105_0⟩ := Kd.at_int (Kd.R_reads' HO_0.out).2.2 (ji22) p105 q105
            obtain rfl : ad104 = ad105 := (by injection e105)
            replace p105 := eq_true p105
            replace q105 := eq_true q105
            refine start_ (n := 14) (S := fun w' => w'.cell? (ad104.add ((ji19)).toNat) = some (.int .u64 (rd x0_1 (ji19))) ∧ w'.cell? (ad104.add ((ji22)).toNat) = some (.int .u64 (rd x0_1 (ji22)))) (ds := []) (ba 14 0) (by kernel_rfl) rfl rfl ⟨hx104_0, hx105_0⟩ (fun hHeld => ?_); refine zT qssdou6.tab5 qssdou6.bits5 (fun HT_ HW_ => ?_)
            generalize wc.drew = w34 at HO_0 HK HB hx104_0 hx105_0 hHeld ⊢
            refine' pu 0 (some 39) (ba 14 1) HT_ rfl rfl (by kernel_rfl) (fun _ _ _ => id) ?_ ?_ ?_ <| pu 1 (some 40) (ba 14 3) HT_ rfl rfl (by kernel_rfl) (fun _ _ _ => id) ?_ ?_ ?_ <| pu 2 (some 41) (ba 14 7) HT_ rfl rfl (by kernel_rfl) (fun _ _ _ => id) ?_ ?_ ?_ <| pu 3 (some 42) (ba 14 15) HT_ rfl rfl (by kernel_rfl) (fun _ _ _ => id) ?_ ?_ ?_ <| pu 4 (some 43) (ba 14 31) HT_ rfl rfl (by kernel_rfl) (fun _ _ _ => id) ?_ ?_ ?_ <| pu 6 (some 45) (ba 14 95) HT_ rfl rfl (by kernel_rfl) (fun _ _ _ => id) ?_ ?_ ?_ <| pu 7 (some 46) (ba 14 223) HT_ rfl rfl (by kernel_rfl) (fun _ _ _ => id) ?_ ?_ ?_ <| pu 8 (some 47) (ba 14 479) HT_ rfl rfl (by kernel_rfl) (fun _ _ _ => id) ?_ ?_ ?_ <| pu 9 (some 48) (ba 14 991) HT_ rfl rfl (by kernel_rfl) (fun _ _ _ => id) ?_ ?_ ?_ <| pu 10 (some 49) (ba 14 2015) HT_ rfl rfl (by kernel_rfl) (fun _ _ _ => id) ?_ ?_ ?_ <| ta 5 (some 44) (ba 14 2047) HT_ HW_ rfl rfl (by kernel_rfl) (fun _ _ _ => id) ?_ ?_ hHeld ?_ <| ta 11 (some 50) (ba 14 4095) HT_ HW_ rfl rfl (by kernel_rfl) (fun _ _ _ => id) ?_ ?_ hHeld ?_ <| ?_
            any_goals (first | (show Region.wanted _ _ = _; rfl) | (rintro w' ⟨s0, s1⟩; go_simp; with_reducible rfl) | (intro w'; go_simp; with_reducible rfl) | (simp only [Act.put, List.setIfInBounds_toArray, List.set_cons_zero, List.set_cons_succ, i64_w, i32_w]; rfl))
            refine one_ (i := 12) (N := some 51) (ba 14 8191) rfl rfl (one_of HT_.out (by kernel_rfl)) (by decide) (fun K hK => ?_)
            refine goes_ Tryd.func95 (by kernel_rfl) rfl #[.int .u64 (rd x0_1 (ji19)), .int .u64 (rd x0_1 (ji22))] (by rfl) rfl rfl (by (try simp only [List.map_toArray, List.map_cons, List.map_nil]); first | done | (simp only [hji19, hji22]; rfl) | rfl | (simp only [List.length_drop, List.length_take]; rfl)) ?_
            with_reducible refine (qclu6.calls (rd x0_1 (ji19)) (rd x0_1 (ji22)) false _ A25.out).mono ?_
            rintro e w' ⟨rfl, ⟨nd, rfl⟩⟩
            refine ⟨_, rfl, ?_⟩
            refine hK.out _ _ ⟨hHeld.1, hHeld.2⟩ (fun hHeld => ?_)
            clear hK K
            refine norm_ (a' := ?_) ?_ ?_
            rotate_left
            ·show Act.put _ (some 51) _ = _
             simp only [Act.put, List.setIfInBounds_toArray, List.set_cons_zero, List.set_cons_succ, i64_w, i32_w]
             rfl
            refine' pu 13 (some 52) (ba 14 16383) HT_ rfl rfl (by kernel_rfl) (fun _ _ _ => id) ?_ ?_ ?_ <| ?_
            any_goals (first | (show Region.wanted _ _ = _; rfl) | (intro w'; go_simp; with_reducible rfl) | (simp only [Act.put, List.setIfInBounds_toArray, List.set_cons_zero, List.set_cons_succ, i64_w, i32_w]; rfl))
            refine done_ (done_of HT_.out (by kernel_rfl)) ?_
            try go_wp2
            first | go_end0 | ((try simp only [Exit.inBlock, Exit.then]); refine bodyPost_ret (results_none rfl _ _ _) rfl ?_)
            exact ⟨by first | rfl | (simp [zE, zF] <;> rfl) | (simp only [← hji19, ← hji22]; first | rfl | (simp [zE, zF] <;> rfl)) | (simp [*, zE, zF] <;> rfl), by (with_reducible repeat (first | apply Kd.R_alloc | apply Kd.R_drewN | apply Kd.R_drew)); exact HO_0.out, by repeat (first | (with_reducible first | exact HB.out | apply zA | apply zB | apply zC) | exact HB.out), by repeat (first | (with_reducible first | exact HK.out | apply Kept.alloc | apply Kept.drewN | apply Kept.drew) | exact HK.out)⟩
          ·rw [if_neg c24] at H
           exact absurd H (by simp)
         ·rw [if_neg c23] at H
          exact absurd H (by simp)
        ·rw [if_neg c21] at H
         exact absurd H (by simp)
       ·rw [if_neg c20] at H
        exact absurd H (by simp)
      ·replace c18 := Bool.eq_false_iff.mpr c18
       subst c18
       have H1 : (if 0 ≤ (wrap64 (a3 + x8_1)) then (if (wrap64 (a3 + x8_1)) < (x0_1.length : Int) then (if 0 ≤ (wrap64 (a3 + (wrap64 ((wrap64 (2 * x8_1)) + 1)))) then (if (wrap64 (a3 + (wrap64 ((wrap64 (2 * x8_1)) + 1)))) < (x0_1.length : Int) then ((qclu6.f (rd x0_1 (wrap64 (a3 + x8_1))) (rd x0_1 (wrap64 (a3 + (wrap64 ((wrap64 (2 * x8_1)) + 1)))))).bind fun t113 => (if t113 = true then (qssdou6.l0 kj5 ((x0_1.set ((wrap64 (a3 + x8_1)) : Int).toNat (rd x0_1 (wrap64 (a3 + (wrap64 ((wrap64 (2 * x8_1)) + 1)))))).set ((wrap64 (a3 + (wrap64 ((wrap64 (2 * x8_1)) + 1)))) : Int).toNat (rd x0_1 (wrap64 (a3 + x8_1)))) a2 a3 (wrap64 ((wrap64 (2 * x8_1)) + 1))) else (some x0_1))) else (none)) else (none)) else (none)) else (none)) = some r := by rw [if_neg (show ¬ (false = true) by decide)] at H; exact H
       clear H
       have H := H1
       clear H1
       obtain ⟨ji36, hji36⟩ : ∃ j_ : Int, (wrap64 (a3 + x8_1)) = j_ := ⟨_, rfl⟩
       replace H : (if 0 ≤ (ji36) then (if (ji36) < (x0_1.length : Int) then (if 0 ≤ (wrap64 (a3 + (wrap64 ((wrap64 (2 * x8_1)) + 1)))) then (if (wrap64 (a3 + (wrap64 ((wrap64 (2 * x8_1)) + 1)))) < (x0_1.length : Int) then ((qclu6.f (rd x0_1 (ji36)) (rd x0_1 (wrap64 (a3 + (wrap64 ((wrap64 (2 * x8_1)) + 1)))))).bind fun t113 => (if t113 = true then (qssdou6.l0 kj5 ((x0_1.set ((ji36) : Int).toNat (rd x0_1 (wrap64 (a3 + (wrap64 ((wrap64 (2 * x8_1)) + 1)))))).set ((wrap64 (a3 + (wrap64 ((wrap64 (2 * x8_1)) + 1)))) : Int).toNat (rd x0_1 (ji36))) a2 a3 (wrap64 ((wrap64 (2 * x8_1)) + 1))) else (some x0_1))) else (none)) else (none)) else (none)) else (none)) = some r := by first | (rw [hji36] at H; exact H) | (simp only [hji36] at H ⊢; exact H)
       have hji36w : (IntKind.i64.wrap (a3 + x8_1)) = ji36 := (i64_w _).trans hji36
       by_cases c37 : 0 ≤ (ji36)
       ·rw [if_pos c37] at H
        have c37b0 : decide (0 ≤ (ji36)) = true := decide_eq_true c37
        clear c37
        by_cases c38 : (ji36) < (x0_1.length : Int)
        ·rw [if_pos c38] at H
         have c38b0 : decide ((ji36) < (x0_1.length : Int)) = true := decide_eq_true c38
         clear c38
         obtain ⟨ji39, hji39⟩ : ∃ j_ : Int, (wrap64 (a3 + (wrap64 ((wrap64 (2 * x8_1)) + 1)))) = j_ := ⟨_, rfl⟩
         replace H : (if 0 ≤ (ji39) then (if (ji39) < (x0_1.length : Int) then ((qclu6.f (rd x0_1 (ji36)) (rd x0_1 (ji39))).bind fun t113 => (if t113 = true then (qssdou6.l0 kj5 ((x0_1.set ((ji36) : Int).toNat (rd x0_1 (ji39))).set ((ji39) : Int).toNat (rd x0_1 (ji36))) a2 a3 (wrap64 ((wrap64 (2 * x8_1)) + 1))) else (some x0_1))) else (none)) else (none)) = some r := by first | (rw [hji39] at H; exact H) | (simp only [hji39] at H ⊢; exact H)
         have hji39w : (IntKind.i64.wrap (a3 + (wrap64 ((wrap64 (2 * x8_1)) + 1)))) = ji39 := (i64_w _).trans hji39
         by_cases c40 : 0 ≤ (ji39)
         ·rw [if_pos c40] at H
          have c40b0 : decide (0 ≤ (ji39)) = true := decide_eq_true c40
          clear c40
          by_cases c41 : (ji39) < (x0_1.length : Int)
          ·rw [if_pos c41] at H
           have c41b0 : decide ((ji39) < (x0_1.length : Int)) = true := decide_eq_true c41
           clear c41
           replace H := Option.bind_eq_some_iff.mp H
           obtain ⟨t113, A420, H⟩ := H
           replace H : (if t113 = true then (qssdou6.l0 kj5 ((x0_1.set ((ji36) : Int).toNat (rd x0_1 (ji39))).set ((ji39) : Int).toNat (rd x0_1 (ji36))) a2 a3 (wrap64 ((wrap64 (2 * x8_1)) + 1))) else (some x0_1)) = some r := H
           have A42 := Zs.mk A420
           clear A420
           by_cases c43 : t113 = true
           ·subst c43
            have H1 : (qssdou6.l0 kj5 ((x0_1.set ((ji36) : Int).toNat (rd x0_1 (ji39))).set ((ji39) : Int).toNat (rd x0_1 (ji36))) a2 a3 (wrap64 ((wrap64 (2 * x8_1)) + 1))) = some r := by rw [if_pos rfl] at H; exact H
            clear H
            have H := H1
            clear H1
            obtain ⟨y116, hy116⟩ : ∃ y_ : List Int, y_ = (x0_1.set ((ji36) : Int).toNat (rd x0_1 (ji39))) := ⟨_, rfl⟩
            replace H : (qssdou6.l0 kj5 (y116.set ((ji39) : Int).toNat (rd x0_1 (ji36))) a2 a3 (wrap64 ((wrap64 (2 * x8_1)) + 1))) = some r := by first | (rw [hy116]; with_reducible exact H) | (have H2_ := (Option.bind_some _ _).symm.trans H; rw [hy116]; with_reducible exact H2_) | (have H2_ := (Option.bind_some _ _).symm.trans H; with_reducible exact H2_) | with_reducible exact H | (rw [hy116]; exact H) | exact H
            have Ny116 := Zs.mk hy116
            clear hy116
            obtain ⟨y117, hy117⟩ : ∃ y_ : List Int, y_ = (y116.set ((ji39) : Int).toNat (rd x0_1 (ji36))) := ⟨_, rfl⟩
            replace H : (qssdou6.l0 kj5 y117 a2 a3 (wrap64 ((wrap64 (2 * x8_1)) + 1))) = some r := by first | (rw [hy117]; with_reducible exact H) | (have H2_ := (Option.bind_some _ _).symm.trans H; rw [hy117]; with_reducible exact H2_) | (have H2_ := (Option.bind_some _ _).symm.trans H; with_reducible exact H2_) | with_reducible exact H | (rw [hy117]; exact H) | exact H
            have Ny117 := Zs.mk hy117
            clear hy117
            have H' := Zs.mk H
            clear H
            try go_wp2
            have n0_ := Zs.mk (Kd.R_drew HO_0.out)
            have n1_ := Zs.mk (Kept.drew HK.out)
            have n2_ := Zs.mk (zC HB.out)
            clear HO_0
            clear HK
            clear HB
            have HO_0 := n0_
            have HK := n1_
            have HB := n2_
            clear n0_ n1_ n2_
            obtain ⟨Ao47, co47, eo47⟩ := Kd.R_slice HO_0.out
            (first | subst eo47 | (injection eo47 with f1_ f2_ f3_; have f4_ := f1_.symm; have f5_ := f3_.symm; clear f1_ f2_ f3_; subst f4_; subst f5_))
            have p111 : 0 ≤ ((ji36) : Int) := of_decide_eq_true (by first | (with_reducible assumption) | assumption)
            have q111 : (ji36) < (x0_1.length : Int) := of_decide_eq_true (by first | (with_reducible assumption) | assumption)
            obtain ⟨ad111, e111, hx111_0⟩ := Kd.at_int (Kd.R_reads' HO_0.out).2.2 (ji36) p111 q111
            cases e111
            replace p111 := eq_true p111
            replace q111 := eq_true q111
            have p112 : 0 ≤ ((ji39) : Int) := of_decide_eq_true (by first | (with_reducible assumption) | assumption)
            have q112 : (ji39) < (x0_1.length : Int) := of_decide_eq_true (by first | (with_reducible assumption) | assumption)
            obtain ⟨ad112, e112, hx112_0⟩ := Kd.at_int (Kd.R_reads' HO_0.out).2.2 (ji39) p112 q112
            obtain rfl : ad111 = ad112 := (by injection e112)
            replace p112 := eq_true p112
            replace q112 := eq_true q112
            refine start_ (n := 14) (S := fun w' => w'.cell? (ad111.add ((ji36)).toNat) = some (.int .u64 (rd x0_1 (ji36))) ∧ w'.cell? (ad111.add ((ji39)).toNat) = some (.int .u64 (rd x0_1 (ji39)))) (ds := []) (ba 14 0) (by kernel_rfl) rfl rfl ⟨hx111_0, hx112_0⟩ (fun hHeld => ?_); refine zT qssdou6.tab5 qssdou6.bits5 (fun HT_ HW_ => ?_)
            generalize wc.drew = w46 at HO_0 HK HB hx111_0 hx112_0 hHeld ⊢
            refine' pu 0 (some 39) (ba 14 1) HT_ rfl rfl (by kernel_rfl) (fun _ _ _ => id) ?_ ?_ ?_ <| pu 1 (some 40) (ba 14 3) HT_ rfl rfl (by kernel_rfl) (fun _ _ _ => id) ?_ ?_ ?_ <| pu 2 (some 41) (ba 14 7) HT_ rfl rfl (by kernel_rfl) (fun _ _ _ => id) ?_ ?_ ?_ <| pu 3 (some 42) (ba 14 15) HT_ rfl rfl (by kernel_rfl) (fun _ _ _ => id) ?_ ?_ ?_ <| pu 4 (some 43) (ba 14 31) HT_ rfl rfl (by kernel_rfl) (fun _ _ _ => id) ?_ ?_ ?_ <| pu 6 (some 45) (ba 14 95) HT_ rfl rfl (by kernel_rfl) (fun _ _ _ => id) ?_ ?_ ?_ <| pu 7 (some 46) (ba 14 223) HT_ rfl rfl (by kernel_rfl) (fun _ _ _ => id) ?_ ?_ ?_ <| pu 8 (some 47) (ba 14 479) HT_ rfl rfl (by kernel_rfl) (fun _ _ _ => id) ?_ ?_ ?_ <| pu 9 (some 48) (ba 14 991) HT_ rfl rfl (by kernel_rfl) (fun _ _ _ => id) ?_ ?_ ?_ <| pu 10 (some 49) (ba 14 2015) HT_ rfl rfl (by kernel_rfl) (fun _ _ _ => id) ?_ ?_ ?_ <| ta 5 (some 44) (ba 14 2047) HT_ HW_ rfl rfl (by kernel_rfl) (fun _ _ _ => id) ?_ ?_ hHeld ?_ <| ta 11 (some 50) (ba 14 4095) HT_ HW_ rfl rfl (by kernel_rfl) (fun _ _ _ => id) ?_ ?_ hHeld ?_ <| ?_
            any_goals (first | (show Region.wanted _ _ = _; rfl) | (rintro w' ⟨s0, s1⟩; go_simp; with_reducible rfl) | (intro w'; go_simp; with_reducible rfl) | (simp only [Act.put, List.setIfInBounds_toArray, List.set_cons_zero, List.set_cons_succ, i64_w, i32_w]; rfl))
            refine one_ (i := 12) (N := some 51) (ba 14 8191) rfl rfl (one_of HT_.out (by kernel_rfl)) (by decide) (fun K hK => ?_)
            refine goes_ Tryd.func95 (by kernel_rfl) rfl #[.int .u64 (rd x0_1 (ji36)), .int .u64 (rd x0_1 (ji39))] (by rfl) rfl rfl (by (try simp only [List.map_toArray, List.map_cons, List.map_nil]); first | done | (simp only [hji36, hji39]; rfl) | rfl | (simp only [List.length_drop, List.length_take]; rfl)) ?_
            with_reducible refine (qclu6.calls (rd x0_1 (ji36)) (rd x0_1 (ji39)) true _ A42.out).mono ?_
            rintro e w' ⟨rfl, ⟨nd, rfl⟩⟩
            refine ⟨_, rfl, ?_⟩
            refine hK.out _ _ ⟨hHeld.1, hHeld.2⟩ (fun hHeld => ?_)
            clear hK K
            refine norm_ (a' := ?_) ?_ ?_
            rotate_left
            ·show Act.put _ (some 51) _ = _
             simp only [Act.put, List.setIfInBounds_toArray, List.set_cons_zero, List.set_cons_succ, i64_w, i32_w]
             rfl
            refine' pu 13 (some 52) (ba 14 16383) HT_ rfl rfl (by kernel_rfl) (fun _ _ _ => id) ?_ ?_ ?_ <| ?_
            any_goals (first | (show Region.wanted _ _ = _; rfl) | (intro w'; go_simp; with_reducible rfl) | (simp only [Act.put, List.setIfInBounds_toArray, List.set_cons_zero, List.set_cons_succ, i64_w, i32_w]; rfl))
            refine done_ (done_of HT_.out (by kernel_rfl)) ?_
            try go_wp2
            (try (rw [drewN_self w46]; generalize hq_ : World.drewN w46 _ = w46; have n0_ : Zs (Kd.R (Kd.int .u64) 33 w46 w0.heap.size (fun k_ => (P0_ k_ ∨ w.heap.size ≤ k_)) (.slice (some ad111) x0_1.length co47) x0_1) := ⟨by rw [← hq_]; exact (by (with_reducible repeat (first | apply Kd.R_alloc | apply Kd.R_drewN | apply Kd.R_drew)); exact HO_0.out)⟩; have n1_ : Zs (Kept w w46 (fun k_ => P0_ k_)) := ⟨by rw [← hq_]; exact (by repeat (first | (with_reducible first | exact HK.out | apply Kept.alloc | apply Kept.drewN | apply Kept.drew) | exact HK.out))⟩; have n2_ : Zs (Below w0.heap.size w0 w46) := ⟨by rw [← hq_]; exact (by repeat (first | (with_reducible first | exact HB.out | apply zA | apply zB | apply zC) | exact HB.out))⟩; clear HO_0 HK HB hq_; have HO_0 := n0_; have HK := n1_; have HB := n2_; clear n0_ n1_ n2_))
            have n0_ := Zs.mk (Kd.R_drew HO_0.out)
            have n1_ := Zs.mk (Kept.drew HK.out)
            have n2_ := Zs.mk (zC HB.out)
            clear HO_0
            clear HK
            clear HB
            have HO_0 := n0_
            have HK := n1_
            have HB := n2_
            clear n0_ n1_ n2_
            have p114 : 0 ≤ ((ji39) : Int) := of_decide_eq_true (by first | (with_reducible assumption) | assumption)
            have q114 : (ji39) < (x0_1.length : Int) := of_decide_eq_true (by first | (with_reducible assumption) | assumption)
            obtain ⟨ad114, e114, hx114_0⟩ := Kd.at_int (Kd.R_reads' HO_0.out).2.2 (ji39) p114 q114
            obtain rfl : ad111 = ad114 := (by injection e114)
            replace p114 := eq_true p114
            replace q114 := eq_true q114
            have p115 : 0 ≤ ((ji36) : Int) := of_decide_eq_true (by first | (with_reducible assumption) | assumption)
            have q115 : (ji36) < (x0_1.length : Int) := of_decide_eq_true (by first | (with_reducible assumption) | assumption)
            obtain ⟨ad115, e115, hx115_0⟩ := Kd.at_int (Kd.R_reads' HO_0.out).2.2 (ji36) p115 q115
            obtain rfl : ad111 = ad115 := (by injection e115)
            replace p115 := eq_true p115
            replace q115 := eq_true q115
            have p44 : 0 ≤ ((ji36) : Int) := of_decide_eq_true (by first | (with_reducible assumption) | assumption)
            have q44 : ((ji36) : Int) < ((x0_1.length : Int) : Int) := of_decide_eq_true (by first | (with_reducible assumption) | assumption)
            obtain ⟨go44, co44, eo44, gb44, gl44, cl44, HG44⟩ := Kd.R_form HO_0.out (by omega)
            (first | cases eo44 | (injection eo44 with ea_ en_ ec_; (first | subst ea_ | (injection ea_ with ea_; subst ea_)); subst ec_; clear en_))
            have GB44 := Zs.mk gb44
            have GG44 := Zs.mk HG44
            clear gb44 gl44 HG44
            have HMgo44 := Zs.mk (show (P0_ go44 ∨ w.heap.size ≤ go44) from (HO_0.out.1 _ rfl))
            (first | simp only [add_plain] at hx111_0 | skip)
            (first | simp only [add_plain] at hx112_0 | skip)
            (first | simp only [add_plain] at hx114_0 | skip)
            (first | simp only [add_plain] at hx115_0 | skip)
            obtain ⟨hx44_0, hf44_0⟩ := Kd.R_celln 0 HO_0.out ((ji36) : Int) p44 q44
            replace p44 := eq_true p44
            replace q44 := eq_true q44
            have HP49 := Kd.R_putn HO_0.out ((ji36) : Int) (rd x0_1 (ji39))
            rw [← Ny116.out] at HP49
            have HQ49 := Zs.mk HP49
            clear HP49
            have p45 : 0 ≤ ((ji39) : Int) := of_decide_eq_true (by first | (with_reducible assumption) | assumption)
            have q45 : ((ji39) : Int) < ((x0_1.length : Int) : Int) := of_decide_eq_true (by first | (with_reducible assumption) | assumption)
            obtain ⟨hx45_0, hf45_0⟩ := Kd.R_celln 0 HQ49.out ((ji39) : Int) p45 q45
            replace p45 := eq_true p45
            replace q45 := eq_true q45
            have HP50 := Kd.R_putn HQ49.out ((ji39) : Int) (rd x0_1 (ji36))
            rw [← Ny117.out] at HP50
            have HQ50 := Zs.mk HP50
            clear HP50
            refine start_ (n := 24) (S := fun w' => w'.cell? ⟨go44, ((ji39)).toNat, none⟩ = some (.int .u64 (rd x0_1 (ji39))) ∧ w'.cell? ⟨go44, ((ji36)).toNat, none⟩ = some (.int .u64 (rd x0_1 (ji36)))) (ds := [21, 23]) (ba 24 0) (by kernel_rfl) rfl rfl ⟨hx114_0, hx115_0⟩ (fun hHeld => ?_); refine zT qssdou6.tab6 qssdou6.bits6 (fun HT_ HW_ => ?_)
            generalize w46.drew = w48 at HO_0 HK HB GG44 HQ49 HQ50 hf44_0 hf45_0 hx111_0 hx112_0 hx114_0 hx115_0 hx44_0 hx45_0 hHeld ⊢
            refine' pu 0 (some 53) (ba 24 1) HT_ rfl rfl (by kernel_rfl) (fun _ _ _ => id) ?_ ?_ ?_ <| pu 1 (some 54) (ba 24 3) HT_ rfl rfl (by kernel_rfl) (fun _ _ _ => id) ?_ ?_ ?_ <| pu 2 (some 55) (ba 24 7) HT_ rfl rfl (by kernel_rfl) (fun _ _ _ => id) ?_ ?_ ?_ <| pu 3 (some 56) (ba 24 15) HT_ rfl rfl (by kernel_rfl) (fun _ _ _ => id) ?_ ?_ ?_ <| pu 4 (some 57) (ba 24 31) HT_ rfl rfl (by kernel_rfl) (fun _ _ _ => id) ?_ ?_ ?_ <| pu 5 (some 58) (ba 24 63) HT_ rfl rfl (by kernel_rfl) (fun _ _ _ => id) ?_ ?_ ?_ <| pu 6 (some 59) (ba 24 127) HT_ rfl rfl (by kernel_rfl) (fun _ _ _ => id) ?_ ?_ ?_ <| pu 7 (some 60) (ba 24 255) HT_ rfl rfl (by kernel_rfl) (fun _ _ _ => id) ?_ ?_ ?_ <| pu 8 (some 61) (ba 24 511) HT_ rfl rfl (by kernel_rfl) (fun _ _ _ => id) ?_ ?_ ?_ <| pu 9 (some 62) (ba 24 1023) HT_ rfl rfl (by kernel_rfl) (fun _ _ _ => id) ?_ ?_ ?_ <| pu 10 (some 63) (ba 24 2047) HT_ rfl rfl (by kernel_rfl) (fun _ _ _ => id) ?_ ?_ ?_ <| pu 11 (some 64) (ba 24 4095) HT_ rfl rfl (by kernel_rfl) (fun _ _ _ => id) ?_ ?_ ?_ <| pu 12 (some 65) (ba 24 8191) HT_ rfl rfl (by kernel_rfl) (fun _ _ _ => id) ?_ ?_ ?_ <| pu 14 (some 67) (ba 24 24575) HT_ rfl rfl (by kernel_rfl) (fun _ _ _ => id) ?_ ?_ ?_ <| pu 15 (some 68) (ba 24 57343) HT_ rfl rfl (by kernel_rfl) (fun _ _ _ => id) ?_ ?_ ?_ <| pu 16 (some 69) (ba 24 122879) HT_ rfl rfl (by kernel_rfl) (fun _ _ _ => id) ?_ ?_ ?_ <| pu 17 (some 70) (ba 24 253951) HT_ rfl rfl (by kernel_rfl) (fun _ _ _ => id) ?_ ?_ ?_ <| pu 18 (some 71) (ba 24 516095) HT_ rfl rfl (by kernel_rfl) (fun _ _ _ => id) ?_ ?_ ?_ <| ta 13 (some 66) (ba 24 524287) HT_ HW_ rfl rfl (by kernel_rfl) (fun _ _ _ => id) ?_ ?_ hHeld ?_ <| ta 19 (some 72) (ba 24 1048575) HT_ HW_ rfl rfl (by kernel_rfl) (fun _ _ _ => id) ?_ ?_ hHeld ?_ <| pu 20 (some 73) (ba 24 2097151) HT_ rfl rfl (by kernel_rfl) (fun _ _ _ => id) ?_ ?_ ?_ <| ?_
            any_goals (first | (show Region.wanted _ _ = _; rfl) | (rintro w' ⟨s0, s1⟩; go_simp; with_reducible rfl) | (intro w'; go_simp; with_reducible rfl) | (simp only [Act.put, List.setIfInBounds_toArray, List.set_cons_zero, List.set_cons_succ, i64_w, i32_w]; rfl))
            refine last_ (i := 21) (N := none) (ba 24 4194303) rfl rfl (one_of HT_.out (by kernel_rfl)) (by decide) (fun K hK => ?_)
            refine skip_ (w1 := ?_) (by rfl) rfl ?_ ?_
            rotate_left
            ·go_simp
             rfl
            refine hK.out _ _ ?_
            clear hK K
            refine' pu 22 (some 74) (ba 24 8388607) HT_ rfl rfl (by kernel_rfl) (fun _ _ _ => id) ?_ ?_ ?_ <| ?_
            any_goals (first | (show Region.wanted _ _ = _; rfl) | (intro w'; go_simp; with_reducible rfl) | (simp only [Act.put, List.setIfInBounds_toArray, List.set_cons_zero, List.set_cons_succ, i64_w, i32_w]; rfl))
            refine last_ (i := 23) (N := none) (ba 24 16777215) rfl rfl (one_of HT_.out (by kernel_rfl)) (by decide) (fun K hK => ?_)
            refine skip_ (w1 := ?_) (by rfl) rfl ?_ ?_
            rotate_left
            ·go_simp
             rfl
            refine hK.out _ _ ?_
            clear hK K
            refine done_ (done_of HT_.out (by kernel_rfl)) ?_
            try go_wp2
            go_roundg kj5
            case measure => have := HK1.out; have := HJ5.out; omega
            case rel => exact ⟨(y117), ((wrap64 ((wrap64 (2 * x8_1)) + 1))), (by first | rfl | (simp; done) | (simp [*]; done)), H', ⟨by have := HK1.out; have := HJ5.out; omega⟩, ⟨by (with_reducible repeat (first | apply Kd.R_alloc | apply Kd.R_drewN | apply Kd.R_drew)); exact HQ50.out⟩, ⟨by repeat (first | (with_reducible first | exact HK.out | apply Kept.alloc | apply Kept.drewN | apply Kept.drew | refine Kept.setCell ?_ HMgo44.out _ | refine Kept.setCell ?_ HMgo44.out _) | exact HK.out)⟩, ⟨by repeat (first | (with_reducible first | exact HB.out | apply zA | apply zB | apply zC | refine below_set ?_ GB44.out | refine below_set ?_ GB44.out) | exact HB.out)⟩⟩
           ·replace c43 := Bool.eq_false_iff.mpr c43
            subst c43
            have H1 : (some x0_1) = some r := by rw [if_neg (show ¬ (false = true) by decide)] at H; exact H
            clear H
            have H := H1
            clear H1
            obtain rfl := Option.some.inj H
            try go_wp2
            have n0_ := Zs.mk (Kd.R_drew HO_0.out)
            have n1_ := Zs.mk (Kept.drew HK.out)
            have n2_ := Zs.mk (zC HB.out)
            clear HO_0
            clear HK
            clear HB
            have HO_0 := n0_
            have HK := n1_
            have HB := n2_
            clear n0_ n1_ n2_
            obtain ⟨Ao52, co52, eo52⟩ := Kd.R_slice HO_0.out
            (first | subst eo52 | (injection eo52 with f1_ f2_ f3_; have f4_ := f1_.symm; have f5_ := f3_.symm; clear f1_ f2_ f3_; subst f4_; subst f5_))
            have p111 : 0 ≤ ((ji36) : Int) := of_decide_eq_true (by first | (with_reducible assumption) | assumption)
            have q111 : (ji36) < (x0_1.length : Int) := of_decide_eq_true (by first | (with_reducible assumption) | assumption)
            obtain ⟨ad111, e111, hx111_0⟩ := Kd.at_int (Kd.R_reads' HO_0.out).2.2 (ji36) p111 q111
            cases e111
            replace p111 := eq_true p111
            replace q111 := eq_true q111
            have p112 : 0 ≤ ((ji39) : Int) := of_decide_eq_true (by first | (with_reducible assumption) | assumption)
            have q112 : (ji39) < (x0_1.length : Int) := of_decide_eq_true (by first | (with_reducible assumption) | assumption)
            obtain ⟨ad112, e112, hx112_0⟩ := Kd.at_int (Kd.R_reads' HO_0.out).2.2 (ji39) p112 q112
            obtain rfl : ad111 = ad112 := (by injection e112)
            replace p112 := eq_true p112
            replace q112 := eq_true q112
            refine start_ (n := 14) (S := fun w' => w'.cell? (ad111.add ((ji36)).toNat) = some (.int .u64 (rd x0_1 (ji36))) ∧ w'.cell? (ad111.add ((ji39)).toNat) = some (.int .u64 (rd x0_1 (ji39)))) (ds := []) (ba 14 0) (by kernel_rfl) rfl rfl ⟨hx111_0, hx112_0⟩ (fun hHeld => ?_); refine zT qssdou6.tab5 qssdou6.bits5 (fun HT_ HW_ => ?_)
            generalize wc.drew = w51 at HO_0 HK HB hx111_0 hx112_0 hHeld ⊢
            refine' pu 0 (some 39) (ba 14 1) HT_ rfl rfl (by kernel_rfl) (fun _ _ _ => id) ?_ ?_ ?_ <| pu 1 (some 40) (ba 14 3) HT_ rfl rfl (by kernel_rfl) (fun _ _ _ => id) ?_ ?_ ?_ <| pu 2 (some 41) (ba 14 7) HT_ rfl rfl (by kernel_rfl) (fun _ _ _ => id) ?_ ?_ ?_ <| pu 3 (some 42) (ba 14 15) HT_ rfl rfl (by kernel_rfl) (fun _ _ _ => id) ?_ ?_ ?_ <| pu 4 (some 43) (ba 14 31) HT_ rfl rfl (by kernel_rfl) (fun _ _ _ => id) ?_ ?_ ?_ <| pu 6 (some 45) (ba 14 95) HT_ rfl rfl (by kernel_rfl) (fun _ _ _ => id) ?_ ?_ ?_ <| pu 7 (some 46) (ba 14 223) HT_ rfl rfl (by kernel_rfl) (fun _ _ _ => id) ?_ ?_ ?_ <| pu 8 (some 47) (ba 14 479) HT_ rfl rfl (by kernel_rfl) (fun _ _ _ => id) ?_ ?_ ?_ <| pu 9 (some 48) (ba 14 991) HT_ rfl rfl (by kernel_rfl) (fun _ _ _ => id) ?_ ?_ ?_ <| pu 10 (some 49) (ba 14 2015) HT_ rfl rfl (by kernel_rfl) (fun _ _ _ => id) ?_ ?_ ?_ <| ta 5 (some 44) (ba 14 2047) HT_ HW_ rfl rfl (by kernel_rfl) (fun _ _ _ => id) ?_ ?_ hHeld ?_ <| ta 11 (some 50) (ba 14 4095) HT_ HW_ rfl rfl (by kernel_rfl) (fun _ _ _ => id) ?_ ?_ hHeld ?_ <| ?_
            any_goals (first | (show Region.wanted _ _ = _; rfl) | (rintro w' ⟨s0, s1⟩; go_simp; with_reducible rfl) | (intro w'; go_simp; with_reducible rfl) | (simp only [Act.put, List.setIfInBounds_toArray, List.set_cons_zero, List.set_cons_succ, i64_w, i32_w]; rfl))
            refine one_ (i := 12) (N := some 51) (ba 14 8191) rfl rfl (one_of HT_.out (by kernel_rfl)) (by decide) (fun K hK => ?_)
            refine goes_ Tryd.func95 (by kernel_rfl) rfl #[.int .u64 (rd x0_1 (ji36)), .int .u64 (rd x0_1 (ji39))] (by rfl) rfl rfl (by (try simp only [List.map_toArray, List.map_cons, List.map_nil]); first | done | (simp only [hji36, hji39]; rfl) | rfl | (simp only [List.length_drop, List.length_take]; rfl)) ?_
            with_reducible refine (qclu6.calls (rd x0_1 (ji36)) (rd x0_1 (ji39)) false _ A42.out).mono ?_
            rintro e w' ⟨rfl, ⟨nd, rfl⟩⟩
            refine ⟨_, rfl, ?_⟩
            refine hK.out _ _ ⟨hHeld.1, hHeld.2⟩ (fun hHeld => ?_)
            clear hK K
            refine norm_ (a' := ?_) ?_ ?_
            rotate_left
            ·show Act.put _ (some 51) _ = _
             simp only [Act.put, List.setIfInBounds_toArray, List.set_cons_zero, List.set_cons_succ, i64_w, i32_w]
             rfl
            refine' pu 13 (some 52) (ba 14 16383) HT_ rfl rfl (by kernel_rfl) (fun _ _ _ => id) ?_ ?_ ?_ <| ?_
            any_goals (first | (show Region.wanted _ _ = _; rfl) | (intro w'; go_simp; with_reducible rfl) | (simp only [Act.put, List.setIfInBounds_toArray, List.set_cons_zero, List.set_cons_succ, i64_w, i32_w]; rfl))
            refine done_ (done_of HT_.out (by kernel_rfl)) ?_
            try go_wp2
            first | go_end0 | ((try simp only [Exit.inBlock, Exit.then]); refine bodyPost_ret (results_none rfl _ _ _) rfl ?_)
            exact ⟨by first | rfl | (simp [zE, zF] <;> rfl) | (simp only [← hji36, ← hji39]; first | rfl | (simp [zE, zF] <;> rfl)) | (simp [*, zE, zF] <;> rfl), by (with_reducible repeat (first | apply Kd.R_alloc | apply Kd.R_drewN | apply Kd.R_drew)); exact HO_0.out, by repeat (first | (with_reducible first | exact HB.out | apply zA | apply zB | apply zC) | exact HB.out), by repeat (first | (with_reducible first | exact HK.out | apply Kept.alloc | apply Kept.drewN | apply Kept.drew) | exact HK.out)⟩
          ·rw [if_neg c41] at H
           exact absurd H (by simp)
         ·rw [if_neg c40] at H
          exact absurd H (by simp)
        ·rw [if_neg c38] at H
         exact absurd H (by simp)
       ·rw [if_neg c37] at H
        exact absurd H (by simp)
end Go.Proofs.YtkmbgfhkdopigaaDoor.P
