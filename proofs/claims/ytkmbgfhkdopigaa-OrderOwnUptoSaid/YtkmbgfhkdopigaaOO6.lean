/- Texts that the statement's proof leans on, part 6. -/
import Derived.Test.YtkmbgfhkdopigaaOO4
import Derived.Test.YtkmbgfhkdopigaaOO5
namespace Go.Proofs.Ytkmbgfhkdopigaa.P
open Go.RowKit Go.Proofs.YtkmbgfhkdopigaaW.PrintWords Go.Proofs.YtkmbgfhkdopigaaW.PrintLast Go.Proofs.YtkmbgfhkdopigaaW.PrintMore
attribute [local go_sem] max2_int min2_int max_two min_two max_three min_three max_four min_four
attribute [local go_sem] Go.Proofs.Ytkmbgfhkdopigaa.Fl.store_float Go.Proofs.Ytkmbgfhkdopigaa.Fl.call54 Go.Proofs.Ytkmbgfhkdopigaa.Fl.call22 Go.Proofs.Ytkmbgfhkdopigaa.Fl.call14 Go.Proofs.Ytkmbgfhkdopigaa.Fl.call28
set_option linter.unusedVariables false
set_option linter.unusedSimpArgs false
def qssmcff6.T35 : Bool × List (List Nat × List Nat) := (true, [([], []), ([], []), ([], []), ([], []), ([2, 3], [2, 3]), ([1, 4], [1, 4]), ([5], [5]), ([], []), ([], []), ([7, 8], [7, 8]), ([9], [9]), ([0, 6, 10], [0, 6, 10]), ([11], [11]), ([12], [12])])
def qssmcff6.B35 : List Nat := [0, 0, 0, 0, 12, 30, 62, 0, 0, 384, 896, 2047, 4095, 8191]
theorem qssmcff6.tab35 : rtab .any (opsOf Try.f164 35) = qssmcff6.T35 := by kernel_rfl
theorem qssmcff6.bits35 : waitsOk qssmcff6.T35.2 qssmcff6.B35 = true := by kernel_rfl
set_option maxHeartbeats 8000000 in
set_option maxRecDepth 100000 in
theorem qssmcff6.callsC (k : Nat) (ih : ∀ m : Nat, m < k + 1 → ∀ (P0_ : Nat → Prop) (u9000_ : Value) (l0 : List Nat) (a1 : Int) (a2 : Int) (a3 : Int)  (r : List Nat) (w0 w : World) (hB : Below w0.heap.size w0 w) (ho0 : Kd.R (Kd.scalar (Value.float .f64) (fun _ => rfl)) 23 w w0.heap.size P0_ u9000_ l0) (h : qssmcff6.f m l0 a1 a2 a3 = some r),
  Calls Try.prog 164 #[u9000_, .int .i64 a1, .int .i64 a2, .int .i64 a3, .func (.func 52) #[] #[]] w fun e w' => e = .returned (.tuple #[]) ∧ Kd.R (Kd.scalar (Value.float .f64) (fun _ => rfl)) 23 w' w0.heap.size (fun k_ => (P0_ k_ ∨ w.heap.size ≤ k_)) u9000_ r ∧ Below w0.heap.size w0 w' ∧ Kept w w' (fun k_ => P0_ k_)) : ∀ (P0_ : Nat → Prop) (u9000_ : Value) (l0 : List Nat) (a1 : Int) (a2 : Int) (a3 : Int)  (r : List Nat) (w0 w : World) (hB : Below w0.heap.size w0 w) (ho0 : Kd.R (Kd.scalar (Value.float .f64) (fun _ => rfl)) 23 w w0.heap.size P0_ u9000_ l0) (c6 : ¬ ((wrap64 (a2 - a1)) = 1)) (c31 : ¬ ((wrap64 (a3 - a2)) = 1)) (h : qssmcff6.f (k + 1) l0 a1 a2 a3 = some r),
  Calls Try.prog 164 #[u9000_, .int .i64 a1, .int .i64 a2, .int .i64 a3, .func (.func 52) #[] #[]] w fun e w' => e = .returned (.tuple #[]) ∧ Kd.R (Kd.scalar (Value.float .f64) (fun _ => rfl)) 23 w' w0.heap.size (fun k_ => (P0_ k_ ∨ w.heap.size ≤ k_)) u9000_ r ∧ Below w0.heap.size w0 w' ∧ Kept w w' (fun k_ => P0_ k_) := by
 intro P0_ u9000_ l0 a1 a2 a3 r w0 w hB ho0 c6 c31 h
 simp only [qssmcff6.f] at h
 have HO0 := Zs.mk (show Kd.R (Kd.scalar (Value.float .f64) (fun _ => rfl)) 23 w w0.heap.size (fun k_ => (P0_ k_ ∨ w.heap.size ≤ k_)) u9000_ l0 from Kd.R_mono ho0 (fun k_ hk => (.inl hk)))
 have HK := Zs.mk (Kept.refl w (fun k_ => P0_ k_))
 have HW0 := Zs.mk hB.size
 have HB := Zs.mk hB
 clear hB
 have H : (if (wrap64 (a2 - a1)) = 1 then (qssmcff6.l0 k l0 a1 a2 a3) else (if (wrap64 (a3 - a2)) = 1 then (qssmcff6.l2 k l0 a2 a1 a2) else (if a2 > (wrap64 ((IntKind.u64.wrap (wrap64 (a1 + a3))) / 2)) then (qssmcff6.j4 k l0 a1 a2 a3 (wrap64 ((IntKind.u64.wrap (wrap64 (a1 + a3))) / 2)) (wrap64 ((wrap64 ((IntKind.u64.wrap (wrap64 (a1 + a3))) / 2)) + a2)) (wrap64 ((wrap64 ((wrap64 ((IntKind.u64.wrap (wrap64 (a1 + a3))) / 2)) + a2)) - a3)) (wrap64 ((IntKind.u64.wrap (wrap64 (a1 + a3))) / 2))) else (qssmcff6.j4 k l0 a1 a2 a3 (wrap64 ((IntKind.u64.wrap (wrap64 (a1 + a3))) / 2)) (wrap64 ((wrap64 ((IntKind.u64.wrap (wrap64 (a1 + a3))) / 2)) + a2)) a1 a2)))) = some r := h
 clear h
 rw [if_neg c6] at H
 have c6b0 : ((wrap64 (a2 - a1)) == 1) = false := beq_eq_false_iff_ne.mpr c6
 have c6b1 : ((wrap64 (a2 - a1)) != 1) = true := bne_iff_ne.mpr c6
 rw [if_neg c31] at H
 have c31b0 : ((wrap64 (a3 - a2)) == 1) = false := beq_eq_false_iff_ne.mpr c31
 have c31b1 : ((wrap64 (a3 - a2)) != 1) = true := bne_iff_ne.mpr c31
 have HC56 := Zs.mk H
 clear H
 go_enter Try.func164, Try.ntmps164
 go_upto_if 140 with (fail)
 go_cut [18, 19, 20, 21] (fun v18 v19 v20 v21 wc => ∃ (kq : Nat) (x18_55 : Int) (x19_55 : Int) (x20_55 : Int) (x21_55 : Int), v18 = .int .i64 x18_55 ∧ v19 = .int .i64 x19_55 ∧ v20 = .int .i64 x20_55 ∧ v21 = .int .i64 x21_55 ∧ Zs (qssmcff6.j4 kq l0 a1 a2 a3 x18_55 x19_55 x20_55 x21_55 = some r) ∧ Zs (kq ≤ k) ∧ Zs (Kd.R (Kd.scalar (Value.float .f64) (fun _ => rfl)) 23 wc w0.heap.size (fun k_ => (P0_ k_ ∨ w.heap.size ≤ k_)) u9000_ l0) ∧ Zs (Kept w wc (fun k_ => P0_ k_)) ∧ Zs (Below w0.heap.size w0 wc))
 case first =>
  have H := HC56.out
  clear HC56
  by_cases c57 : a2 > (wrap64 ((IntKind.u64.wrap (wrap64 (a1 + a3))) / 2))
  ·rw [if_pos c57] at H
   have c57b0 : decide ((wrap64 ((IntKind.u64.wrap (wrap64 (a1 + a3))) / 2)) < a2) = true := decide_eq_true c57
   clear c57
   (first | rw [c57b0] | (simp only [i64_w, i32_w]; rw [c57b0]) | skip)
   have H' := Zs.mk H
   clear H
   go_wp2
   go_meet
   case rel => exact ⟨_, (wrap64 ((IntKind.u64.wrap (wrap64 (a1 + a3))) / 2)), (wrap64 ((wrap64 ((IntKind.u64.wrap (wrap64 (a1 + a3))) / 2)) + a2)), (wrap64 ((wrap64 ((wrap64 ((IntKind.u64.wrap (wrap64 (a1 + a3))) / 2)) + a2)) - a3)), (wrap64 ((IntKind.u64.wrap (wrap64 (a1 + a3))) / 2)), (by first | rfl | (simp; done) | (simp [*]; done)), (by first | rfl | (simp; done) | (simp [*]; done)), (by first | rfl | (simp; done) | (simp [*]; done)), (by first | rfl | (simp; done) | (simp [*]; done)), H', ⟨by first | omega | exact Nat.le_refl _⟩, ⟨by (with_reducible repeat (first | apply Kd.R_alloc | apply Kd.R_drewN | apply Kd.R_drew)); exact HO0.out⟩, ⟨by repeat (first | (with_reducible first | exact HK.out | apply Kept.alloc | apply Kept.drewN | apply Kept.drew) | exact HK.out)⟩, ⟨by repeat (first | (with_reducible first | exact HB.out | apply zA | apply zB | apply zC) | exact HB.out)⟩⟩
  ·rw [if_neg c57] at H
   have c57b0 : decide ((wrap64 ((IntKind.u64.wrap (wrap64 (a1 + a3))) / 2)) < a2) = false := decide_eq_false c57
   clear c57
   (first | rw [c57b0] | (simp only [i64_w, i32_w]; rw [c57b0]) | skip)
   have H' := Zs.mk H
   clear H
   go_wp2
   go_meet
   case rel => exact ⟨_, (wrap64 ((IntKind.u64.wrap (wrap64 (a1 + a3))) / 2)), (wrap64 ((wrap64 ((IntKind.u64.wrap (wrap64 (a1 + a3))) / 2)) + a2)), (a1), (a2), (by first | rfl | (simp; done) | (simp [*]; done)), (by first | rfl | (simp; done) | (simp [*]; done)), (by first | rfl | (simp; done) | (simp [*]; done)), (by first | rfl | (simp; done) | (simp [*]; done)), H', ⟨by first | omega | exact Nat.le_refl _⟩, ⟨by (with_reducible repeat (first | apply Kd.R_alloc | apply Kd.R_drewN | apply Kd.R_drew)); exact HO0.out⟩, ⟨by repeat (first | (with_reducible first | exact HK.out | apply Kept.alloc | apply Kept.drewN | apply Kept.drew) | exact HK.out)⟩, ⟨by repeat (first | (with_reducible first | exact HB.out | apply zA | apply zB | apply zC) | exact HB.out)⟩⟩
 case rest =>
  clear HC56
  try clear c31b0; try clear c31b1; try clear c31; try clear c6; try clear c6b0; try clear c6b1; try clear c31; try clear c31b0; try clear c31b1; try clear c57; try clear c57b0
  obtain ⟨kq, x18_55, x19_55, x20_55, x21_55, rfl, rfl, rfl, rfl, HA, HJ55, HO_0, HK, HB⟩ := hcut
  cases kq with
  | zero => exact absurd HA.out (by simp [qssmcff6.j4])
  | succ kj55 =>
   have H := HA.out
   clear HA
   simp only [qssmcff6.j4] at H
   have H' := Zs.mk H
   clear H
   go_wp2
   go_loopg [20, 21] kj55 (fun kq v20 v21 w' => ∃ (x20_2 : Int) (x21_2 : Int), v20 = .int .i64 x20_2 ∧ v21 = .int .i64 x21_2 ∧ Zs (qssmcff6.l4 kq l0 a1 a2 a3 x18_55 x19_55 x20_2 x21_2 (wrap64 (x19_55 - 1)) = some r) ∧ Zs (kq ≤ kj55) ∧ Zs (Kd.R (Kd.scalar (Value.float .f64) (fun _ => rfl)) 23 w' w0.heap.size (fun k_ => (P0_ k_ ∨ w.heap.size ≤ k_)) u9000_ l0) ∧ Zs (Kept w w' (fun k_ => P0_ k_)) ∧ Zs (Below w0.heap.size w0 w'))
   case atStart => exact ⟨(x20_55), (x21_55), (by first | rfl | (simp; done) | (simp [*]; done)), (by first | rfl | (simp; done) | (simp [*]; done)), H', ⟨Nat.le_refl _⟩, ⟨by (with_reducible repeat (first | apply Kd.R_alloc | apply Kd.R_drewN | apply Kd.R_drew)); exact HO_0.out⟩, ⟨by repeat (first | (with_reducible first | exact HK.out | apply Kept.alloc | apply Kept.drewN | apply Kept.drew) | exact HK.out)⟩, ⟨by repeat (first | (with_reducible first | exact HB.out | apply zA | apply zB | apply zC) | exact HB.out)⟩⟩
   case round =>
    clear H'
    try clear c6; try clear c6b0; try clear c6b1; try clear c31; try clear c31b0; try clear c31b1; try clear c57; try clear c57b0
    obtain ⟨x20_2, x21_2, rfl, rfl, HA, HK2, HO_0, HK, HB⟩ := hrel
    cases gk with
    | zero => exact absurd HA.out (by simp [qssmcff6.l4])
    | succ k2 =>
     have H := HA.out
     clear HA
     simp only [qssmcff6.l4] at H
     by_cases c58 : x20_2 < x21_2
     ·rw [if_pos c58] at H
      have c58b0 : decide (x20_2 < x21_2) = true := decide_eq_true c58
      clear c58
      obtain ⟨ji62, hji62⟩ : ∃ j_ : Int, (wrap64 ((IntKind.u64.wrap (wrap64 (x20_2 + x21_2))) / 2)) = j_ := ⟨_, rfl⟩
      have hji62w : (IntKind.i64.wrap ((IntKind.u64.wrap (wrap64 (x20_2 + x21_2))) / 2)) = ji62 := (i64_w _).trans hji62
      rw [hji62] at H
      obtain ⟨ji59, hji59⟩ : ∃ j_ : Int, (wrap64 ((wrap64 (x19_55 - 1)) - ji62)) = j_ := ⟨_, rfl⟩
      replace H : (if 0 ≤ (ji59) then (if (ji59) < (l0.length : Int) then (if 0 ≤ ji62 then (if ji62 < (l0.length : Int) then ((qoc.f (rdOf (0 : Nat) l0 (ji59)) (rdOf (0 : Nat) l0 ji62)).bind fun t117 => (if t117 < 0 then (qssmcff6.l4 k2 l0 a1 a2 a3 x18_55 x19_55 x20_2 ji62 (wrap64 (x19_55 - 1))) else (qssmcff6.l4 k2 l0 a1 a2 a3 x18_55 x19_55 (wrap64 (ji62 + 1)) x21_2 (wrap64 (x19_55 - 1))))) else (none)) else (none)) else (none)) else (none)) = some r := by first | (rw [hji59] at H; exact H) | (simp only [hji59] at H ⊢; exact H)
      have hji59w : (IntKind.i64.wrap ((wrap64 (x19_55 - 1)) - ji62)) = ji59 := (i64_w _).trans hji59
      by_cases c60 : 0 ≤ (ji59)
      ·rw [if_pos c60] at H
       have c60b0 : decide (0 ≤ (ji59)) = true := decide_eq_true c60
       clear c60
       by_cases c61 : (ji59) < (l0.length : Int)
       ·rw [if_pos c61] at H
        have c61b0 : decide ((ji59) < (l0.length : Int)) = true := decide_eq_true c61
        clear c61
        by_cases c63 : 0 ≤ (ji62)
        ·rw [if_pos c63] at H
         have c63b0 : decide (0 ≤ (ji62)) = true := decide_eq_true c63
         clear c63
         by_cases c64 : (ji62) < (l0.length : Int)
         ·rw [if_pos c64] at H
          have c64b0 : decide ((ji62) < (l0.length : Int)) = true := decide_eq_true c64
          clear c64
          replace H := Option.bind_eq_some_iff.mp H
          obtain ⟨t117, A650, H⟩ := H
          replace H : (if t117 < 0 then (qssmcff6.l4 k2 l0 a1 a2 a3 x18_55 x19_55 x20_2 ji62 (wrap64 (x19_55 - 1))) else (qssmcff6.l4 k2 l0 a1 a2 a3 x18_55 x19_55 (wrap64 ((ji62) + 1)) x21_2 (wrap64 (x19_55 - 1)))) = some r := H
          have A65 := Zs.mk A650
          clear A650
          by_cases c66 : t117 < 0
          ·rw [if_pos c66] at H
           have c66b0 : decide (t117 < 0) = true := decide_eq_true c66
           clear c66
           have H' := Zs.mk H
           clear H
           try go_wp2
           have n0_ := Zs.mk (Kd.R_drew HO_0.out)
           have n1_ := Zs.mk (Kept.drew HK.out)
           have n2_ := Zs.mk (zC HB.out)
           clear HO_0
           clear HK
           clear HB
           have HO_0 := n0_
           have HK := n1_
           have HB := n2_
           clear n0_ n1_ n2_
           obtain ⟨Ao68, co68, eo68⟩ := Kd.R_slice HO_0.out
           (first | subst eo68 | (injection eo68 with f1_ f2_ f3_; have f4_ := f1_.symm; have f5_ := f3_.symm; clear f1_ f2_ f3_; subst f4_; subst f5_))
           have p115 : 0 ≤ ((ji59) : Int) := of_decide_eq_true (by first | (with_reducible assumption) | assumption)
           have q115 : (ji59) < (l0.length : Int) := of_decide_eq_true (by first | (with_reducible assumption) | assumption)
           obtain ⟨ad115, e115, hx115_0⟩ := Kd.at_flo (Kd.R_reads' HO_0.out).2.2 (ji59) p115 q115
           cases e115
           replace p115 := eq_true p115
           replace q115 := eq_true q115
           have p116 : 0 ≤ ((ji62) : Int) := of_decide_eq_true (by first | (with_reducible assumption) | assumption)
           have q116 : (ji62) < (l0.length : Int) := of_decide_eq_true (by first | (with_reducible assumption) | assumption)
           obtain ⟨ad116, e116, hx116_0⟩ := Kd.at_flo (Kd.R_reads' HO_0.out).2.2 (ji62) p116 q116
           obtain rfl : ad115 = ad116 := (by injection e116)
           replace p116 := eq_true p116
           replace q116 := eq_true q116
           refine start_ (n := 14) (S := fun w' => w'.cell? (ad115.add ((ji59)).toNat) = some (.float .f64 (rdOf (0 : Nat) l0 (ji59))) ∧ w'.cell? (ad115.add ((ji62)).toNat) = some (.float .f64 (rdOf (0 : Nat) l0 (ji62)))) (ds := []) (ba 14 0) (by kernel_rfl) rfl rfl ⟨hx115_0, hx116_0⟩ (fun hHeld => ?_); refine zT qssmcff6.tab35 qssmcff6.bits35 (fun HT_ HW_ => ?_)
           generalize wr.drew = w67 at HO_0 HK HB hx115_0 hx116_0 hHeld ⊢
           refine' pu 0 (some 158) (ba 14 1) HT_ rfl rfl (by kernel_rfl) (fun _ _ _ => id) ?_ ?_ ?_ <| pu 1 (some 159) (ba 14 3) HT_ rfl rfl (by kernel_rfl) (fun _ _ _ => id) ?_ ?_ ?_ <| pu 2 (some 160) (ba 14 7) HT_ rfl rfl (by kernel_rfl) (fun _ _ _ => id) ?_ ?_ ?_ <| pu 3 (some 161) (ba 14 15) HT_ rfl rfl (by kernel_rfl) (fun _ _ _ => id) ?_ ?_ ?_ <| pu 4 (some 162) (ba 14 31) HT_ rfl rfl (by kernel_rfl) (fun _ _ _ => id) ?_ ?_ ?_ <| pu 5 (some 163) (ba 14 63) HT_ rfl rfl (by kernel_rfl) (fun _ _ _ => id) ?_ ?_ ?_ <| pu 7 (some 165) (ba 14 191) HT_ rfl rfl (by kernel_rfl) (fun _ _ _ => id) ?_ ?_ ?_ <| pu 8 (some 166) (ba 14 447) HT_ rfl rfl (by kernel_rfl) (fun _ _ _ => id) ?_ ?_ ?_ <| pu 9 (some 167) (ba 14 959) HT_ rfl rfl (by kernel_rfl) (fun _ _ _ => id) ?_ ?_ ?_ <| ta 6 (some 164) (ba 14 1023) HT_ HW_ rfl rfl (by kernel_rfl) (fun _ _ _ => id) ?_ ?_ hHeld ?_ <| ta 10 (some 168) (ba 14 2047) HT_ HW_ rfl rfl (by kernel_rfl) (fun _ _ _ => id) ?_ ?_ hHeld ?_ <| ?_
           any_goals (first | (show Region.wanted _ _ = _; rfl) | (rintro w' ⟨s0, s1⟩; go_simp; with_reducible rfl) | (intro w'; go_simp; with_reducible rfl) | (simp only [Act.put, List.setIfInBounds_toArray, List.set_cons_zero, List.set_cons_succ, i64_w, i32_w]; rfl))
           refine one_ (i := 11) (N := some 169) (ba 14 4095) rfl rfl (one_of HT_.out (by kernel_rfl)) (by decide) (fun K hK => ?_)
           refine goesD_ Try.func52 (by kernel_rfl) rfl #[.float .f64 (rdOf (0 : Nat) l0 (ji59)), .float .f64 (rdOf (0 : Nat) l0 (ji62))] (by rfl) rfl rfl rfl (by (try simp only [List.map_toArray, List.map_cons, List.map_nil]); first | done | (simp only [hji59, hji62]; rfl) | rfl | (simp only [List.length_drop, List.length_take]; rfl)) ?_
           with_reducible refine (qoc.calls (rdOf (0 : Nat) l0 (ji59)) (rdOf (0 : Nat) l0 (ji62)) t117 _ A65.out).mono ?_
           rintro e w' ⟨rfl, ⟨nd, rfl⟩⟩
           refine ⟨_, rfl, ?_⟩
           refine hK.out _ _ ⟨hHeld.1, hHeld.2⟩ (fun hHeld => ?_)
           clear hK K
           refine norm_ (a' := ?_) ?_ ?_
           rotate_left
           ·show Act.put _ (some 169) _ = _
            simp only [Act.put, List.setIfInBounds_toArray, List.set_cons_zero, List.set_cons_succ, i64_w, i32_w]
            rfl
           refine' pu 12 (some 170) (ba 14 8191) HT_ rfl rfl (by kernel_rfl) (fun _ _ _ => id) ?_ ?_ ?_ <| pu 13 (some 171) (ba 14 16383) HT_ rfl rfl (by kernel_rfl) (fun _ _ _ => id) ?_ ?_ ?_ <| ?_
           any_goals (first | (show Region.wanted _ _ = _; rfl) | (intro w'; go_simp; with_reducible rfl) | (simp only [Act.put, List.setIfInBounds_toArray, List.set_cons_zero, List.set_cons_succ, i64_w, i32_w]; rfl))
           refine done_ (done_of HT_.out (by kernel_rfl)) ?_
           try go_wp2
           go_roundg k2
           case measure => have := HJ55.out; have := HK2.out; omega
           case rel => exact ⟨(x20_2), (ji62), (by first | rfl | (simp; done) | (simp [*]; done)), (by first | rfl | (simp; done) | (simp only [← hji62] <;> (first | rfl | simp)) | (simp [*]; done)), H', ⟨by have := HJ55.out; have := HK2.out; omega⟩, ⟨by (with_reducible repeat (first | apply Kd.R_alloc | apply Kd.R_drewN | apply Kd.R_drew)); exact HO_0.out⟩, ⟨by repeat (first | (with_reducible first | exact HK.out | apply Kept.alloc | apply Kept.drewN | apply Kept.drew) | exact HK.out)⟩, ⟨by repeat (first | (with_reducible first | exact HB.out | apply zA | apply zB | apply zC) | exact HB.out)⟩⟩
          ·rw [if_neg c66] at H
           have c66b0 : decide (t117 < 0) = false := decide_eq_false c66
           clear c66
           have H' := Zs.mk H
           clear H
           try go_wp2
           have n0_ := Zs.mk (Kd.R_drew HO_0.out)
           have n1_ := Zs.mk (Kept.drew HK.out)
           have n2_ := Zs.mk (zC HB.out)
           clear HO_0
           clear HK
           clear HB
           have HO_0 := n0_
           have HK := n1_
           have HB := n2_
           clear n0_ n1_ n2_
           obtain ⟨Ao70, co70, eo70⟩ := Kd.R_slice HO_0.out
           (first | subst eo70 | (injection eo70 with f1_ f2_ f3_; have f4_ := f1_.symm; have f5_ := f3_.symm; clear f1_ f2_ f3_; subst f4_; subst f5_))
           have p115 : 0 ≤ ((ji59) : Int) := of_decide_eq_true (by first | (with_reducible assumption) | assumption)
           have q115 : (ji59) < (l0.length : Int) := of_decide_eq_true (by first | (with_reducible assumption) | assumption)
           obtain ⟨ad115, e115, hx115_0⟩ := Kd.at_flo (Kd.R_reads' HO_0.out).2.2 (ji59) p115 q115
           cases e115
           replace p115 := eq_true p115
           replace q115 := eq_true q115
           have p116 : 0 ≤ ((ji62) : Int) := of_decide_eq_true (by first | (with_reducible assumption) | assumption)
           have q116 : (ji62) < (l0.length : Int) := of_decide_eq_true (by first | (with_reducible assumption) | assumption)
           obtain ⟨ad116, e116, hx116_0⟩ := Kd.at_flo (Kd.R_reads' HO_0.out).2.2 (ji62) p116 q116
           obtain rfl : ad115 = ad116 := (by injection e116)
           replace p116 := eq_true p116
           replace q116 := eq_true q116
           refine start_ (n := 14) (S := fun w' => w'.cell? (ad115.add ((ji59)).toNat) = some (.float .f64 (rdOf (0 : Nat) l0 (ji59))) ∧ w'.cell? (ad115.add ((ji62)).toNat) = some (.float .f64 (rdOf (0 : Nat) l0 (ji62)))) (ds := []) (ba 14 0) (by kernel_rfl) rfl rfl ⟨hx115_0, hx116_0⟩ (fun hHeld => ?_); refine zT qssmcff6.tab35 qssmcff6.bits35 (fun HT_ HW_ => ?_)
           generalize wr.drew = w69 at HO_0 HK HB hx115_0 hx116_0 hHeld ⊢
           refine' pu 0 (some 158) (ba 14 1) HT_ rfl rfl (by kernel_rfl) (fun _ _ _ => id) ?_ ?_ ?_ <| pu 1 (some 159) (ba 14 3) HT_ rfl rfl (by kernel_rfl) (fun _ _ _ => id) ?_ ?_ ?_ <| pu 2 (some 160) (ba 14 7) HT_ rfl rfl (by kernel_rfl) (fun _ _ _ => id) ?_ ?_ ?_ <| pu 3 (some 161) (ba 14 15) HT_ rfl rfl (by kernel_rfl) (fun _ _ _ => id) ?_ ?_ ?_ <| pu 4 (some 162) (ba 14 31) HT_ rfl rfl (by kernel_rfl) (fun _ _ _ => id) ?_ ?_ ?_ <| pu 5 (some 163) (ba 14 63) HT_ rfl rfl (by kernel_rfl) (fun _ _ _ => id) ?_ ?_ ?_ <| pu 7 (some 165) (ba 14 191) HT_ rfl rfl (by kernel_rfl) (fun _ _ _ => id) ?_ ?_ ?_ <| pu 8 (some 166) (ba 14 447) HT_ rfl rfl (by kernel_rfl) (fun _ _ _ => id) ?_ ?_ ?_ <| pu 9 (some 167) (ba 14 959) HT_ rfl rfl (by kernel_rfl) (fun _ _ _ => id) ?_ ?_ ?_ <| ta 6 (some 164) (ba 14 1023) HT_ HW_ rfl rfl (by kernel_rfl) (fun _ _ _ => id) ?_ ?_ hHeld ?_ <| ta 10 (some 168) (ba 14 2047) HT_ HW_ rfl rfl (by kernel_rfl) (fun _ _ _ => id) ?_ ?_ hHeld ?_ <| ?_
           any_goals (first | (show Region.wanted _ _ = _; rfl) | (rintro w' ⟨s0, s1⟩; go_simp; with_reducible rfl) | (intro w'; go_simp; with_reducible rfl) | (simp only [Act.put, List.setIfInBounds_toArray, List.set_cons_zero, List.set_cons_succ, i64_w, i32_w]; rfl))
           refine one_ (i := 11) (N := some 169) (ba 14 4095) rfl rfl (one_of HT_.out (by kernel_rfl)) (by decide) (fun K hK => ?_)
           refine goesD_ Try.func52 (by kernel_rfl) rfl #[.float .f64 (rdOf (0 : Nat) l0 (ji59)), .float .f64 (rdOf (0 : Nat) l0 (ji62))] (by rfl) rfl rfl rfl (by (try simp only [List.map_toArray, List.map_cons, List.map_nil]); first | done | (simp only [hji59, hji62]; rfl) | rfl | (simp only [List.length_drop, List.length_take]; rfl)) ?_
           with_reducible refine (qoc.calls (rdOf (0 : Nat) l0 (ji59)) (rdOf (0 : Nat) l0 (ji62)) t117 _ A65.out).mono ?_
           rintro e w' ⟨rfl, ⟨nd, rfl⟩⟩
           refine ⟨_, rfl, ?_⟩
           refine hK.out _ _ ⟨hHeld.1, hHeld.2⟩ (fun hHeld => ?_)
           clear hK K
           refine norm_ (a' := ?_) ?_ ?_
           rotate_left
           ·show Act.put _ (some 169) _ = _
            simp only [Act.put, List.setIfInBounds_toArray, List.set_cons_zero, List.set_cons_succ, i64_w, i32_w]
            rfl
           refine' pu 12 (some 170) (ba 14 8191) HT_ rfl rfl (by kernel_rfl) (fun _ _ _ => id) ?_ ?_ ?_ <| pu 13 (some 171) (ba 14 16383) HT_ rfl rfl (by kernel_rfl) (fun _ _ _ => id) ?_ ?_ ?_ <| ?_
           any_goals (first | (show Region.wanted _ _ = _; rfl) | (intro w'; go_simp; with_reducible rfl) | (simp only [Act.put, List.setIfInBounds_toArray, List.set_cons_zero, List.set_cons_succ, i64_w, i32_w]; rfl))
           refine done_ (done_of HT_.out (by kernel_rfl)) ?_
           try go_wp2
           go_roundg k2
           case measure => have := HJ55.out; have := HK2.out; omega
           case rel => exact ⟨(wrap64 ((ji62) + 1)), (x21_2), (by first | rfl | (simp; done) | (simp only [← hji62] <;> (first | rfl | simp)) | (simp [*]; done)), (by first | rfl | (simp; done) | (simp [*]; done)), H', ⟨by have := HJ55.out; have := HK2.out; omega⟩, ⟨by (with_reducible repeat (first | apply Kd.R_alloc | apply Kd.R_drewN | apply Kd.R_drew)); exact HO_0.out⟩, ⟨by repeat (first | (with_reducible first | exact HK.out | apply Kept.alloc | apply Kept.drewN | apply Kept.drew) | exact HK.out)⟩, ⟨by repeat (first | (with_reducible first | exact HB.out | apply zA | apply zB | apply zC) | exact HB.out)⟩⟩
         ·rw [if_neg c64] at H
          exact absurd H (by simp)
        ·rw [if_neg c63] at H
         exact absurd H (by simp)
       ·rw [if_neg c61] at H
        exact absurd H (by simp)
      ·rw [if_neg c60] at H
       exact absurd H (by simp)
     ·rw [if_neg c58] at H
      have c58b0 : decide (x20_2 < x21_2) = false := decide_eq_false c58
      clear c58
      have HC71 := Zs.mk H
      clear H
      go_upto_region 39 with (fail)
      go_cut [185] (fun v185 wc => ∃ (kq : Nat) (x185_70 : Bool), v185 = .bool x185_70 ∧ Zs (qssmcff6.j6 kq l0 a1 a2 a3 x18_55 x20_2 (wrap64 (x19_55 - x20_2)) x185_70 = some r) ∧ Zs (kq ≤ k2) ∧ Zs (Kd.R (Kd.scalar (Value.float .f64) (fun _ => rfl)) 23 wc w0.heap.size (fun k_ => (P0_ k_ ∨ w.heap.size ≤ k_)) u9000_ l0) ∧ Zs (Kept w wc (fun k_ => P0_ k_)) ∧ Zs (Below w0.heap.size w0 wc))
      case first =>
       have H := HC71.out
       clear HC71
       by_cases c72 : x20_2 < a2
       ·rw [if_pos c72] at H
        have c72b0 : decide (x20_2 < a2) = true := decide_eq_true c72
        clear c72
        (first | rw [c72b0] | (simp only [i64_w, i32_w]; rw [c72b0]) | skip)
        have H' := Zs.mk H
        clear H
        go_wp2
        go_meet
        case rel => exact ⟨_, (decide (a2 < (wrap64 (x19_55 - x20_2)))), (by first | rfl | (simp; done) | (simp [*]; done)), H', ⟨by have := HJ55.out; have := HK2.out; first | omega | exact Nat.le_refl _⟩, ⟨by (with_reducible repeat (first | apply Kd.R_alloc | apply Kd.R_drewN | apply Kd.R_drew)); exact HO_0.out⟩, ⟨by repeat (first | (with_reducible first | exact HK.out | apply Kept.alloc | apply Kept.drewN | apply Kept.drew) | exact HK.out)⟩, ⟨by repeat (first | (with_reducible first | exact HB.out | apply zA | apply zB | apply zC) | exact HB.out)⟩⟩
       ·rw [if_neg c72] at H
        have c72b0 : decide (x20_2 < a2) = false := decide_eq_false c72
        clear c72
        (first | rw [c72b0] | (simp only [i64_w, i32_w]; rw [c72b0]) | skip)
        have H' := Zs.mk H
        clear H
        go_wp2
        go_meet
        case rel => exact ⟨_, (false), (by first | rfl | (simp; done) | (simp [*]; done)), H', ⟨by have := HJ55.out; have := HK2.out; first | omega | exact Nat.le_refl _⟩, ⟨by (with_reducible repeat (first | apply Kd.R_alloc | apply Kd.R_drewN | apply Kd.R_drew)); exact HO_0.out⟩, ⟨by repeat (first | (with_reducible first | exact HK.out | apply Kept.alloc | apply Kept.drewN | apply Kept.drew) | exact HK.out)⟩, ⟨by repeat (first | (with_reducible first | exact HB.out | apply zA | apply zB | apply zC) | exact HB.out)⟩⟩
      case rest =>
       clear HC71
       try clear c6; try clear c6b0; try clear c6b1; try clear c31; try clear c31b0; try clear c31b1; try clear c57; try clear c57b0; try clear c58; try clear c58b0; try clear c60; try clear c60b0; try clear c61; try clear c61b0; try clear c63; try clear c63b0; try clear c64; try clear c64b0; try clear c66; try clear c66b0; try clear c72; try clear c72b0; try clear hx115_0; try clear hx116_0; try clear p115; try clear p116; try clear q115; try clear q116
       obtain ⟨kq, x185_70, rfl, HA, HJ70, HO_0, HK, HB⟩ := hcut
       cases kq with
       | zero => exact absurd HA.out (by simp [qssmcff6.j6])
       | succ kj70 =>
        have H := HA.out
        clear HA
        simp only [qssmcff6.j6] at H
        have HC73 := Zs.mk H
        clear H
        go_upto_if 185 with (fail)
        go_cut [] (fun wc => ∃ (kq : Nat) (x0_72 : List Nat), Zs (qssmcff6.j7 kq x0_72 a1 a3 x18_55 x20_2 (wrap64 (x19_55 - x20_2)) = some r) ∧ Zs (kq ≤ kj70) ∧ Zs (Kd.R (Kd.scalar (Value.float .f64) (fun _ => rfl)) 23 wc w0.heap.size (fun k_ => (P0_ k_ ∨ w.heap.size ≤ k_)) u9000_ x0_72) ∧ Zs (Kept w wc (fun k_ => P0_ k_)) ∧ Zs (Below w0.heap.size w0 wc))
        case first =>
         have H := HC73.out
         clear HC73
         by_cases c74 : x185_70 = true
         ·subst c74
          have H1 : ((qsrcff6.f kj70 l0 x20_2 a2 (wrap64 (x19_55 - x20_2))).bind fun t118 => (qssmcff6.j7 kj70 t118 a1 a3 x18_55 x20_2 (wrap64 (x19_55 - x20_2)))) = some r := by rw [if_pos rfl] at H; exact H
          clear H
          have H := H1
          clear H1
          replace H := Option.bind_eq_some_iff.mp H
          obtain ⟨t118, A750, H⟩ := H
          replace H : (qssmcff6.j7 kj70 t118 a1 a3 x18_55 x20_2 (wrap64 (x19_55 - x20_2))) = some r := H
          have A75 := Zs.mk A750
          clear A750
          have H' := Zs.mk H
          clear H
          obtain ⟨Ao76, co76, eo76⟩ := Kd.R_slice HO_0.out
          subst eo76
          go_wp2_with (first | (go_at_call 191; (with_reducible refine (qsrcff6.calls kj70 (fun k_ => some k_ = (.slice Ao76 l0.length co76 : Value).ownBlock) (.slice Ao76 l0.length co76) l0 x20_2 a2 (wrap64 (x19_55 - x20_2))  t118 w0 _ ?side1 ?side2 A75.out).mono ?_); (case side1 => repeat (first | (with_reducible first | exact HB.out | apply zA | apply zB | apply zC) | exact HB.out)); (case side2 => exact Kd.R_tight rfl HO_0.out); rintro e w77 ⟨rfl, hy0, hb, hkp⟩; have n0_ := Zs.mk (Kd.R_reok rfl hy0 (fun k_ e_ => HO_0.out.1 k_ e_)); have n1_ := Zs.mk (Kept.then_ (S := (fun k_ => P0_ k_)) (by repeat (first | (with_reducible first | exact HK.out | apply Kept.alloc | apply Kept.drewN | apply Kept.drew) | exact HK.out)) hkp (fun k_ hs_ => (fun e_ => (HO_0.out.1 k_ e_.symm)) hs_)); have n2_ := Zs.mk (hb); clear HO_0; clear HK; clear HB; have HO_0 := n0_; have HK := n1_; have HB := n2_; clear n0_ n1_ n2_; (try clear hb); (try clear hkp); (try clear hy0)))
          go_meet
          case rel => exact ⟨_, (t118), H', ⟨by have := HJ55.out; have := HK2.out; have := HJ70.out; first | omega | exact Nat.le_refl _⟩, ⟨by (with_reducible repeat (first | apply Kd.R_alloc | apply Kd.R_drewN | apply Kd.R_drew)); exact HO_0.out⟩, ⟨by repeat (first | (with_reducible first | exact HK.out | apply Kept.alloc | apply Kept.drewN | apply Kept.drew) | exact HK.out)⟩, ⟨by repeat (first | (with_reducible first | exact HB.out | apply zA | apply zB | apply zC) | exact HB.out)⟩⟩
         ·replace c74 := Bool.eq_false_iff.mpr c74
          subst c74
          have H1 : (qssmcff6.j7 kj70 l0 a1 a3 x18_55 x20_2 (wrap64 (x19_55 - x20_2))) = some r := by rw [if_neg (show ¬ (false = true) by decide)] at H; exact H
          clear H
          have H := H1
          clear H1
          have H' := Zs.mk H
          clear H
          go_wp2
          go_meet
          case rel => exact ⟨_, (l0), H', ⟨by have := HJ55.out; have := HK2.out; have := HJ70.out; first | omega | exact Nat.le_refl _⟩, ⟨by (with_reducible repeat (first | apply Kd.R_alloc | apply Kd.R_drewN | apply Kd.R_drew)); exact HO_0.out⟩, ⟨by repeat (first | (with_reducible first | exact HK.out | apply Kept.alloc | apply Kept.drewN | apply Kept.drew) | exact HK.out)⟩, ⟨by repeat (first | (with_reducible first | exact HB.out | apply zA | apply zB | apply zC) | exact HB.out)⟩⟩
        case rest =>
         clear HC73
         try clear c6; try clear c6b0; try clear c6b1; try clear c31; try clear c31b0; try clear c31b1; try clear c57; try clear c57b0; try clear c58; try clear c58b0; try clear c60; try clear c60b0; try clear c61; try clear c61b0; try clear c63; try clear c63b0; try clear c64; try clear c64b0; try clear c66; try clear c66b0; try clear c72; try clear c72b0; try clear c74; try clear hx115_0; try clear hx116_0; try clear p115; try clear p116; try clear q115; try clear q116
         obtain ⟨kq, x0_72, HA, HJ72, HO_0, HK, HB⟩ := hcut
         cases kq with
         | zero => exact absurd HA.out (by simp [qssmcff6.j7])
         | succ kj72 =>
          have H := HA.out
          clear HA
          simp only [qssmcff6.j7] at H
          have HC78 := Zs.mk H
          clear H
          go_upto_region 41 with (fail)
          go_cut [199] (fun v199 wc => ∃ (kq : Nat) (x199_77 : Bool), v199 = .bool x199_77 ∧ Zs (qssmcff6.j8 kq x0_72 a1 a3 x18_55 x20_2 (wrap64 (x19_55 - x20_2)) x199_77 = some r) ∧ Zs (kq ≤ kj72) ∧ Zs (Kd.R (Kd.scalar (Value.float .f64) (fun _ => rfl)) 23 wc w0.heap.size (fun k_ => (P0_ k_ ∨ w.heap.size ≤ k_)) u9000_ x0_72) ∧ Zs (Kept w wc (fun k_ => P0_ k_)) ∧ Zs (Below w0.heap.size w0 wc))
          case first =>
           have H := HC78.out
           clear HC78
           by_cases c79 : a1 < x20_2
           ·rw [if_pos c79] at H
            have c79b0 : decide (a1 < x20_2) = true := decide_eq_true c79
            clear c79
            (first | rw [c79b0] | (simp only [i64_w, i32_w]; rw [c79b0]) | skip)
            have H' := Zs.mk H
            clear H
            go_wp2
            go_meet
            case rel => exact ⟨_, (decide (x20_2 < x18_55)), (by first | rfl | (simp; done) | (simp [*]; done)), H', ⟨by have := HJ55.out; have := HK2.out; have := HJ70.out; have := HJ72.out; first | omega | exact Nat.le_refl _⟩, ⟨by (with_reducible repeat (first | apply Kd.R_alloc | apply Kd.R_drewN | apply Kd.R_drew)); exact HO_0.out⟩, ⟨by repeat (first | (with_reducible first | exact HK.out | apply Kept.alloc | apply Kept.drewN | apply Kept.drew) | exact HK.out)⟩, ⟨by repeat (first | (with_reducible first | exact HB.out | apply zA | apply zB | apply zC) | exact HB.out)⟩⟩
           ·rw [if_neg c79] at H
            have c79b0 : decide (a1 < x20_2) = false := decide_eq_false c79
            clear c79
            (first | rw [c79b0] | (simp only [i64_w, i32_w]; rw [c79b0]) | skip)
            have H' := Zs.mk H
            clear H
            go_wp2
            go_meet
            case rel => exact ⟨_, (false), (by first | rfl | (simp; done) | (simp [*]; done)), H', ⟨by have := HJ55.out; have := HK2.out; have := HJ70.out; have := HJ72.out; first | omega | exact Nat.le_refl _⟩, ⟨by (with_reducible repeat (first | apply Kd.R_alloc | apply Kd.R_drewN | apply Kd.R_drew)); exact HO_0.out⟩, ⟨by repeat (first | (with_reducible first | exact HK.out | apply Kept.alloc | apply Kept.drewN | apply Kept.drew) | exact HK.out)⟩, ⟨by repeat (first | (with_reducible first | exact HB.out | apply zA | apply zB | apply zC) | exact HB.out)⟩⟩
          case rest =>
           clear HC78
           try clear c6; try clear c6b0; try clear c6b1; try clear c31; try clear c31b0; try clear c31b1; try clear c57; try clear c57b0; try clear c58; try clear c58b0; try clear c60; try clear c60b0; try clear c61; try clear c61b0; try clear c63; try clear c63b0; try clear c64; try clear c64b0; try clear c66; try clear c66b0; try clear c72; try clear c72b0; try clear c74; try clear c79; try clear c79b0; try clear hx115_0; try clear hx116_0; try clear p115; try clear p116; try clear q115; try clear q116
           obtain ⟨kq, x199_77, rfl, HA, HJ77, HO_0, HK, HB⟩ := hcut
           cases kq with
           | zero => exact absurd HA.out (by simp [qssmcff6.j8])
           | succ kj77 =>
            have H := HA.out
            clear HA
            simp only [qssmcff6.j8] at H
            by_cases c80 : x199_77 = true
            ·subst c80
             have H1 : ((qssmcff6.f kj77 x0_72 a1 x20_2 x18_55).bind fun t119 => (if x18_55 < (wrap64 (x19_55 - x20_2)) then (if (wrap64 (x19_55 - x20_2)) < a3 then ((qssmcff6.f kj77 t119 x18_55 (wrap64 (x19_55 - x20_2)) a3).bind fun t120 => (some t120)) else (some t119)) else (some t119))) = some r := by rw [if_pos rfl] at H; exact H
             clear H
             have H := H1
             clear H1
             replace H := Option.bind_eq_some_iff.mp H
             obtain ⟨t119, A810, H⟩ := H
             replace H : (if x18_55 < (wrap64 (x19_55 - x20_2)) then (if (wrap64 (x19_55 - x20_2)) < a3 then ((qssmcff6.f kj77 t119 x18_55 (wrap64 (x19_55 - x20_2)) a3).bind fun t120 => (some t120)) else (some t119)) else (some t119)) = some r := H
             have A81 := Zs.mk A810
             clear A810
             by_cases c82 : x18_55 < (wrap64 (x19_55 - x20_2))
             ·rw [if_pos c82] at H
              have c82b0 : decide (x18_55 < (wrap64 (x19_55 - x20_2))) = true := decide_eq_true c82
              clear c82
              by_cases c83 : (wrap64 (x19_55 - x20_2)) < a3
              ·rw [if_pos c83] at H
               have c83b0 : decide ((wrap64 (x19_55 - x20_2)) < a3) = true := decide_eq_true c83
               clear c83
               replace H := Option.bind_eq_some_iff.mp H
               obtain ⟨t120, A840, H⟩ := H
               replace H : (some t120) = some r := H
               have A84 := Zs.mk A840
               clear A840
               obtain rfl := Option.some.inj H
               obtain ⟨Ao85, co85, eo85⟩ := Kd.R_slice HO_0.out
               subst eo85
               go_wp2_with (first | (go_at_call 164; (with_reducible refine (ih kj77 (by have := HJ55.out; have := HK2.out; have := HJ70.out; have := HJ72.out; have := HJ77.out; omega) (fun k_ => some k_ = (.slice Ao85 x0_72.length co85 : Value).ownBlock) (.slice Ao85 x0_72.length co85) x0_72 a1 x20_2 x18_55  t119 w0 _ ?side1 ?side2 A81.out).mono ?_); (case side1 => repeat (first | (with_reducible first | exact HB.out | apply zA | apply zB | apply zC) | exact HB.out)); (case side2 => exact Kd.R_tight rfl HO_0.out); rintro e w86 ⟨rfl, hy0, hb, hkp⟩; have n0_ := Zs.mk (Kd.R_reok rfl hy0 (fun k_ e_ => HO_0.out.1 k_ e_)); have n1_ := Zs.mk (Kept.then_ (S := (fun k_ => P0_ k_)) (by repeat (first | (with_reducible first | exact HK.out | apply Kept.alloc | apply Kept.drewN | apply Kept.drew) | exact HK.out)) hkp (fun k_ hs_ => (fun e_ => (HO_0.out.1 k_ e_.symm)) hs_)); have n2_ := Zs.mk (hb); clear HO_0; clear HK; clear HB; have HO_0 := n0_; have HK := n1_; have HB := n2_; clear n0_ n1_ n2_; (try clear hb); (try clear hkp); (try clear hy0)) | (go_at_call 164; (with_reducible refine (ih kj77 (by have := HJ55.out; have := HK2.out; have := HJ70.out; have := HJ72.out; have := HJ77.out; omega) (fun k_ => some k_ = (.slice Ao85 x0_72.length co85 : Value).ownBlock) (.slice Ao85 x0_72.length co85) t119 x18_55 (wrap64 (x19_55 - x20_2)) a3  t120 w0 _ ?side1 ?side2 A84.out).mono ?_); (case side1 => repeat (first | (with_reducible first | exact HB.out | apply zA | apply zB | apply zC) | exact HB.out)); (case side2 => exact Kd.R_tight rfl HO_0.out); rintro e w87 ⟨rfl, hy0, hb, hkp⟩; have n0_ := Zs.mk (Kd.R_reok rfl hy0 (fun k_ e_ => HO_0.out.1 k_ e_)); have n1_ := Zs.mk (Kept.then_ (S := (fun k_ => P0_ k_)) (by repeat (first | (with_reducible first | exact HK.out | apply Kept.alloc | apply Kept.drewN | apply Kept.drew) | exact HK.out)) hkp (fun k_ hs_ => (fun e_ => (HO_0.out.1 k_ e_.symm)) hs_)); have n2_ := Zs.mk (hb); clear HO_0; clear HK; clear HB; have HO_0 := n0_; have HK := n1_; have HB := n2_; clear n0_ n1_ n2_; (try clear hb); (try clear hkp); (try clear hy0)))
               first | go_end0 | ((try simp only [Exit.inBlock, Exit.then]); refine bodyPost_ret (results_none rfl _ _ _) rfl ?_)
               exact ⟨by first | rfl | (simp [zE, zF] <;> rfl) | (simp [*, zE, zF] <;> rfl), by (with_reducible repeat (first | apply Kd.R_alloc | apply Kd.R_drewN | apply Kd.R_drew)); exact HO_0.out, by repeat (first | (with_reducible first | exact HB.out | apply zA | apply zB | apply zC) | exact HB.out), by repeat (first | (with_reducible first | exact HK.out | apply Kept.alloc | apply Kept.drewN | apply Kept.drew) | exact HK.out)⟩
              ·rw [if_neg c83] at H
               have c83b0 : decide ((wrap64 (x19_55 - x20_2)) < a3) = false := decide_eq_false c83
               clear c83
               obtain rfl := Option.some.inj H
               obtain ⟨Ao88, co88, eo88⟩ := Kd.R_slice HO_0.out
               subst eo88
               go_wp2_with (first | (go_at_call 164; (with_reducible refine (ih kj77 (by have := HJ55.out; have := HK2.out; have := HJ70.out; have := HJ72.out; have := HJ77.out; omega) (fun k_ => some k_ = (.slice Ao88 x0_72.length co88 : Value).ownBlock) (.slice Ao88 x0_72.length co88) x0_72 a1 x20_2 x18_55  t119 w0 _ ?side1 ?side2 A81.out).mono ?_); (case side1 => repeat (first | (with_reducible first | exact HB.out | apply zA | apply zB | apply zC) | exact HB.out)); (case side2 => exact Kd.R_tight rfl HO_0.out); rintro e w89 ⟨rfl, hy0, hb, hkp⟩; have n0_ := Zs.mk (Kd.R_reok rfl hy0 (fun k_ e_ => HO_0.out.1 k_ e_)); have n1_ := Zs.mk (Kept.then_ (S := (fun k_ => P0_ k_)) (by repeat (first | (with_reducible first | exact HK.out | apply Kept.alloc | apply Kept.drewN | apply Kept.drew) | exact HK.out)) hkp (fun k_ hs_ => (fun e_ => (HO_0.out.1 k_ e_.symm)) hs_)); have n2_ := Zs.mk (hb); clear HO_0; clear HK; clear HB; have HO_0 := n0_; have HK := n1_; have HB := n2_; clear n0_ n1_ n2_; (try clear hb); (try clear hkp); (try clear hy0)))
               first | go_end0 | ((try simp only [Exit.inBlock, Exit.then]); refine bodyPost_ret (results_none rfl _ _ _) rfl ?_)
               exact ⟨by first | rfl | (simp [zE, zF] <;> rfl) | (simp [*, zE, zF] <;> rfl), by (with_reducible repeat (first | apply Kd.R_alloc | apply Kd.R_drewN | apply Kd.R_drew)); exact HO_0.out, by repeat (first | (with_reducible first | exact HB.out | apply zA | apply zB | apply zC) | exact HB.out), by repeat (first | (with_reducible first | exact HK.out | apply Kept.alloc | apply Kept.drewN | apply Kept.drew) | exact HK.out)⟩
             ·rw [if_neg c82] at H
              have c82b0 : decide (x18_55 < (wrap64 (x19_55 - x20_2))) = false := decide_eq_false c82
              clear c82
              obtain rfl := Option.some.inj H
              obtain ⟨Ao90, co90, eo90⟩ := Kd.R_slice HO_0.out
              subst eo90
              go_wp2_with (first | (go_at_call 164; (with_reducible refine (ih kj77 (by have := HJ55.out; have := HK2.out; have := HJ70.out; have := HJ72.out; have := HJ77.out; omega) (fun k_ => some k_ = (.slice Ao90 x0_72.length co90 : Value).ownBlock) (.slice Ao90 x0_72.length co90) x0_72 a1 x20_2 x18_55  t119 w0 _ ?side1 ?side2 A81.out).mono ?_); (case side1 => repeat (first | (with_reducible first | exact HB.out | apply zA | apply zB | apply zC) | exact HB.out)); (case side2 => exact Kd.R_tight rfl HO_0.out); rintro e w91 ⟨rfl, hy0, hb, hkp⟩; have n0_ := Zs.mk (Kd.R_reok rfl hy0 (fun k_ e_ => HO_0.out.1 k_ e_)); have n1_ := Zs.mk (Kept.then_ (S := (fun k_ => P0_ k_)) (by repeat (first | (with_reducible first | exact HK.out | apply Kept.alloc | apply Kept.drewN | apply Kept.drew) | exact HK.out)) hkp (fun k_ hs_ => (fun e_ => (HO_0.out.1 k_ e_.symm)) hs_)); have n2_ := Zs.mk (hb); clear HO_0; clear HK; clear HB; have HO_0 := n0_; have HK := n1_; have HB := n2_; clear n0_ n1_ n2_; (try clear hb); (try clear hkp); (try clear hy0)))
              first | go_end0 | ((try simp only [Exit.inBlock, Exit.then]); refine bodyPost_ret (results_none rfl _ _ _) rfl ?_)
              exact ⟨by first | rfl | (simp [zE, zF] <;> rfl) | (simp [*, zE, zF] <;> rfl), by (with_reducible repeat (first | apply Kd.R_alloc | apply Kd.R_drewN | apply Kd.R_drew)); exact HO_0.out, by repeat (first | (with_reducible first | exact HB.out | apply zA | apply zB | apply zC) | exact HB.out), by repeat (first | (with_reducible first | exact HK.out | apply Kept.alloc | apply Kept.drewN | apply Kept.drew) | exact HK.out)⟩
            ·replace c80 := Bool.eq_false_iff.mpr c80
             subst c80
             have H1 : (if x18_55 < (wrap64 (x19_55 - x20_2)) then (if (wrap64 (x19_55 - x20_2)) < a3 then ((qssmcff6.f kj77 x0_72 x18_55 (wrap64 (x19_55 - x20_2)) a3).bind fun t121 => (some t121)) else (some x0_72)) else (some x0_72)) = some r := by rw [if_neg (show ¬ (false = true) by decide)] at H; exact H
             clear H
             have H := H1
             clear H1
             by_cases c92 : x18_55 < (wrap64 (x19_55 - x20_2))
             ·rw [if_pos c92] at H
              have c92b0 : decide (x18_55 < (wrap64 (x19_55 - x20_2))) = true := decide_eq_true c92
              clear c92
              by_cases c93 : (wrap64 (x19_55 - x20_2)) < a3
              ·rw [if_pos c93] at H
               have c93b0 : decide ((wrap64 (x19_55 - x20_2)) < a3) = true := decide_eq_true c93
               clear c93
               replace H := Option.bind_eq_some_iff.mp H
               obtain ⟨t121, A940, H⟩ := H
               replace H : (some t121) = some r := H
               have A94 := Zs.mk A940
               clear A940
               obtain rfl := Option.some.inj H
               obtain ⟨Ao95, co95, eo95⟩ := Kd.R_slice HO_0.out
               subst eo95
               go_wp2_with (first | (go_at_call 164; (with_reducible refine (ih kj77 (by have := HJ55.out; have := HK2.out; have := HJ70.out; have := HJ72.out; have := HJ77.out; omega) (fun k_ => some k_ = (.slice Ao95 x0_72.length co95 : Value).ownBlock) (.slice Ao95 x0_72.length co95) x0_72 x18_55 (wrap64 (x19_55 - x20_2)) a3  t121 w0 _ ?side1 ?side2 A94.out).mono ?_); (case side1 => repeat (first | (with_reducible first | exact HB.out | apply zA | apply zB | apply zC) | exact HB.out)); (case side2 => exact Kd.R_tight rfl HO_0.out); rintro e w96 ⟨rfl, hy0, hb, hkp⟩; have n0_ := Zs.mk (Kd.R_reok rfl hy0 (fun k_ e_ => HO_0.out.1 k_ e_)); have n1_ := Zs.mk (Kept.then_ (S := (fun k_ => P0_ k_)) (by repeat (first | (with_reducible first | exact HK.out | apply Kept.alloc | apply Kept.drewN | apply Kept.drew) | exact HK.out)) hkp (fun k_ hs_ => (fun e_ => (HO_0.out.1 k_ e_.symm)) hs_)); have n2_ := Zs.mk (hb); clear HO_0; clear HK; clear HB; have HO_0 := n0_; have HK := n1_; have HB := n2_; clear n0_ n1_ n2_; (try clear hb); (try clear hkp); (try clear hy0)))
               first | go_end0 | ((try simp only [Exit.inBlock, Exit.then]); refine bodyPost_ret (results_none rfl _ _ _) rfl ?_)
               exact ⟨by first | rfl | (simp [zE, zF] <;> rfl) | (simp [*, zE, zF] <;> rfl), by (with_reducible repeat (first | apply Kd.R_alloc | apply Kd.R_drewN | apply Kd.R_drew)); exact HO_0.out, by repeat (first | (with_reducible first | exact HB.out | apply zA | apply zB | apply zC) | exact HB.out), by repeat (first | (with_reducible first | exact HK.out | apply Kept.alloc | apply Kept.drewN | apply Kept.drew) | exact HK.out)⟩
              ·rw [if_neg c93] at H
               have c93b0 : decide ((wrap64 (x19_55 - x20_2)) < a3) = false := decide_eq_false c93
               clear c93
               obtain rfl := Option.some.inj H
               go_wp2
               first | go_end0 | ((try simp only [Exit.inBlock, Exit.then]); refine bodyPost_ret (results_none rfl _ _ _) rfl ?_)
               exact ⟨by first | rfl | (simp [zE, zF] <;> rfl) | (simp [*, zE, zF] <;> rfl), by (with_reducible repeat (first | apply Kd.R_alloc | apply Kd.R_drewN | apply Kd.R_drew)); exact HO_0.out, by repeat (first | (with_reducible first | exact HB.out | apply zA | apply zB | apply zC) | exact HB.out), by repeat (first | (with_reducible first | exact HK.out | apply Kept.alloc | apply Kept.drewN | apply Kept.drew) | exact HK.out)⟩
             ·rw [if_neg c92] at H
              have c92b0 : decide (x18_55 < (wrap64 (x19_55 - x20_2))) = false := decide_eq_false c92
              clear c92
              obtain rfl := Option.some.inj H
              go_wp2
              first | go_end0 | ((try simp only [Exit.inBlock, Exit.then]); refine bodyPost_ret (results_none rfl _ _ _) rfl ?_)
              exact ⟨by first | rfl | (simp [zE, zF] <;> rfl) | (simp [*, zE, zF] <;> rfl), by (with_reducible repeat (first | apply Kd.R_alloc | apply Kd.R_drewN | apply Kd.R_drew)); exact HO_0.out, by repeat (first | (with_reducible first | exact HB.out | apply zA | apply zB | apply zC) | exact HB.out), by repeat (first | (with_reducible first | exact HK.out | apply Kept.alloc | apply Kept.drewN | apply Kept.drew) | exact HK.out)⟩
set_option maxHeartbeats 8000000 in
set_option maxRecDepth 100000 in
theorem qssmcff6.calls (k : Nat) : ∀ (P0_ : Nat → Prop) (u9000_ : Value) (l0 : List Nat) (a1 : Int) (a2 : Int) (a3 : Int)  (r : List Nat) (w0 w : World) (hB : Below w0.heap.size w0 w) (ho0 : Kd.R (Kd.scalar (Value.float .f64) (fun _ => rfl)) 23 w w0.heap.size P0_ u9000_ l0) (h : qssmcff6.f k l0 a1 a2 a3 = some r),
  Calls Try.prog 164 #[u9000_, .int .i64 a1, .int .i64 a2, .int .i64 a3, .func (.func 52) #[] #[]] w fun e w' => e = .returned (.tuple #[]) ∧ Kd.R (Kd.scalar (Value.float .f64) (fun _ => rfl)) 23 w' w0.heap.size (fun k_ => (P0_ k_ ∨ w.heap.size ≤ k_)) u9000_ r ∧ Below w0.heap.size w0 w' ∧ Kept w w' (fun k_ => P0_ k_) := by
 induction k using Nat.strongRecOn with
 | _ k ih =>
 intro P0_ u9000_ l0 a1 a2 a3 r w0 w hB ho0 h
 cases k with
 | zero => exact absurd h (by simp [qssmcff6.f])
 | succ k =>
 by_cases c6 : (wrap64 (a2 - a1)) = 1
 ·exact qssmcff6.callsA k P0_ u9000_ l0 a1 a2 a3 r w0 w hB ho0 c6 h
 ·by_cases c31 : (wrap64 (a3 - a2)) = 1
  ·exact qssmcff6.callsB k P0_ u9000_ l0 a1 a2 a3 r w0 w hB ho0 c6 c31 h
  ·exact qssmcff6.callsC k ih P0_ u9000_ l0 a1 a2 a3 r w0 w hB ho0 c6 c31 h
end Go.Proofs.Ytkmbgfhkdopigaa.P
