/- Texts that the statement's proof leans on, part 8. -/
import Derived.Test.YtkmbgfhkdopigaaOS4
namespace Go.Proofs.Ytkmbgfhkdopigaa.P
open Go.RowKit Go.Proofs.YtkmbgfhkdopigaaW.PrintWords Go.Proofs.YtkmbgfhkdopigaaW.PrintLast Go.Proofs.YtkmbgfhkdopigaaW.PrintMore
attribute [local go_sem] max2_int min2_int max_two min_two max_three min_three max_four min_four
attribute [local go_sem] Go.Proofs.Ytkmbgfhkdopigaa.Fl.store_float Go.Proofs.Ytkmbgfhkdopigaa.Fl.call54 Go.Proofs.Ytkmbgfhkdopigaa.Fl.call22 Go.Proofs.Ytkmbgfhkdopigaa.Fl.call14 Go.Proofs.Ytkmbgfhkdopigaa.Fl.call28
set_option linter.unusedVariables false
set_option linter.unusedSimpArgs false
mutual
def qt0c.l0 : Nat → List Nat → List Nat → List Bool → Int → Option (Bool)
 | 0, _, _, _, _ => none
 | k + 1, x0, x1, x5, x6 => if x6 < (x0.length : Int) then (qt0c.l1 k x0 x1 x5 x6 false 0) else (some true)
def qt0c.l1 : Nat → List Nat → List Nat → List Bool → Int → Bool → Int → Option (Bool)
 | 0, _, _, _, _, _, _ => none
 | k + 1, x0, x1, x5, x6, x7, x8 => if x8 < (x1.length : Int) then (qt0c.j2 k x0 x1 x5 x6 x7 x8 (!x7)) else (qt0c.j2 k x0 x1 x5 x6 x7 x8 false)
def qt0c.j2 : Nat → List Nat → List Nat → List Bool → Int → Bool → Int → Bool → Option (Bool)
 | 0, _, _, _, _, _, _, _ => none
 | k + 1, x0, x1, x5, x6, x7, x8, x30 => if x30 = true then (if 0 ≤ x8 then (if x8 < (x5.length : Int) then (if rdOf false x5 x8 = true then (qt0c.l1 k x0 x1 x5 x6 x7 (wrap64 (x8 + 1))) else (if 0 ≤ x6 then (if x6 < (x0.length : Int) then (if x8 < (x1.length : Int) then (if ((rdOf (0 : Nat) x0 x6 : Nat) : Int) = ((rdOf (0 : Nat) x1 x8 : Nat) : Int) then (qt0c.l1 k x0 x1 (x5.set (x8 : Int).toNat true) x6 true (wrap64 (x8 + 1))) else (if ((FloatKind.format .f64).order (rdOf (0 : Nat) x0 x6) (rdOf (0 : Nat) x0 x6) != some .eq) = true then (if ((FloatKind.format .f64).order (rdOf (0 : Nat) x1 x8) (rdOf (0 : Nat) x1 x8) != some .eq) = true then (qt0c.l1 k x0 x1 (x5.set (x8 : Int).toNat true) x6 true (wrap64 (x8 + 1))) else (qt0c.l1 k x0 x1 x5 x6 x7 (wrap64 (x8 + 1)))) else (qt0c.l1 k x0 x1 x5 x6 x7 (wrap64 (x8 + 1))))) else (none)) else (none)) else (none))) else (none)) else (none)) else (if x7 = true then (qt0c.l0 k x0 x1 x5 (wrap64 (x6 + 1))) else (some false))
end
def qt0c.f (k : Nat) (l0 : List Nat) (l1 : List Nat) : Option (Bool) := if (l0.length : Int) = (l1.length : Int) then (if 0 ≤ (l1.length : Int) then (if ((l1.length : Int) : Int).toNat ≤ 281474976710656 then (qt0c.l0 k l0 l1 (List.replicate ((l1.length : Int) : Int).toNat false) 0) else (none)) else (none)) else (some false)
def qt0c.T11 : Bool × List (List Nat × List Nat) := (true, [([], []), ([], []), ([0, 1], [0, 1]), ([2], [2]), ([3], [3]), ([4], [4]), ([5], [5]), ([5], [5]), ([6, 7, 5], [5, 6, 7]), ([8, 5], [5, 8]), ([9, 5, 5], [5, 9]), ([5], [5]), ([5], [5]), ([11, 12, 5], [5, 11, 12]), ([13, 5], [5, 13]), ([14, 10, 5], [5, 14]), ([10, 15, 5], [5, 10, 15]), ([16, 15, 5], [5, 16]), ([17], [17]), ([17], [17]), ([18, 19, 17], [17, 18, 19]), ([20, 17], [17, 20]), ([17], [17]), ([17], [17]), ([22, 23, 17], [17, 22, 23]), ([24, 17], [17, 24]), ([21, 25, 17], [17, 21, 25]), ([26, 17, 17], [17, 26]), ([27], [27]), ([27], [27]), ([28, 29, 27], [27, 28, 29]), ([30, 27], [27, 30]), ([27], [27]), ([27], [27]), ([32, 33, 27], [27, 32, 33]), ([34, 27], [27, 34]), ([31, 35, 27], [27, 31, 35]), ([27, 36, 17], [17, 27, 36]), ([17, 37, 5], [5, 17, 37]), ([5, 38], [5, 38])])
def qt0c.B11 : List Nat := [0, 0, 3, 7, 15, 31, 63, 63, 255, 511, 1023, 63, 63, 6207, 14399, 32767, 65535, 131071, 262143, 262143, 1048575, 2097151, 262143, 262143, 12845055, 29622271, 67108863, 134217727, 268435455, 268435455, 1073741823, 2147483647, 268435455, 268435455, 13153337343, 30333206527, 68719476735, 137438953471, 274877906943, 549755813887]
theorem qt0c.tab11 : rtab .any (opsOf Try.f51 11) = qt0c.T11 := by kernel_rfl
theorem qt0c.bits11 : waitsOk qt0c.T11.2 qt0c.B11 = true := by kernel_rfl
set_option maxHeartbeats 8000000 in
set_option maxRecDepth 100000 in
theorem qt0c.calls (k : Nat) (A0 : Option Addr) (c0 : Nat) (l0 : List Nat) (A1 : Option Addr) (c1 : Nat) (l1 : List Nat) (r : Bool) (w : World) (hr0 : Kd.C (Kd.scalar (Value.float .f64) (fun _ => rfl)) w A0 l0.length l0) (hc0 : l0.length ≤ c0) (hr1 : Kd.C (Kd.scalar (Value.float .f64) (fun _ => rfl)) w A1 l1.length l1) (hc1 : l1.length ≤ c1) (h : qt0c.f k l0 l1 = some r) :
  Calls Try.prog 51 #[.slice A0 l0.length c0, .slice A1 l1.length c1] w fun e w' => e = .returned (.bool r) ∧ Below w.heap.size w w' := by
 have HR0 := Zs.mk hr0
 have HC0 := Zs.mk hc0
 clear hr0 hc0
 have HR1 := Zs.mk hr1
 have HC1 := Zs.mk hc1
 clear hr1 hc1
 have HB := Zs.mk (Below.refl w.heap.size w)
 have H : (if (l0.length : Int) = (l1.length : Int) then (if 0 ≤ (l1.length : Int) then (if ((l1.length : Int) : Int).toNat ≤ 281474976710656 then (qt0c.l0 k l0 l1 (List.replicate ((l1.length : Int) : Int).toNat false) 0) else (none)) else (none)) else (some false)) = some r := h
 clear h
 by_cases c3 : (l0.length : Int) = (l1.length : Int)
 ·rw [if_pos c3] at H
  have c3b0 : ((l0.length : Int) == (l1.length : Int)) = true := beq_iff_eq.mpr c3
  have c3b1 : ((l0.length : Int) != (l1.length : Int)) = false := bne_eq_false_iff_eq.mpr c3
  have c3b2 : (l0.length == l1.length) = true := by first | simpa using c3 | (simp at c3 ⊢; omega)
  clear c3
  by_cases c4 : 0 ≤ (l1.length : Int)
  ·rw [if_pos c4] at H
   have c4b0 := eq_true c4
   have c4b1 : decide (0 ≤ (l1.length : Int)) = true := decide_eq_true c4
   clear c4
   by_cases c5 : ((l1.length : Int) : Int).toNat ≤ 281474976710656
   ·rw [if_pos c5] at H
    have c5b0 := eq_true c5
    have c5b1 : decide (((l1.length : Int) : Int).toNat ≤ 281474976710656) = true := decide_eq_true c5
    clear c5
    obtain ⟨y101, hy101⟩ : ∃ y_ : List Bool, y_ = (List.replicate ((l1.length : Int) : Int).toNat false) := ⟨_, rfl⟩
    replace H : (qt0c.l0 k l0 l1 y101 0) = some r := by first | (rw [hy101]; with_reducible exact H) | (have H2_ := (Option.bind_some _ _).symm.trans H; rw [hy101]; with_reducible exact H2_) | (have H2_ := (Option.bind_some _ _).symm.trans H; with_reducible exact H2_) | with_reducible exact H | (rw [hy101]; exact H) | exact H
    have Ny101 := Zs.mk hy101
    clear hy101
    have H' := Zs.mk H
    clear H
    go_enter Try.func51, Try.ntmps51
    go_wp2_with (first | ((with_reducible refine gate_dst (N := 16) rfl ?_); refine Kd.R_make Kd.bool _ 4 rfl (N := 16) rfl 71 _ _ rfl (l1.length : Int) rfl rfl Try.underlying71 (.bool false) 1 info4 rfl (by decide) (by omega) false (ok := fun _ => True) (okp := fun _ => True) rfl (fun _ hk => hk) trivial (of_decide_eq_true (by first | (with_reducible assumption) | assumption)) (Nat.le_trans (Nat.mul_le_mul_right _ (of_decide_eq_true (by first | (with_reducible assumption) | assumption) : (l1.length : Int).toNat ≤ 281474976710656)) (by omega)) (Below.refl _ _) (Nat.le_refl _) ?_; intro v102 w6 ho7 hb hg_ hnew_; clear hg_ hnew_; (first | rw [← Ny101.out] at ho7 | (simp only [Int.reduceToNat] at ho7; rw [← Ny101.out] at ho7)); have n0_ := Zs.mk (Kd.R_lower ho7 (below_size (by repeat (first | (with_reducible first | exact HB.out | apply zA | apply zB | apply zC) | exact HB.out)))); have n1_ := Zs.mk (below_step (by repeat (first | (with_reducible first | exact HB.out | apply zA | apply zB | apply zC) | exact HB.out)) hb); clear HB; have HO103 := n0_; have HB := n1_; clear n0_ n1_; clear hb ho7))
    go_loopg [6] k (fun kq v6 w' => ∃ (x5_1 : List Bool) (x6_1 : Int), v6 = .int .i64 x6_1 ∧ Zs (qt0c.l0 kq l0 l1 x5_1 x6_1 = some r) ∧ Zs (kq ≤ k) ∧ Zs (Kd.R Kd.bool 4 w' w.heap.size (fun _ => True) v102 x5_1) ∧ Zs (Below w.heap.size w w'))
    case atStart => exact ⟨(y101), (0), (by first | rfl | (simp; done) | (simp [*]; done)), H', ⟨Nat.le_refl _⟩, ⟨by (with_reducible repeat (first | apply Kd.R_alloc | apply Kd.R_drewN | apply Kd.R_drew)); exact HO103.out⟩, ⟨by repeat (first | (with_reducible first | exact HB.out | apply zA | apply zB | apply zC) | exact HB.out)⟩⟩
    case round =>
     clear H'
     try clear c1; try clear c3; try clear c3b0; try clear c3b1; try clear c3b2; try clear c4; try clear c4b0; try clear c4b1; try clear c5; try clear c5b0; try clear c5b1
     obtain ⟨x5_1, x6_1, rfl, HA, HK1, HO_5, HB⟩ := hrel
     cases gk with
     | zero => exact absurd HA.out (by simp [qt0c.l0])
     | succ k1 =>
      have H := HA.out
      clear HA
      simp only [qt0c.l0] at H
      by_cases c8 : x6_1 < (l0.length : Int)
      ·rw [if_pos c8] at H
       have c8b0 : decide (x6_1 < (l0.length : Int)) = true := decide_eq_true c8
       clear c8
       have H' := Zs.mk H
       clear H
       go_wp2
       go_loopg [7, 8] k1 (fun kq v7 v8 w' => ∃ (x5_2 : List Bool) (x7_2 : Bool) (x8_2 : Int), v7 = .bool x7_2 ∧ v8 = .int .i64 x8_2 ∧ Zs (qt0c.l1 kq l0 l1 x5_2 x6_1 x7_2 x8_2 = some r) ∧ Zs (kq ≤ k1) ∧ Zs (Kd.R Kd.bool 4 w' w.heap.size (fun _ => True) v102 x5_2) ∧ Zs (Below w.heap.size w w'))
       case atStart => exact ⟨(x5_1), (false), (0), (by first | rfl | (simp; done) | (simp [*]; done)), (by first | rfl | (simp; done) | (simp [*]; done)), H', ⟨Nat.le_refl _⟩, ⟨by (with_reducible repeat (first | apply Kd.R_alloc | apply Kd.R_drewN | apply Kd.R_drew)); exact HO_5.out⟩, ⟨by repeat (first | (with_reducible first | exact HB.out | apply zA | apply zB | apply zC) | exact HB.out)⟩⟩
       case round =>
        clear H'
        try clear c1; try clear c3; try clear c3b0; try clear c3b1; try clear c3b2; try clear c4; try clear c4b0; try clear c4b1; try clear c5; try clear c5b0; try clear c5b1; try clear c8; try clear c8b0
        obtain ⟨x5_2, x7_2, x8_2, rfl, rfl, HA, HK2, HO_5, HB⟩ := hrel
        cases gk with
        | zero => exact absurd HA.out (by simp [qt0c.l1])
        | succ k2 =>
         have H := HA.out
         clear HA
         simp only [qt0c.l1] at H
         have HC9 := Zs.mk H
         clear H
         go_upto_region 9 with (fail)
         go_cut [30] (fun v30 wc => ∃ (kq : Nat) (x30_8 : Bool), v30 = .bool x30_8 ∧ Zs (qt0c.j2 kq l0 l1 x5_2 x6_1 x7_2 x8_2 x30_8 = some r) ∧ Zs (kq ≤ k2) ∧ Zs (Kd.R Kd.bool 4 wc w.heap.size (fun _ => True) v102 x5_2) ∧ Zs (Below w.heap.size w wc))
         case first =>
          have H := HC9.out
          clear HC9
          by_cases c10 : x8_2 < (l1.length : Int)
          ·rw [if_pos c10] at H
           have c10b0 : decide (x8_2 < (l1.length : Int)) = true := decide_eq_true c10
           clear c10
           (first | rw [c10b0] | (simp only [i64_w, i32_w]; rw [c10b0]) | skip)
           have H' := Zs.mk H
           clear H
           go_wp2
           go_meet
           case rel => exact ⟨_, (!x7_2), (by first | rfl | (simp; done) | (simp [*]; done)), H', ⟨by have := HK1.out; have := HK2.out; first | omega | exact Nat.le_refl _⟩, ⟨by (with_reducible repeat (first | apply Kd.R_alloc | apply Kd.R_drewN | apply Kd.R_drew)); exact HO_5.out⟩, ⟨by repeat (first | (with_reducible first | exact HB.out | apply zA | apply zB | apply zC) | exact HB.out)⟩⟩
          ·rw [if_neg c10] at H
           have c10b0 : decide (x8_2 < (l1.length : Int)) = false := decide_eq_false c10
           clear c10
           (first | rw [c10b0] | (simp only [i64_w, i32_w]; rw [c10b0]) | skip)
           have H' := Zs.mk H
           clear H
           go_wp2
           go_meet
           case rel => exact ⟨_, (false), (by first | rfl | (simp; done) | (simp [*]; done)), H', ⟨by have := HK1.out; have := HK2.out; first | omega | exact Nat.le_refl _⟩, ⟨by (with_reducible repeat (first | apply Kd.R_alloc | apply Kd.R_drewN | apply Kd.R_drew)); exact HO_5.out⟩, ⟨by repeat (first | (with_reducible first | exact HB.out | apply zA | apply zB | apply zC) | exact HB.out)⟩⟩
         case rest =>
          clear HC9
          try clear c1; try clear c3; try clear c3b0; try clear c3b1; try clear c3b2; try clear c4; try clear c4b0; try clear c4b1; try clear c5; try clear c5b0; try clear c5b1; try clear c8; try clear c8b0; try clear c10; try clear c10b0
          obtain ⟨kq, x30_8, rfl, HA, HJ8, HO_5, HB⟩ := hcut
          cases kq with
          | zero => exact absurd HA.out (by simp [qt0c.j2])
          | succ kj8 =>
           have H := HA.out
           clear HA
           simp only [qt0c.j2] at H
           by_cases c11 : x30_8 = true
           ·subst c11
            have H1 : (if 0 ≤ x8_2 then (if x8_2 < (x5_2.length : Int) then (if rdOf false x5_2 x8_2 = true then (qt0c.l1 kj8 l0 l1 x5_2 x6_1 x7_2 (wrap64 (x8_2 + 1))) else (if 0 ≤ x6_1 then (if x6_1 < (l0.length : Int) then (if x8_2 < (l1.length : Int) then (if ((rdOf (0 : Nat) l0 x6_1 : Nat) : Int) = ((rdOf (0 : Nat) l1 x8_2 : Nat) : Int) then (qt0c.l1 kj8 l0 l1 (x5_2.set (x8_2 : Int).toNat true) x6_1 true (wrap64 (x8_2 + 1))) else (if ((FloatKind.format .f64).order (rdOf (0 : Nat) l0 x6_1) (rdOf (0 : Nat) l0 x6_1) != some .eq) = true then (if ((FloatKind.format .f64).order (rdOf (0 : Nat) l1 x8_2) (rdOf (0 : Nat) l1 x8_2) != some .eq) = true then (qt0c.l1 kj8 l0 l1 (x5_2.set (x8_2 : Int).toNat true) x6_1 true (wrap64 (x8_2 + 1))) else (qt0c.l1 kj8 l0 l1 x5_2 x6_1 x7_2 (wrap64 (x8_2 + 1)))) else (qt0c.l1 kj8 l0 l1 x5_2 x6_1 x7_2 (wrap64 (x8_2 + 1))))) else (none)) else (none)) else (none))) else (none)) else (none)) = some r := by rw [if_pos rfl] at H; exact H
            clear H
            have H := H1
            clear H1
            by_cases c12 : 0 ≤ x8_2
            ·rw [if_pos c12] at H
             have c12b0 : decide (0 ≤ x8_2) = true := decide_eq_true c12
             clear c12
             by_cases c13 : x8_2 < (x5_2.length : Int)
             ·rw [if_pos c13] at H
              have c13b0 : decide (x8_2 < (x5_2.length : Int)) = true := decide_eq_true c13
              clear c13
              obtain ⟨bq14, hbq14⟩ : ∃ b_ : Bool, b_ = (rdOf false x5_2 x8_2) := ⟨_, rfl⟩
              replace H : (if bq14 = true then (qt0c.l1 kj8 l0 l1 x5_2 x6_1 x7_2 (wrap64 (x8_2 + 1))) else (if 0 ≤ x6_1 then (if x6_1 < (l0.length : Int) then (if x8_2 < (l1.length : Int) then (if ((rdOf (0 : Nat) l0 x6_1 : Nat) : Int) = ((rdOf (0 : Nat) l1 x8_2 : Nat) : Int) then (qt0c.l1 kj8 l0 l1 (x5_2.set (x8_2 : Int).toNat true) x6_1 true (wrap64 (x8_2 + 1))) else (if ((FloatKind.format .f64).order (rdOf (0 : Nat) l0 x6_1) (rdOf (0 : Nat) l0 x6_1) != some .eq) = true then (if ((FloatKind.format .f64).order (rdOf (0 : Nat) l1 x8_2) (rdOf (0 : Nat) l1 x8_2) != some .eq) = true then (qt0c.l1 kj8 l0 l1 (x5_2.set (x8_2 : Int).toNat true) x6_1 true (wrap64 (x8_2 + 1))) else (qt0c.l1 kj8 l0 l1 x5_2 x6_1 x7_2 (wrap64 (x8_2 + 1)))) else (qt0c.l1 kj8 l0 l1 x5_2 x6_1 x7_2 (wrap64 (x8_2 + 1))))) else (none)) else (none)) else (none))) = some r := by rw [← hbq14] at H; exact H
              have Nbq14 := Zs.mk hbq14
              clear hbq14
              by_cases c15 : bq14 = true
              ·subst c15
               have H1 : (qt0c.l1 kj8 l0 l1 x5_2 x6_1 x7_2 (wrap64 (x8_2 + 1))) = some r := by rw [if_pos rfl] at H; exact H
               clear H
               have H := H1
               clear H1
               have H' := Zs.mk H
               clear H
               try go_wp2
               have n0_ := Zs.mk (Kd.R_drew HO_5.out)
               have n1_ := Zs.mk (zC HB.out)
               clear HO_5
               clear HB
               have HO_5 := n0_
               have HB := n1_
               clear n0_ n1_
               obtain ⟨Ao17, co17, eo17⟩ := Kd.R_slice HO_5.out
               (first | subst eo17 | (injection eo17 with f1_ f2_ f3_; have f4_ := f1_.symm; have f5_ := f3_.symm; clear f1_ f2_ f3_; subst f4_; subst f5_))
               have p104 : 0 ≤ (x8_2 : Int) := of_decide_eq_true (by first | (with_reducible assumption) | assumption)
               have q104 : x8_2 < (x5_2.length : Int) := of_decide_eq_true (by first | (with_reducible assumption) | assumption)
               obtain ⟨ad104, e104, hx104_0⟩ := Kd.at_bool (Kd.R_reads' HO_5.out).2.2 x8_2 p104 q104
               (try rw [← Nbq14.out] at hx104_0)
               cases e104
               replace p104 := eq_true p104
               replace q104 := eq_true q104
               refine start_ (n := 40) (S := fun w' => w'.cell? (ad104.add (x8_2).toNat) = some (.bool true)) (ds := []) (ba 40 0) (by kernel_rfl) rfl rfl (hx104_0) (fun hHeld => ?_); refine zT qt0c.tab11 qt0c.bits11 (fun HT_ HW_ => ?_)
               generalize wc.drew = w16 at HO_5 HB hx104_0 hHeld ⊢
               refine' pu 0 (some 33) (ba 40 1) HT_ rfl rfl (by kernel_rfl) (fun _ _ _ => id) ?_ ?_ ?_ <| pu 1 (some 34) (ba 40 3) HT_ rfl rfl (by kernel_rfl) (fun _ _ _ => id) ?_ ?_ ?_ <| pu 2 (some 35) (ba 40 7) HT_ rfl rfl (by kernel_rfl) (fun _ _ _ => id) ?_ ?_ ?_ <| ta 3 (some 36) (ba 40 15) HT_ HW_ rfl rfl (by kernel_rfl) (fun _ _ _ => id) ?_ ?_ hHeld ?_ <| pu 4 (some 37) (ba 40 31) HT_ rfl rfl (by kernel_rfl) (fun _ _ _ => id) ?_ ?_ ?_ <| pu 5 (some 38) (ba 40 63) HT_ rfl rfl (by kernel_rfl) (fun _ _ _ => id) ?_ ?_ ?_ <| un 6 (some 39) (ba 40 127) HT_ rfl rfl (by kernel_rfl) (fun _ _ _ => id) ?_ ?_ <| un 7 (some 40) (ba 40 255) HT_ rfl rfl (by kernel_rfl) (fun _ _ _ => id) ?_ ?_ <| un 8 (some 41) (ba 40 511) HT_ rfl rfl (by kernel_rfl) (fun _ _ _ => id) ?_ ?_ <| un 9 (some 42) (ba 40 1023) HT_ rfl rfl (by kernel_rfl) (fun _ _ _ => id) ?_ ?_ <| un 10 (some 43) (ba 40 2047) HT_ rfl rfl (by kernel_rfl) (fun _ _ _ => id) ?_ ?_ <| un 11 (some 44) (ba 40 4095) HT_ rfl rfl (by kernel_rfl) (fun _ _ _ => id) ?_ ?_ <| un 12 (some 45) (ba 40 8191) HT_ rfl rfl (by kernel_rfl) (fun _ _ _ => id) ?_ ?_ <| un 13 (some 46) (ba 40 16383) HT_ rfl rfl (by kernel_rfl) (fun _ _ _ => id) ?_ ?_ <| un 14 (some 47) (ba 40 32767) HT_ rfl rfl (by kernel_rfl) (fun _ _ _ => id) ?_ ?_ <| un 15 (some 48) (ba 40 65535) HT_ rfl rfl (by kernel_rfl) (fun _ _ _ => id) ?_ ?_ <| un 16 (some 49) (ba 40 131071) HT_ rfl rfl (by kernel_rfl) (fun _ _ _ => id) ?_ ?_ <| un 17 (some 50) (ba 40 262143) HT_ rfl rfl (by kernel_rfl) (fun _ _ _ => id) ?_ ?_ <| un 18 (some 51) (ba 40 524287) HT_ rfl rfl (by kernel_rfl) (fun _ _ _ => id) ?_ ?_ <| un 19 (some 52) (ba 40 1048575) HT_ rfl rfl (by kernel_rfl) (fun _ _ _ => id) ?_ ?_ <| un 20 (some 53) (ba 40 2097151) HT_ rfl rfl (by kernel_rfl) (fun _ _ _ => id) ?_ ?_ <| un 21 (some 54) (ba 40 4194303) HT_ rfl rfl (by kernel_rfl) (fun _ _ _ => id) ?_ ?_ <| un 22 (some 55) (ba 40 8388607) HT_ rfl rfl (by kernel_rfl) (fun _ _ _ => id) ?_ ?_ <| un 23 (some 56) (ba 40 16777215) HT_ rfl rfl (by kernel_rfl) (fun _ _ _ => id) ?_ ?_ <| un 24 (some 57) (ba 40 33554431) HT_ rfl rfl (by kernel_rfl) (fun _ _ _ => id) ?_ ?_ <| un 25 (some 58) (ba 40 67108863) HT_ rfl rfl (by kernel_rfl) (fun _ _ _ => id) ?_ ?_ <| un 26 (some 59) (ba 40 134217727) HT_ rfl rfl (by kernel_rfl) (fun _ _ _ => id) ?_ ?_ <| un 27 (some 60) (ba 40 268435455) HT_ rfl rfl (by kernel_rfl) (fun _ _ _ => id) ?_ ?_ <| un 28 (some 61) (ba 40 536870911) HT_ rfl rfl (by kernel_rfl) (fun _ _ _ => id) ?_ ?_ <| un 29 (some 62) (ba 40 1073741823) HT_ rfl rfl (by kernel_rfl) (fun _ _ _ => id) ?_ ?_ <| un 30 (some 63) (ba 40 2147483647) HT_ rfl rfl (by kernel_rfl) (fun _ _ _ => id) ?_ ?_ <| un 31 (some 64) (ba 40 4294967295) HT_ rfl rfl (by kernel_rfl) (fun _ _ _ => id) ?_ ?_ <| un 32 (some 65) (ba 40 8589934591) HT_ rfl rfl (by kernel_rfl) (fun _ _ _ => id) ?_ ?_ <| un 33 (some 66) (ba 40 17179869183) HT_ rfl rfl (by kernel_rfl) (fun _ _ _ => id) ?_ ?_ <| un 34 (some 67) (ba 40 34359738367) HT_ rfl rfl (by kernel_rfl) (fun _ _ _ => id) ?_ ?_ <| un 35 (some 68) (ba 40 68719476735) HT_ rfl rfl (by kernel_rfl) (fun _ _ _ => id) ?_ ?_ <| un 36 (some 69) (ba 40 137438953471) HT_ rfl rfl (by kernel_rfl) (fun _ _ _ => id) ?_ ?_ <| un 37 (some 70) (ba 40 274877906943) HT_ rfl rfl (by kernel_rfl) (fun _ _ _ => id) ?_ ?_ <| un 38 (some 71) (ba 40 549755813887) HT_ rfl rfl (by kernel_rfl) (fun _ _ _ => id) ?_ ?_ <| pu 39 (some 72) (ba 40 1099511627775) HT_ rfl rfl (by kernel_rfl) (fun _ _ _ => id) ?_ ?_ ?_ <| ?_
               any_goals (first | (show Region.wanted _ _ = _; rfl) | (intro w' s0; go_simp; with_reducible rfl) | (intro w'; go_simp; with_reducible rfl) | (simp only [Act.put, List.setIfInBounds_toArray, List.set_cons_zero, List.set_cons_succ, i64_w, i32_w]; rfl))
               refine done_ (done_of HT_.out (by kernel_rfl)) ?_
               try go_wp2
               go_roundg kj8
               case measure => have := HK1.out; have := HK2.out; have := HJ8.out; omega
               case rel => exact ⟨(x5_2), (x7_2), (wrap64 (x8_2 + 1)), (by first | rfl | (simp; done) | (simp [*]; done)), (by first | rfl | (simp; done) | (simp [*]; done)), H', ⟨by have := HK1.out; have := HK2.out; have := HJ8.out; omega⟩, ⟨by (with_reducible repeat (first | apply Kd.R_alloc | apply Kd.R_drewN | apply Kd.R_drew)); exact HO_5.out⟩, ⟨by repeat (first | (with_reducible first | exact HB.out | apply zA | apply zB | apply zC) | exact HB.out)⟩⟩
              ·replace c15 := Bool.eq_false_iff.mpr c15
               subst c15
               have H1 : (if 0 ≤ x6_1 then (if x6_1 < (l0.length : Int) then (if x8_2 < (l1.length : Int) then (if ((rdOf (0 : Nat) l0 x6_1 : Nat) : Int) = ((rdOf (0 : Nat) l1 x8_2 : Nat) : Int) then (qt0c.l1 kj8 l0 l1 (x5_2.set (x8_2 : Int).toNat true) x6_1 true (wrap64 (x8_2 + 1))) else (if ((FloatKind.format .f64).order (rdOf (0 : Nat) l0 x6_1) (rdOf (0 : Nat) l0 x6_1) != some .eq) = true then (if ((FloatKind.format .f64).order (rdOf (0 : Nat) l1 x8_2) (rdOf (0 : Nat) l1 x8_2) != some .eq) = true then (qt0c.l1 kj8 l0 l1 (x5_2.set (x8_2 : Int).toNat true) x6_1 true (wrap64 (x8_2 + 1))) else (qt0c.l1 kj8 l0 l1 x5_2 x6_1 x7_2 (wrap64 (x8_2 + 1)))) else (qt0c.l1 kj8 l0 l1 x5_2 x6_1 x7_2 (wrap64 (x8_2 + 1))))) else (none)) else (none)) else (none)) = some r := by rw [if_neg (show ¬ (false = true) by decide)] at H; exact H
               clear H
               have H := H1
               clear H1
               by_cases c18 : 0 ≤ x6_1
               ·rw [if_pos c18] at H
                have c18b0 : decide (0 ≤ x6_1) = true := decide_eq_true c18
                clear c18
                by_cases c19 : x6_1 < (l0.length : Int)
                ·rw [if_pos c19] at H
                 have c19b0 : decide (x6_1 < (l0.length : Int)) = true := decide_eq_true c19
                 clear c19
                 by_cases c20 : x8_2 < (l1.length : Int)
                 ·rw [if_pos c20] at H
                  have c20b0 : decide (x8_2 < (l1.length : Int)) = true := decide_eq_true c20
                  clear c20
                  by_cases c21 : ((rdOf (0 : Nat) l0 x6_1 : Nat) : Int) = ((rdOf (0 : Nat) l1 x8_2 : Nat) : Int)
                  ·rw [if_pos c21] at H
                   have c21b0 : (((rdOf (0 : Nat) l0 x6_1 : Nat) : Int) == ((rdOf (0 : Nat) l1 x8_2 : Nat) : Int)) = true := beq_iff_eq.mpr c21
                   have c21b1 : (((rdOf (0 : Nat) l0 x6_1 : Nat) : Int) != ((rdOf (0 : Nat) l1 x8_2 : Nat) : Int)) = false := bne_eq_false_iff_eq.mpr c21
                   clear c21
                   obtain ⟨y107, hy107⟩ : ∃ y_ : List Bool, y_ = (x5_2.set (x8_2 : Int).toNat true) := ⟨_, rfl⟩
                   replace H : (qt0c.l1 kj8 l0 l1 y107 x6_1 true (wrap64 (x8_2 + 1))) = some r := by first | (rw [hy107]; with_reducible exact H) | (have H2_ := (Option.bind_some _ _).symm.trans H; rw [hy107]; with_reducible exact H2_) | (have H2_ := (Option.bind_some _ _).symm.trans H; with_reducible exact H2_) | with_reducible exact H | (rw [hy107]; exact H) | exact H
                   have Ny107 := Zs.mk hy107
                   clear hy107
                   have H' := Zs.mk H
                   clear H
                   try go_wp2
                   have n0_ := Zs.mk (Kd.R_drew HO_5.out)
                   have n1_ := Zs.mk (zC HB.out)
                   clear HO_5
                   clear HB
                   have HO_5 := n0_
                   have HB := n1_
                   clear n0_ n1_
                   obtain ⟨Ao24, co24, eo24⟩ := Kd.R_slice HO_5.out
                   (first | subst eo24 | (injection eo24 with f1_ f2_ f3_; have f4_ := f1_.symm; have f5_ := f3_.symm; clear f1_ f2_ f3_; subst f4_; subst f5_))
                   have p104 : 0 ≤ (x8_2 : Int) := of_decide_eq_true (by first | (with_reducible assumption) | assumption)
                   have q104 : x8_2 < (x5_2.length : Int) := of_decide_eq_true (by first | (with_reducible assumption) | assumption)
                   obtain ⟨ad104, e104, hx104_0⟩ := Kd.at_bool (Kd.R_reads' HO_5.out).2.2 x8_2 p104 q104
                   (try rw [← Nbq14.out] at hx104_0)
                   cases e104
                   replace p104 := eq_true p104
                   replace q104 := eq_true q104
                   have p105 : 0 ≤ (x6_1 : Int) := of_decide_eq_true (by first | (with_reducible assumption) | assumption)
                   have q105 : x6_1 < (l0.length : Int) := of_decide_eq_true (by first | (with_reducible assumption) | assumption)
                   obtain ⟨ad105, e105, hx105_0⟩ := Kd.at_flo HR0.out x6_1 p105 q105
                   have hw105_0 := hx105_0
                   cases e105
                   replace hx105_0 := (HB.out.cell (World.block_lt_of_cell? w _ hx105_0)).trans hx105_0
                   replace p105 := eq_true p105
                   replace q105 := eq_true q105
                   have p106 : 0 ≤ (x8_2 : Int) := of_decide_eq_true (by first | (with_reducible assumption) | assumption)
                   have q106 : x8_2 < (l1.length : Int) := of_decide_eq_true (by first | (with_reducible assumption) | assumption)
                   obtain ⟨ad106, e106, hx106_0⟩ := Kd.at_flo HR1.out x8_2 p106 q106
                   have hw106_0 := hx106_0
                   cases e106
                   replace hx106_0 := (HB.out.cell (World.block_lt_of_cell? w _ hx106_0)).trans hx106_0
                   replace p106 := eq_true p106
                   replace q106 := eq_true q106
                   refine start_ (n := 40) (S := fun w' => w'.cell? (ad104.add (x8_2).toNat) = some (.bool false) ∧ w'.cell? (ad105.add (x6_1).toNat) = some (.float .f64 (rdOf (0 : Nat) l0 x6_1)) ∧ w'.cell? (ad106.add (x8_2).toNat) = some (.float .f64 (rdOf (0 : Nat) l1 x8_2))) (ds := []) (ba 40 0) (by kernel_rfl) rfl rfl ⟨hx104_0, ((HB.out.cell (World.block_lt_of_cell? w _ hw105_0)).trans hw105_0), ((HB.out.cell (World.block_lt_of_cell? w _ hw106_0)).trans hw106_0)⟩ (fun hHeld => ?_); refine zT qt0c.tab11 qt0c.bits11 (fun HT_ HW_ => ?_)
                   generalize wc.drew = w23 at HO_5 HB hx104_0 hx105_0 hx106_0 hHeld ⊢
                   refine' pu 0 (some 33) (ba 40 1) HT_ rfl rfl (by kernel_rfl) (fun _ _ _ => id) ?_ ?_ ?_ <| pu 1 (some 34) (ba 40 3) HT_ rfl rfl (by kernel_rfl) (fun _ _ _ => id) ?_ ?_ ?_ <| pu 2 (some 35) (ba 40 7) HT_ rfl rfl (by kernel_rfl) (fun _ _ _ => id) ?_ ?_ ?_ <| ta 3 (some 36) (ba 40 15) HT_ HW_ rfl rfl (by kernel_rfl) (fun _ _ _ => id) ?_ ?_ hHeld ?_ <| pu 4 (some 37) (ba 40 31) HT_ rfl rfl (by kernel_rfl) (fun _ _ _ => id) ?_ ?_ ?_ <| pu 5 (some 38) (ba 40 63) HT_ rfl rfl (by kernel_rfl) (fun _ _ _ => id) ?_ ?_ ?_ <| pu 6 (some 39) (ba 40 127) HT_ rfl rfl (by kernel_rfl) (fun _ _ _ => id) ?_ ?_ ?_ <| pu 7 (some 40) (ba 40 255) HT_ rfl rfl (by kernel_rfl) (fun _ _ _ => id) ?_ ?_ ?_ <| pu 8 (some 41) (ba 40 511) HT_ rfl rfl (by kernel_rfl) (fun _ _ _ => id) ?_ ?_ ?_ <| pu 11 (some 44) (ba 40 2559) HT_ rfl rfl (by kernel_rfl) (fun _ _ _ => id) ?_ ?_ ?_ <| pu 12 (some 45) (ba 40 6655) HT_ rfl rfl (by kernel_rfl) (fun _ _ _ => id) ?_ ?_ ?_ <| pu 13 (some 46) (ba 40 14847) HT_ rfl rfl (by kernel_rfl) (fun _ _ _ => id) ?_ ?_ ?_ <| ta 9 (some 42) (ba 40 15359) HT_ HW_ rfl rfl (by kernel_rfl) (fun _ _ _ => id) ?_ ?_ hHeld ?_ <| pu 10 (some 43) (ba 40 16383) HT_ rfl rfl (by kernel_rfl) (fun _ _ _ => id) ?_ ?_ ?_ <| ta 14 (some 47) (ba 40 32767) HT_ HW_ rfl rfl (by kernel_rfl) (fun _ _ _ => id) ?_ ?_ hHeld ?_ <| pu 15 (some 48) (ba 40 65535) HT_ rfl rfl (by kernel_rfl) (fun _ _ _ => id) ?_ ?_ ?_ <| pu 16 (some 49) (ba 40 131071) HT_ rfl rfl (by kernel_rfl) (fun _ _ _ => id) ?_ ?_ ?_ <| pu 17 (some 50) (ba 40 262143) HT_ rfl rfl (by kernel_rfl) (fun _ _ _ => id) ?_ ?_ ?_ <| un 18 (some 51) (ba 40 524287) HT_ rfl rfl (by kernel_rfl) (fun _ _ _ => id) ?_ ?_ <| un 19 (some 52) (ba 40 1048575) HT_ rfl rfl (by kernel_rfl) (fun _ _ _ => id) ?_ ?_ <| un 20 (some 53) (ba 40 2097151) HT_ rfl rfl (by kernel_rfl) (fun _ _ _ => id) ?_ ?_ <| un 21 (some 54) (ba 40 4194303) HT_ rfl rfl (by kernel_rfl) (fun _ _ _ => id) ?_ ?_ <| un 22 (some 55) (ba 40 8388607) HT_ rfl rfl (by kernel_rfl) (fun _ _ _ => id) ?_ ?_ <| un 23 (some 56) (ba 40 16777215) HT_ rfl rfl (by kernel_rfl) (fun _ _ _ => id) ?_ ?_ <| un 24 (some 57) (ba 40 33554431) HT_ rfl rfl (by kernel_rfl) (fun _ _ _ => id) ?_ ?_ <| un 25 (some 58) (ba 40 67108863) HT_ rfl rfl (by kernel_rfl) (fun _ _ _ => id) ?_ ?_ <| un 26 (some 59) (ba 40 134217727) HT_ rfl rfl (by kernel_rfl) (fun _ _ _ => id) ?_ ?_ <| un 27 (some 60) (ba 40 268435455) HT_ rfl rfl (by kernel_rfl) (fun _ _ _ => id) ?_ ?_ <| un 28 (some 61) (ba 40 536870911) HT_ rfl rfl (by kernel_rfl) (fun _ _ _ => id) ?_ ?_ <| un 29 (some 62) (ba 40 1073741823) HT_ rfl rfl (by kernel_rfl) (fun _ _ _ => id) ?_ ?_ <| un 30 (some 63) (ba 40 2147483647) HT_ rfl rfl (by kernel_rfl) (fun _ _ _ => id) ?_ ?_ <| un 31 (some 64) (ba 40 4294967295) HT_ rfl rfl (by kernel_rfl) (fun _ _ _ => id) ?_ ?_ <| un 32 (some 65) (ba 40 8589934591) HT_ rfl rfl (by kernel_rfl) (fun _ _ _ => id) ?_ ?_ <| un 33 (some 66) (ba 40 17179869183) HT_ rfl rfl (by kernel_rfl) (fun _ _ _ => id) ?_ ?_ <| un 34 (some 67) (ba 40 34359738367) HT_ rfl rfl (by kernel_rfl) (fun _ _ _ => id) ?_ ?_ <| un 35 (some 68) (ba 40 68719476735) HT_ rfl rfl (by kernel_rfl) (fun _ _ _ => id) ?_ ?_ <| un 36 (some 69) (ba 40 137438953471) HT_ rfl rfl (by kernel_rfl) (fun _ _ _ => id) ?_ ?_ <| un 37 (some 70) (ba 40 274877906943) HT_ rfl rfl (by kernel_rfl) (fun _ _ _ => id) ?_ ?_ <| pu 38 (some 71) (ba 40 549755813887) HT_ rfl rfl (by kernel_rfl) (fun _ _ _ => id) ?_ ?_ ?_ <| pu 39 (some 72) (ba 40 1099511627775) HT_ rfl rfl (by kernel_rfl) (fun _ _ _ => id) ?_ ?_ ?_ <| ?_
                   any_goals (first | (show Region.wanted _ _ = _; rfl) | (rintro w' ⟨s0, s1, s2⟩; go_simp; with_reducible rfl) | (intro w'; go_simp; with_reducible rfl) | (simp only [Act.put, List.setIfInBounds_toArray, List.set_cons_zero, List.set_cons_succ, i64_w, i32_w]; rfl))
                   refine done_ (done_of HT_.out (by kernel_rfl)) ?_
                   have p22 : 0 ≤ (x8_2 : Int) := of_decide_eq_true (by first | (with_reducible assumption) | assumption)
                   have q22 : (x8_2 : Int) < ((x5_2.length : Int) : Int) := of_decide_eq_true (by first | (with_reducible assumption) | assumption)
                   obtain ⟨go22, co22, eo22, gb22, gl22, cl22, HG22⟩ := Kd.R_form HO_5.out (by omega)
                   (first | cases eo22 | (injection eo22 with ea_ en_ ec_; (first | subst ea_ | (injection ea_ with ea_; subst ea_)); subst ec_; clear en_))
                   have GB22 := Zs.mk gb22
                   have GG22 := Zs.mk HG22
                   clear gb22 gl22 HG22
                   (first | simp only [add_plain] at hx104_0 | skip)
                   obtain ⟨hx22_0, hf22_0⟩ := Kd.R_celln false HO_5.out (x8_2 : Int) p22 q22
                   replace p22 := eq_true p22
                   replace q22 := eq_true q22
                   obtain ⟨hy25_, hz25_⟩ := Kd.R_celln false HO_5.out (x8_2 : Int) (of_decide_eq_true (by first | (with_reducible assumption) | assumption)) (of_decide_eq_true (by first | (with_reducible assumption) | assumption))
                   have HP25 := Kd.R_putg HO_5.out (x8_2 : Int) true
                   try go_wp2_with (first | ((with_reducible refine gate_store (t := 4) (p := 75) rfl ?_); refine store_event (t := 4) (p := 75) (v := ?vo_w26) (w1 := (w23.setCell ⟨go22, (x8_2 : Int).toNat, none⟩ (.bool true))) ?hg ?ho ?hn ?hr ?_; (case ho => rfl); (case hg => rfl); (case hn => rfl); (case hr => first | (go_simp; done) | (go_simp; rfl)); intro w26 hw; have hg : w23.grownBy w26 (some go22) := (by rw [hw]; exact HP25.2); have hp_ : Kd.R Kd.bool 4 w26 w.heap.size (fun _ => True) (.slice (some ⟨go22, 0, none⟩) x5_2.length co24) y107 := (by rw [hw, Ny107.out]; exact HP25.1); clear HP25; have n0_ := Zs.mk (hp_); have n1_ := Zs.mk ((by rw [hw]; exact below_set (HB.out) GB22.out : Below w.heap.size w w26)); clear HO_5; clear HB; have HO_5 := n0_; have HB := n1_; clear n0_ n1_; clear hg hw hp_))
                   go_roundg kj8
                   case measure => have := HK1.out; have := HK2.out; have := HJ8.out; omega
                   case rel => exact ⟨(y107), (true), (wrap64 (x8_2 + 1)), (by first | rfl | (simp; done) | (simp [*]; done)), (by first | rfl | (simp; done) | (simp [*]; done)), H', ⟨by have := HK1.out; have := HK2.out; have := HJ8.out; omega⟩, ⟨by (with_reducible repeat (first | apply Kd.R_alloc | apply Kd.R_drewN | apply Kd.R_drew)); exact HO_5.out⟩, ⟨by repeat (first | (with_reducible first | exact HB.out | apply zA | apply zB | apply zC) | exact HB.out)⟩⟩
                  ·rw [if_neg c21] at H
                   have c21b0 : (((rdOf (0 : Nat) l0 x6_1 : Nat) : Int) == ((rdOf (0 : Nat) l1 x8_2 : Nat) : Int)) = false := beq_eq_false_iff_ne.mpr c21
                   have c21b1 : (((rdOf (0 : Nat) l0 x6_1 : Nat) : Int) != ((rdOf (0 : Nat) l1 x8_2 : Nat) : Int)) = true := bne_iff_ne.mpr c21
                   by_cases c27 : ((FloatKind.format .f64).order (rdOf (0 : Nat) l0 x6_1) (rdOf (0 : Nat) l0 x6_1) != some .eq) = true
                   ·rw [if_pos c27] at H
                    have c27b0 : ((FloatKind.format .f64).order (rdOf (0 : Nat) l0 x6_1) (rdOf (0 : Nat) l0 x6_1) != some .eq) = true := c27
                    (try (have c27b1 : decide ((FloatKind.format .f64).order (rdOf (0 : Nat) l0 x6_1) (rdOf (0 : Nat) l0 x6_1) = some .eq) = false := by simpa using c27))
                    (try (have c27b2 : ((FloatKind.format .f64).order (rdOf (0 : Nat) l0 x6_1) (rdOf (0 : Nat) l0 x6_1) == some .eq) = false := by simpa using c27))
                    (try (have c27b3 : ¬ ((FloatKind.format .f64).order (rdOf (0 : Nat) l0 x6_1) (rdOf (0 : Nat) l0 x6_1) = some .eq) := by simpa using c27))
                    clear c27
                    by_cases c28 : ((FloatKind.format .f64).order (rdOf (0 : Nat) l1 x8_2) (rdOf (0 : Nat) l1 x8_2) != some .eq) = true
                    ·rw [if_pos c28] at H
                     have c28b0 : ((FloatKind.format .f64).order (rdOf (0 : Nat) l1 x8_2) (rdOf (0 : Nat) l1 x8_2) != some .eq) = true := c28
                     (try (have c28b1 : decide ((FloatKind.format .f64).order (rdOf (0 : Nat) l1 x8_2) (rdOf (0 : Nat) l1 x8_2) = some .eq) = false := by simpa using c28))
                     (try (have c28b2 : ((FloatKind.format .f64).order (rdOf (0 : Nat) l1 x8_2) (rdOf (0 : Nat) l1 x8_2) == some .eq) = false := by simpa using c28))
                     (try (have c28b3 : ¬ ((FloatKind.format .f64).order (rdOf (0 : Nat) l1 x8_2) (rdOf (0 : Nat) l1 x8_2) = some .eq) := by simpa using c28))
                     clear c28
                     obtain ⟨y112, hy112⟩ : ∃ y_ : List Bool, y_ = (x5_2.set (x8_2 : Int).toNat true) := ⟨_, rfl⟩
                     replace H : (qt0c.l1 kj8 l0 l1 y112 x6_1 true (wrap64 (x8_2 + 1))) = some r := by first | (rw [hy112]; with_reducible exact H) | (have H2_ := (Option.bind_some _ _).symm.trans H; rw [hy112]; with_reducible exact H2_) | (have H2_ := (Option.bind_some _ _).symm.trans H; with_reducible exact H2_) | with_reducible exact H | (rw [hy112]; exact H) | exact H
                     have Ny112 := Zs.mk hy112
                     clear hy112
                     have H' := Zs.mk H
                     clear H
                     try go_wp2
                     have n0_ := Zs.mk (Kd.R_drew HO_5.out)
                     have n1_ := Zs.mk (zC HB.out)
                     clear HO_5
                     clear HB
                     have HO_5 := n0_
                     have HB := n1_
                     clear n0_ n1_
                     obtain ⟨Ao31, co31, eo31⟩ := Kd.R_slice HO_5.out
                     (first | subst eo31 | (injection eo31 with f1_ f2_ f3_; have f4_ := f1_.symm; have f5_ := f3_.symm; clear f1_ f2_ f3_; subst f4_; subst f5_))
                     have p104 : 0 ≤ (x8_2 : Int) := of_decide_eq_true (by first | (with_reducible assumption) | assumption)
                     have q104 : x8_2 < (x5_2.length : Int) := of_decide_eq_true (by first | (with_reducible assumption) | assumption)
                     obtain ⟨ad104, e104, hx104_0⟩ := Kd.at_bool (Kd.R_reads' HO_5.out).2.2 x8_2 p104 q104
                     (try rw [← Nbq14.out] at hx104_0)
                     cases e104
                     replace p104 := eq_true p104
                     replace q104 := eq_true q104
                     have p105 : 0 ≤ (x6_1 : Int) := of_decide_eq_true (by first | (with_reducible assumption) | assumption)
                     have q105 : x6_1 < (l0.length : Int) := of_decide_eq_true (by first | (with_reducible assumption) | assumption)
                     obtain ⟨ad105, e105, hx105_0⟩ := Kd.at_flo HR0.out x6_1 p105 q105
                     have hw105_0 := hx105_0
                     cases e105
                     replace hx105_0 := (HB.out.cell (World.block_lt_of_cell? w _ hx105_0)).trans hx105_0
                     replace p105 := eq_true p105
                     replace q105 := eq_true q105
                     have p106 : 0 ≤ (x8_2 : Int) := of_decide_eq_true (by first | (with_reducible assumption) | assumption)
                     have q106 : x8_2 < (l1.length : Int) := of_decide_eq_true (by first | (with_reducible assumption) | assumption)
                     obtain ⟨ad106, e106, hx106_0⟩ := Kd.at_flo HR1.out x8_2 p106 q106
                     have hw106_0 := hx106_0
                     cases e106
                     replace hx106_0 := (HB.out.cell (World.block_lt_of_cell? w _ hx106_0)).trans hx106_0
                     replace p106 := eq_true p106
                     replace q106 := eq_true q106
                     have p108 : 0 ≤ (x6_1 : Int) := of_decide_eq_true (by first | (with_reducible assumption) | assumption)
                     have q108 : x6_1 < (l0.length : Int) := of_decide_eq_true (by first | (with_reducible assumption) | assumption)
                     obtain ⟨ad108, e108, hx108_0⟩ := Kd.at_flo HR0.out x6_1 p108 q108
                     have hw108_0 := hx108_0
                     obtain rfl : ad105 = ad108 := (by injection e108)
                     replace hx108_0 := (HB.out.cell (World.block_lt_of_cell? w _ hx108_0)).trans hx108_0
                     replace p108 := eq_true p108
                     replace q108 := eq_true q108
                     have p109 : 0 ≤ (x6_1 : Int) := of_decide_eq_true (by first | (with_reducible assumption) | assumption)
                     have q109 : x6_1 < (l0.length : Int) := of_decide_eq_true (by first | (with_reducible assumption) | assumption)
                     obtain ⟨ad109, e109, hx109_0⟩ := Kd.at_flo HR0.out x6_1 p109 q109
                     have hw109_0 := hx109_0
                     obtain rfl : ad105 = ad109 := (by injection e109)
                     replace hx109_0 := (HB.out.cell (World.block_lt_of_cell? w _ hx109_0)).trans hx109_0
                     replace p109 := eq_true p109
                     replace q109 := eq_true q109
                     have p110 : 0 ≤ (x8_2 : Int) := of_decide_eq_true (by first | (with_reducible assumption) | assumption)
                     have q110 : x8_2 < (l1.length : Int) := of_decide_eq_true (by first | (with_reducible assumption) | assumption)
                     obtain ⟨ad110, e110, hx110_0⟩ := Kd.at_flo HR1.out x8_2 p110 q110
                     have hw110_0 := hx110_0
                     obtain rfl : ad106 = ad110 := (by injection e110)
                     replace hx110_0 := (HB.out.cell (World.block_lt_of_cell? w _ hx110_0)).trans hx110_0
                     replace p110 := eq_true p110
                     replace q110 := eq_true q110
                     have p111 : 0 ≤ (x8_2 : Int) := of_decide_eq_true (by first | (with_reducible assumption) | assumption)
                     have q111 : x8_2 < (l1.length : Int) := of_decide_eq_true (by first | (with_reducible assumption) | assumption)
                     obtain ⟨ad111, e111, hx111_0⟩ := Kd.at_flo HR1.out x8_2 p111 q111
                     have hw111_0 := hx111_0
                     obtain rfl : ad106 = ad111 := (by injection e111)
                     replace hx111_0 := (HB.out.cell (World.block_lt_of_cell? w _ hx111_0)).trans hx111_0
                     replace p111 := eq_true p111
                     replace q111 := eq_true q111
                     refine start_ (n := 40) (S := fun w' => w'.cell? (ad104.add (x8_2).toNat) = some (.bool false) ∧ w'.cell? (ad105.add (x6_1).toNat) = some (.float .f64 (rdOf (0 : Nat) l0 x6_1)) ∧ w'.cell? (ad106.add (x8_2).toNat) = some (.float .f64 (rdOf (0 : Nat) l1 x8_2)) ∧ w'.cell? (ad105.add (x6_1).toNat) = some (.float .f64 (rdOf (0 : Nat) l0 x6_1)) ∧ w'.cell? (ad105.add (x6_1).toNat) = some (.float .f64 (rdOf (0 : Nat) l0 x6_1)) ∧ w'.cell? (ad106.add (x8_2).toNat) = some (.float .f64 (rdOf (0 : Nat) l1 x8_2)) ∧ w'.cell? (ad106.add (x8_2).toNat) = some (.float .f64 (rdOf (0 : Nat) l1 x8_2))) (ds := []) (ba 40 0) (by kernel_rfl) rfl rfl ⟨hx104_0, ((HB.out.cell (World.block_lt_of_cell? w _ hw105_0)).trans hw105_0), ((HB.out.cell (World.block_lt_of_cell? w _ hw106_0)).trans hw106_0), ((HB.out.cell (World.block_lt_of_cell? w _ hw108_0)).trans hw108_0), ((HB.out.cell (World.block_lt_of_cell? w _ hw109_0)).trans hw109_0), ((HB.out.cell (World.block_lt_of_cell? w _ hw110_0)).trans hw110_0), ((HB.out.cell (World.block_lt_of_cell? w _ hw111_0)).trans hw111_0)⟩ (fun hHeld => ?_); refine zT qt0c.tab11 qt0c.bits11 (fun HT_ HW_ => ?_)
                     generalize wc.drew = w30 at HO_5 HB hx104_0 hx105_0 hx106_0 hx108_0 hx109_0 hx110_0 hx111_0 hHeld ⊢
                     refine' pu 0 (some 33) (ba 40 1) HT_ rfl rfl (by kernel_rfl) (fun _ _ _ => id) ?_ ?_ ?_ <| pu 1 (some 34) (ba 40 3) HT_ rfl rfl (by kernel_rfl) (fun _ _ _ => id) ?_ ?_ ?_ <| pu 2 (some 35) (ba 40 7) HT_ rfl rfl (by kernel_rfl) (fun _ _ _ => id) ?_ ?_ ?_ <| ta 3 (some 36) (ba 40 15) HT_ HW_ rfl rfl (by kernel_rfl) (fun _ _ _ => id) ?_ ?_ hHeld ?_ <| pu 4 (some 37) (ba 40 31) HT_ rfl rfl (by kernel_rfl) (fun _ _ _ => id) ?_ ?_ ?_ <| pu 5 (some 38) (ba 40 63) HT_ rfl rfl (by kernel_rfl) (fun _ _ _ => id) ?_ ?_ ?_ <| pu 6 (some 39) (ba 40 127) HT_ rfl rfl (by kernel_rfl) (fun _ _ _ => id) ?_ ?_ ?_ <| pu 7 (some 40) (ba 40 255) HT_ rfl rfl (by kernel_rfl) (fun _ _ _ => id) ?_ ?_ ?_ <| pu 8 (some 41) (ba 40 511) HT_ rfl rfl (by kernel_rfl) (fun _ _ _ => id) ?_ ?_ ?_ <| pu 11 (some 44) (ba 40 2559) HT_ rfl rfl (by kernel_rfl) (fun _ _ _ => id) ?_ ?_ ?_ <| pu 12 (some 45) (ba 40 6655) HT_ rfl rfl (by kernel_rfl) (fun _ _ _ => id) ?_ ?_ ?_ <| pu 13 (some 46) (ba 40 14847) HT_ rfl rfl (by kernel_rfl) (fun _ _ _ => id) ?_ ?_ ?_ <| ta 9 (some 42) (ba 40 15359) HT_ HW_ rfl rfl (by kernel_rfl) (fun _ _ _ => id) ?_ ?_ hHeld ?_ <| pu 10 (some 43) (ba 40 16383) HT_ rfl rfl (by kernel_rfl) (fun _ _ _ => id) ?_ ?_ ?_ <| ta 14 (some 47) (ba 40 32767) HT_ HW_ rfl rfl (by kernel_rfl) (fun _ _ _ => id) ?_ ?_ hHeld ?_ <| pu 15 (some 48) (ba 40 65535) HT_ rfl rfl (by kernel_rfl) (fun _ _ _ => id) ?_ ?_ ?_ <| pu 16 (some 49) (ba 40 131071) HT_ rfl rfl (by kernel_rfl) (fun _ _ _ => id) ?_ ?_ ?_ <| pu 17 (some 50) (ba 40 262143) HT_ rfl rfl (by kernel_rfl) (fun _ _ _ => id) ?_ ?_ ?_ <| pu 18 (some 51) (ba 40 524287) HT_ rfl rfl (by kernel_rfl) (fun _ _ _ => id) ?_ ?_ ?_ <| pu 19 (some 52) (ba 40 1048575) HT_ rfl rfl (by kernel_rfl) (fun _ _ _ => id) ?_ ?_ ?_ <| pu 20 (some 53) (ba 40 2097151) HT_ rfl rfl (by kernel_rfl) (fun _ _ _ => id) ?_ ?_ ?_ <| pu 22 (some 55) (ba 40 6291455) HT_ rfl rfl (by kernel_rfl) (fun _ _ _ => id) ?_ ?_ ?_ <| pu 23 (some 56) (ba 40 14680063) HT_ rfl rfl (by kernel_rfl) (fun _ _ _ => id) ?_ ?_ ?_ <| pu 24 (some 57) (ba 40 31457279) HT_ rfl rfl (by kernel_rfl) (fun _ _ _ => id) ?_ ?_ ?_ <| ta 21 (some 54) (ba 40 33554431) HT_ HW_ rfl rfl (by kernel_rfl) (fun _ _ _ => id) ?_ ?_ hHeld ?_ <| ta 25 (some 58) (ba 40 67108863) HT_ HW_ rfl rfl (by kernel_rfl) (fun _ _ _ => id) ?_ ?_ hHeld ?_ <| pu 26 (some 59) (ba 40 134217727) HT_ rfl rfl (by kernel_rfl) (fun _ _ _ => id) ?_ ?_ ?_ <| pu 27 (some 60) (ba 40 268435455) HT_ rfl rfl (by kernel_rfl) (fun _ _ _ => id) ?_ ?_ ?_ <| pu 28 (some 61) (ba 40 536870911) HT_ rfl rfl (by kernel_rfl) (fun _ _ _ => id) ?_ ?_ ?_ <| pu 29 (some 62) (ba 40 1073741823) HT_ rfl rfl (by kernel_rfl) (fun _ _ _ => id) ?_ ?_ ?_ <| pu 30 (some 63) (ba 40 2147483647) HT_ rfl rfl (by kernel_rfl) (fun _ _ _ => id) ?_ ?_ ?_ <| pu 32 (some 65) (ba 40 6442450943) HT_ rfl rfl (by kernel_rfl) (fun _ _ _ => id) ?_ ?_ ?_ <| pu 33 (some 66) (ba 40 15032385535) HT_ rfl rfl (by kernel_rfl) (fun _ _ _ => id) ?_ ?_ ?_ <| pu 34 (some 67) (ba 40 32212254719) HT_ rfl rfl (by kernel_rfl) (fun _ _ _ => id) ?_ ?_ ?_ <| ta 31 (some 64) (ba 40 34359738367) HT_ HW_ rfl rfl (by kernel_rfl) (fun _ _ _ => id) ?_ ?_ hHeld ?_ <| ta 35 (some 68) (ba 40 68719476735) HT_ HW_ rfl rfl (by kernel_rfl) (fun _ _ _ => id) ?_ ?_ hHeld ?_ <| pu 36 (some 69) (ba 40 137438953471) HT_ rfl rfl (by kernel_rfl) (fun _ _ _ => id) ?_ ?_ ?_ <| pu 37 (some 70) (ba 40 274877906943) HT_ rfl rfl (by kernel_rfl) (fun _ _ _ => id) ?_ ?_ ?_ <| pu 38 (some 71) (ba 40 549755813887) HT_ rfl rfl (by kernel_rfl) (fun _ _ _ => id) ?_ ?_ ?_ <| pu 39 (some 72) (ba 40 1099511627775) HT_ rfl rfl (by kernel_rfl) (fun _ _ _ => id) ?_ ?_ ?_ <| ?_
                     any_goals (first | (show Region.wanted _ _ = _; rfl) | (rintro w' ⟨s0, s1, s2, s3, s4, s5, s6⟩; go_simp; with_reducible rfl) | (intro w'; go_simp; with_reducible rfl) | (simp only [Act.put, List.setIfInBounds_toArray, List.set_cons_zero, List.set_cons_succ, i64_w, i32_w]; rfl))
                     refine done_ (done_of HT_.out (by kernel_rfl)) ?_
                     have p29 : 0 ≤ (x8_2 : Int) := of_decide_eq_true (by first | (with_reducible assumption) | assumption)
                     have q29 : (x8_2 : Int) < ((x5_2.length : Int) : Int) := of_decide_eq_true (by first | (with_reducible assumption) | assumption)
                     obtain ⟨go29, co29, eo29, gb29, gl29, cl29, HG29⟩ := Kd.R_form HO_5.out (by omega)
                     (first | cases eo29 | (injection eo29 with ea_ en_ ec_; (first | subst ea_ | (injection ea_ with ea_; subst ea_)); subst ec_; clear en_))
                     have GB29 := Zs.mk gb29
                     have GG29 := Zs.mk HG29
                     clear gb29 gl29 HG29
                     (first | simp only [add_plain] at hx104_0 | skip)
                     obtain ⟨hx29_0, hf29_0⟩ := Kd.R_celln false HO_5.out (x8_2 : Int) p29 q29
                     replace p29 := eq_true p29
                     replace q29 := eq_true q29
                     obtain ⟨hy32_, hz32_⟩ := Kd.R_celln false HO_5.out (x8_2 : Int) (of_decide_eq_true (by first | (with_reducible assumption) | assumption)) (of_decide_eq_true (by first | (with_reducible assumption) | assumption))
                     have HP32 := Kd.R_putg HO_5.out (x8_2 : Int) true
                     try go_wp2_with (first | ((with_reducible refine gate_store (t := 4) (p := 75) rfl ?_); refine store_event (t := 4) (p := 75) (v := ?vo_w33) (w1 := (w30.setCell ⟨go29, (x8_2 : Int).toNat, none⟩ (.bool true))) ?hg ?ho ?hn ?hr ?_; (case ho => rfl); (case hg => rfl); (case hn => rfl); (case hr => first | (go_simp; done) | (go_simp; rfl)); intro w33 hw; have hg : w30.grownBy w33 (some go29) := (by rw [hw]; exact HP32.2); have hp_ : Kd.R Kd.bool 4 w33 w.heap.size (fun _ => True) (.slice (some ⟨go29, 0, none⟩) x5_2.length co31) y112 := (by rw [hw, Ny112.out]; exact HP32.1); clear HP32; have n0_ := Zs.mk (hp_); have n1_ := Zs.mk ((by rw [hw]; exact below_set (HB.out) GB29.out : Below w.heap.size w w33)); clear HO_5; clear HB; have HO_5 := n0_; have HB := n1_; clear n0_ n1_; clear hg hw hp_))
                     go_roundg kj8
                     case measure => have := HK1.out; have := HK2.out; have := HJ8.out; omega
                     case rel => exact ⟨(y112), (true), (wrap64 (x8_2 + 1)), (by first | rfl | (simp; done) | (simp [*]; done)), (by first | rfl | (simp; done) | (simp [*]; done)), H', ⟨by have := HK1.out; have := HK2.out; have := HJ8.out; omega⟩, ⟨by (with_reducible repeat (first | apply Kd.R_alloc | apply Kd.R_drewN | apply Kd.R_drew)); exact HO_5.out⟩, ⟨by repeat (first | (with_reducible first | exact HB.out | apply zA | apply zB | apply zC) | exact HB.out)⟩⟩
                    ·rw [if_neg c28] at H
                     have c28b0 : ((FloatKind.format .f64).order (rdOf (0 : Nat) l1 x8_2) (rdOf (0 : Nat) l1 x8_2) != some .eq) = false := by simpa using c28
                     (try (have c28b1 : decide ((FloatKind.format .f64).order (rdOf (0 : Nat) l1 x8_2) (rdOf (0 : Nat) l1 x8_2) = some .eq) = true := by simpa using c28))
                     (try (have c28b2 : ((FloatKind.format .f64).order (rdOf (0 : Nat) l1 x8_2) (rdOf (0 : Nat) l1 x8_2) == some .eq) = true := by simpa using c28))
                     clear c28
                     have H' := Zs.mk H
                     clear H
                     try go_wp2
                     have n0_ := Zs.mk (Kd.R_drew HO_5.out)
                     have n1_ := Zs.mk (zC HB.out)
                     clear HO_5
                     clear HB
                     have HO_5 := n0_
                     have HB := n1_
                     clear n0_ n1_
                     obtain ⟨Ao35, co35, eo35⟩ := Kd.R_slice HO_5.out
                     (first | subst eo35 | (injection eo35 with f1_ f2_ f3_; have f4_ := f1_.symm; have f5_ := f3_.symm; clear f1_ f2_ f3_; subst f4_; subst f5_))
                     have p104 : 0 ≤ (x8_2 : Int) := of_decide_eq_true (by first | (with_reducible assumption) | assumption)
                     have q104 : x8_2 < (x5_2.length : Int) := of_decide_eq_true (by first | (with_reducible assumption) | assumption)
                     obtain ⟨ad104, e104, hx104_0⟩ := Kd.at_bool (Kd.R_reads' HO_5.out).2.2 x8_2 p104 q104
                     (try rw [← Nbq14.out] at hx104_0)
                     cases e104
                     replace p104 := eq_true p104
                     replace q104 := eq_true q104
                     have p105 : 0 ≤ (x6_1 : Int) := of_decide_eq_true (by first | (with_reducible assumption) | assumption)
                     have q105 : x6_1 < (l0.length : Int) := of_decide_eq_true (by first | (with_reducible assumption) | assumption)
                     obtain ⟨ad105, e105, hx105_0⟩ := Kd.at_flo HR0.out x6_1 p105 q105
                     have hw105_0 := hx105_0
                     cases e105
                     replace hx105_0 := (HB.out.cell (World.block_lt_of_cell? w _ hx105_0)).trans hx105_0
                     replace p105 := eq_true p105
                     replace q105 := eq_true q105
                     have p106 : 0 ≤ (x8_2 : Int) := of_decide_eq_true (by first | (with_reducible assumption) | assumption)
                     have q106 : x8_2 < (l1.length : Int) := of_decide_eq_true (by first | (with_reducible assumption) | assumption)
                     obtain ⟨ad106, e106, hx106_0⟩ := Kd.at_flo HR1.out x8_2 p106 q106
                     have hw106_0 := hx106_0
                     cases e106
                     replace hx106_0 := (HB.out.cell (World.block_lt_of_cell? w _ hx106_0)).trans hx106_0
                     replace p106 := eq_true p106
                     replace q106 := eq_true q106
                     have p108 : 0 ≤ (x6_1 : Int) := of_decide_eq_true (by first | (with_reducible assumption) | assumption)
                     have q108 : x6_1 < (l0.length : Int) := of_decide_eq_true (by first | (with_reducible assumption) | assumption)
                     obtain ⟨ad108, e108, hx108_0⟩ := Kd.at_flo HR0.out x6_1 p108 q108
                     have hw108_0 := hx108_0
                     obtain rfl : ad105 = ad108 := (by injection e108)
                     replace hx108_0 := (HB.out.cell (World.block_lt_of_cell? w _ hx108_0)).trans hx108_0
                     replace p108 := eq_true p108
                     replace q108 := eq_true q108
                     have p109 : 0 ≤ (x6_1 : Int) := of_decide_eq_true (by first | (with_reducible assumption) | assumption)
                     have q109 : x6_1 < (l0.length : Int) := of_decide_eq_true (by first | (with_reducible assumption) | assumption)
                     obtain ⟨ad109, e109, hx109_0⟩ := Kd.at_flo HR0.out x6_1 p109 q109
                     have hw109_0 := hx109_0
                     obtain rfl : ad105 = ad109 := (by injection e109)
                     replace hx109_0 := (HB.out.cell (World.block_lt_of_cell? w _ hx109_0)).trans hx109_0
                     replace p109 := eq_true p109
                     replace q109 := eq_true q109
                     have p110 : 0 ≤ (x8_2 : Int) := of_decide_eq_true (by first | (with_reducible assumption) | assumption)
                     have q110 : x8_2 < (l1.length : Int) := of_decide_eq_true (by first | (with_reducible assumption) | assumption)
                     obtain ⟨ad110, e110, hx110_0⟩ := Kd.at_flo HR1.out x8_2 p110 q110
                     have hw110_0 := hx110_0
                     obtain rfl : ad106 = ad110 := (by injection e110)
                     replace hx110_0 := (HB.out.cell (World.block_lt_of_cell? w _ hx110_0)).trans hx110_0
                     replace p110 := eq_true p110
                     replace q110 := eq_true q110
                     have p111 : 0 ≤ (x8_2 : Int) := of_decide_eq_true (by first | (with_reducible assumption) | assumption)
                     have q111 : x8_2 < (l1.length : Int) := of_decide_eq_true (by first | (with_reducible assumption) | assumption)
                     obtain ⟨ad111, e111, hx111_0⟩ := Kd.at_flo HR1.out x8_2 p111 q111
                     have hw111_0 := hx111_0
                     obtain rfl : ad106 = ad111 := (by injection e111)
                     replace hx111_0 := (HB.out.cell (World.block_lt_of_cell? w _ hx111_0)).trans hx111_0
                     replace p111 := eq_true p111
                     replace q111 := eq_true q111
                     refine start_ (n := 40) (S := fun w' => w'.cell? (ad104.add (x8_2).toNat) = some (.bool false) ∧ w'.cell? (ad105.add (x6_1).toNat) = some (.float .f64 (rdOf (0 : Nat) l0 x6_1)) ∧ w'.cell? (ad106.add (x8_2).toNat) = some (.float .f64 (rdOf (0 : Nat) l1 x8_2)) ∧ w'.cell? (ad105.add (x6_1).toNat) = some (.float .f64 (rdOf (0 : Nat) l0 x6_1)) ∧ w'.cell? (ad105.add (x6_1).toNat) = some (.float .f64 (rdOf (0 : Nat) l0 x6_1)) ∧ w'.cell? (ad106.add (x8_2).toNat) = some (.float .f64 (rdOf (0 : Nat) l1 x8_2)) ∧ w'.cell? (ad106.add (x8_2).toNat) = some (.float .f64 (rdOf (0 : Nat) l1 x8_2))) (ds := []) (ba 40 0) (by kernel_rfl) rfl rfl ⟨hx104_0, ((HB.out.cell (World.block_lt_of_cell? w _ hw105_0)).trans hw105_0), ((HB.out.cell (World.block_lt_of_cell? w _ hw106_0)).trans hw106_0), ((HB.out.cell (World.block_lt_of_cell? w _ hw108_0)).trans hw108_0), ((HB.out.cell (World.block_lt_of_cell? w _ hw109_0)).trans hw109_0), ((HB.out.cell (World.block_lt_of_cell? w _ hw110_0)).trans hw110_0), ((HB.out.cell (World.block_lt_of_cell? w _ hw111_0)).trans hw111_0)⟩ (fun hHeld => ?_); refine zT qt0c.tab11 qt0c.bits11 (fun HT_ HW_ => ?_)
                     generalize wc.drew = w34 at HO_5 HB hx104_0 hx105_0 hx106_0 hx108_0 hx109_0 hx110_0 hx111_0 hHeld ⊢
                     refine' pu 0 (some 33) (ba 40 1) HT_ rfl rfl (by kernel_rfl) (fun _ _ _ => id) ?_ ?_ ?_ <| pu 1 (some 34) (ba 40 3) HT_ rfl rfl (by kernel_rfl) (fun _ _ _ => id) ?_ ?_ ?_ <| pu 2 (some 35) (ba 40 7) HT_ rfl rfl (by kernel_rfl) (fun _ _ _ => id) ?_ ?_ ?_ <| ta 3 (some 36) (ba 40 15) HT_ HW_ rfl rfl (by kernel_rfl) (fun _ _ _ => id) ?_ ?_ hHeld ?_ <| pu 4 (some 37) (ba 40 31) HT_ rfl rfl (by kernel_rfl) (fun _ _ _ => id) ?_ ?_ ?_ <| pu 5 (some 38) (ba 40 63) HT_ rfl rfl (by kernel_rfl) (fun _ _ _ => id) ?_ ?_ ?_ <| pu 6 (some 39) (ba 40 127) HT_ rfl rfl (by kernel_rfl) (fun _ _ _ => id) ?_ ?_ ?_ <| pu 7 (some 40) (ba 40 255) HT_ rfl rfl (by kernel_rfl) (fun _ _ _ => id) ?_ ?_ ?_ <| pu 8 (some 41) (ba 40 511) HT_ rfl rfl (by kernel_rfl) (fun _ _ _ => id) ?_ ?_ ?_ <| pu 11 (some 44) (ba 40 2559) HT_ rfl rfl (by kernel_rfl) (fun _ _ _ => id) ?_ ?_ ?_ <| pu 12 (some 45) (ba 40 6655) HT_ rfl rfl (by kernel_rfl) (fun _ _ _ => id) ?_ ?_ ?_ <| pu 13 (some 46) (ba 40 14847) HT_ rfl rfl (by kernel_rfl) (fun _ _ _ => id) ?_ ?_ ?_ <| ta 9 (some 42) (ba 40 15359) HT_ HW_ rfl rfl (by kernel_rfl) (fun _ _ _ => id) ?_ ?_ hHeld ?_ <| pu 10 (some 43) (ba 40 16383) HT_ rfl rfl (by kernel_rfl) (fun _ _ _ => id) ?_ ?_ ?_ <| ta 14 (some 47) (ba 40 32767) HT_ HW_ rfl rfl (by kernel_rfl) (fun _ _ _ => id) ?_ ?_ hHeld ?_ <| pu 15 (some 48) (ba 40 65535) HT_ rfl rfl (by kernel_rfl) (fun _ _ _ => id) ?_ ?_ ?_ <| pu 16 (some 49) (ba 40 131071) HT_ rfl rfl (by kernel_rfl) (fun _ _ _ => id) ?_ ?_ ?_ <| pu 17 (some 50) (ba 40 262143) HT_ rfl rfl (by kernel_rfl) (fun _ _ _ => id) ?_ ?_ ?_ <| pu 18 (some 51) (ba 40 524287) HT_ rfl rfl (by kernel_rfl) (fun _ _ _ => id) ?_ ?_ ?_ <| pu 19 (some 52) (ba 40 1048575) HT_ rfl rfl (by kernel_rfl) (fun _ _ _ => id) ?_ ?_ ?_ <| pu 20 (some 53) (ba 40 2097151) HT_ rfl rfl (by kernel_rfl) (fun _ _ _ => id) ?_ ?_ ?_ <| pu 22 (some 55) (ba 40 6291455) HT_ rfl rfl (by kernel_rfl) (fun _ _ _ => id) ?_ ?_ ?_ <| pu 23 (some 56) (ba 40 14680063) HT_ rfl rfl (by kernel_rfl) (fun _ _ _ => id) ?_ ?_ ?_ <| pu 24 (some 57) (ba 40 31457279) HT_ rfl rfl (by kernel_rfl) (fun _ _ _ => id) ?_ ?_ ?_ <| ta 21 (some 54) (ba 40 33554431) HT_ HW_ rfl rfl (by kernel_rfl) (fun _ _ _ => id) ?_ ?_ hHeld ?_ <| ta 25 (some 58) (ba 40 67108863) HT_ HW_ rfl rfl (by kernel_rfl) (fun _ _ _ => id) ?_ ?_ hHeld ?_ <| pu 26 (some 59) (ba 40 134217727) HT_ rfl rfl (by kernel_rfl) (fun _ _ _ => id) ?_ ?_ ?_ <| pu 27 (some 60) (ba 40 268435455) HT_ rfl rfl (by kernel_rfl) (fun _ _ _ => id) ?_ ?_ ?_ <| pu 28 (some 61) (ba 40 536870911) HT_ rfl rfl (by kernel_rfl) (fun _ _ _ => id) ?_ ?_ ?_ <| pu 29 (some 62) (ba 40 1073741823) HT_ rfl rfl (by kernel_rfl) (fun _ _ _ => id) ?_ ?_ ?_ <| pu 30 (some 63) (ba 40 2147483647) HT_ rfl rfl (by kernel_rfl) (fun _ _ _ => id) ?_ ?_ ?_ <| pu 32 (some 65) (ba 40 6442450943) HT_ rfl rfl (by kernel_rfl) (fun _ _ _ => id) ?_ ?_ ?_ <| pu 33 (some 66) (ba 40 15032385535) HT_ rfl rfl (by kernel_rfl) (fun _ _ _ => id) ?_ ?_ ?_ <| pu 34 (some 67) (ba 40 32212254719) HT_ rfl rfl (by kernel_rfl) (fun _ _ _ => id) ?_ ?_ ?_ <| ta 31 (some 64) (ba 40 34359738367) HT_ HW_ rfl rfl (by kernel_rfl) (fun _ _ _ => id) ?_ ?_ hHeld ?_ <| ta 35 (some 68) (ba 40 68719476735) HT_ HW_ rfl rfl (by kernel_rfl) (fun _ _ _ => id) ?_ ?_ hHeld ?_ <| pu 36 (some 69) (ba 40 137438953471) HT_ rfl rfl (by kernel_rfl) (fun _ _ _ => id) ?_ ?_ ?_ <| pu 37 (some 70) (ba 40 274877906943) HT_ rfl rfl (by kernel_rfl) (fun _ _ _ => id) ?_ ?_ ?_ <| pu 38 (some 71) (ba 40 549755813887) HT_ rfl rfl (by kernel_rfl) (fun _ _ _ => id) ?_ ?_ ?_ <| pu 39 (some 72) (ba 40 1099511627775) HT_ rfl rfl (by kernel_rfl) (fun _ _ _ => id) ?_ ?_ ?_ <| ?_
                     any_goals (first | (show Region.wanted _ _ = _; rfl) | (rintro w' ⟨s0, s1, s2, s3, s4, s5, s6⟩; go_simp; with_reducible rfl) | (intro w'; go_simp; with_reducible rfl) | (simp only [Act.put, List.setIfInBounds_toArray, List.set_cons_zero, List.set_cons_succ, i64_w, i32_w]; rfl))
                     refine done_ (done_of HT_.out (by kernel_rfl)) ?_
                     try go_wp2
                     go_roundg kj8
                     case measure => have := HK1.out; have := HK2.out; have := HJ8.out; omega
                     case rel => exact ⟨(x5_2), (x7_2), (wrap64 (x8_2 + 1)), (by first | rfl | (simp; done) | (simp [*]; done)), (by first | rfl | (simp; done) | (simp [*]; done)), H', ⟨by have := HK1.out; have := HK2.out; have := HJ8.out; omega⟩, ⟨by (with_reducible repeat (first | apply Kd.R_alloc | apply Kd.R_drewN | apply Kd.R_drew)); exact HO_5.out⟩, ⟨by repeat (first | (with_reducible first | exact HB.out | apply zA | apply zB | apply zC) | exact HB.out)⟩⟩
                   ·rw [if_neg c27] at H
                    have c27b0 : ((FloatKind.format .f64).order (rdOf (0 : Nat) l0 x6_1) (rdOf (0 : Nat) l0 x6_1) != some .eq) = false := by simpa using c27
                    (try (have c27b1 : decide ((FloatKind.format .f64).order (rdOf (0 : Nat) l0 x6_1) (rdOf (0 : Nat) l0 x6_1) = some .eq) = true := by simpa using c27))
                    (try (have c27b2 : ((FloatKind.format .f64).order (rdOf (0 : Nat) l0 x6_1) (rdOf (0 : Nat) l0 x6_1) == some .eq) = true := by simpa using c27))
                    clear c27
                    have H' := Zs.mk H
                    clear H
                    try go_wp2
                    have n0_ := Zs.mk (Kd.R_drew HO_5.out)
                    have n1_ := Zs.mk (zC HB.out)
                    clear HO_5
                    clear HB
                    have HO_5 := n0_
                    have HB := n1_
                    clear n0_ n1_
                    obtain ⟨Ao37, co37, eo37⟩ := Kd.R_slice HO_5.out
                    (first | subst eo37 | (injection eo37 with f1_ f2_ f3_; have f4_ := f1_.symm; have f5_ := f3_.symm; clear f1_ f2_ f3_; subst f4_; subst f5_))
                    have p104 : 0 ≤ (x8_2 : Int) := of_decide_eq_true (by first | (with_reducible assumption) | assumption)
                    have q104 : x8_2 < (x5_2.length : Int) := of_decide_eq_true (by first | (with_reducible assumption) | assumption)
                    obtain ⟨ad104, e104, hx104_0⟩ := Kd.at_bool (Kd.R_reads' HO_5.out).2.2 x8_2 p104 q104
                    (try rw [← Nbq14.out] at hx104_0)
                    cases e104
                    replace p104 := eq_true p104
                    replace q104 := eq_true q104
                    have p105 : 0 ≤ (x6_1 : Int) := of_decide_eq_true (by first | (with_reducible assumption) | assumption)
                    have q105 : x6_1 < (l0.length : Int) := of_decide_eq_true (by first | (with_reducible assumption) | assumption)
                    obtain ⟨ad105, e105, hx105_0⟩ := Kd.at_flo HR0.out x6_1 p105 q105
                    have hw105_0 := hx105_0
                    cases e105
                    replace hx105_0 := (HB.out.cell (World.block_lt_of_cell? w _ hx105_0)).trans hx105_0
                    replace p105 := eq_true p105
                    replace q105 := eq_true q105
                    have p106 : 0 ≤ (x8_2 : Int) := of_decide_eq_true (by first | (with_reducible assumption) | assumption)
                    have q106 : x8_2 < (l1.length : Int) := of_decide_eq_true (by first | (with_reducible assumption) | assumption)
                    obtain ⟨ad106, e106, hx106_0⟩ := Kd.at_flo HR1.out x8_2 p106 q106
                    have hw106_0 := hx106_0
                    cases e106
                    replace hx106_0 := (HB.out.cell (World.block_lt_of_cell? w _ hx106_0)).trans hx106_0
                    replace p106 := eq_true p106
                    replace q106 := eq_true q106
                    have p108 : 0 ≤ (x6_1 : Int) := of_decide_eq_true (by first | (with_reducible assumption) | assumption)
                    have q108 : x6_1 < (l0.length : Int) := of_decide_eq_true (by first | (with_reducible assumption) | assumption)
                    obtain ⟨ad108, e108, hx108_0⟩ := Kd.at_flo HR0.out x6_1 p108 q108
                    have hw108_0 := hx108_0
                    obtain rfl : ad105 = ad108 := (by injection e108)
                    replace hx108_0 := (HB.out.cell (World.block_lt_of_cell? w _ hx108_0)).trans hx108_0
                    replace p108 := eq_true p108
                    replace q108 := eq_true q108
                    have p109 : 0 ≤ (x6_1 : Int) := of_decide_eq_true (by first | (with_reducible assumption) | assumption)
                    have q109 : x6_1 < (l0.length : Int) := of_decide_eq_true (by first | (with_reducible assumption) | assumption)
                    obtain ⟨ad109, e109, hx109_0⟩ := Kd.at_flo HR0.out x6_1 p109 q109
                    have hw109_0 := hx109_0
                    obtain rfl : ad105 = ad109 := (by injection e109)
                    replace hx109_0 := (HB.out.cell (World.block_lt_of_cell? w _ hx109_0)).trans hx109_0
                    replace p109 := eq_true p109
                    replace q109 := eq_true q109
                    refine start_ (n := 40) (S := fun w' => w'.cell? (ad104.add (x8_2).toNat) = some (.bool false) ∧ w'.cell? (ad105.add (x6_1).toNat) = some (.float .f64 (rdOf (0 : Nat) l0 x6_1)) ∧ w'.cell? (ad106.add (x8_2).toNat) = some (.float .f64 (rdOf (0 : Nat) l1 x8_2)) ∧ w'.cell? (ad105.add (x6_1).toNat) = some (.float .f64 (rdOf (0 : Nat) l0 x6_1)) ∧ w'.cell? (ad105.add (x6_1).toNat) = some (.float .f64 (rdOf (0 : Nat) l0 x6_1))) (ds := []) (ba 40 0) (by kernel_rfl) rfl rfl ⟨hx104_0, ((HB.out.cell (World.block_lt_of_cell? w _ hw105_0)).trans hw105_0), ((HB.out.cell (World.block_lt_of_cell? w _ hw106_0)).trans hw106_0), ((HB.out.cell (World.block_lt_of_cell? w _ hw108_0)).trans hw108_0), ((HB.out.cell (World.block_lt_of_cell? w _ hw109_0)).trans hw109_0)⟩ (fun hHeld => ?_); refine zT qt0c.tab11 qt0c.bits11 (fun HT_ HW_ => ?_)
                    generalize wc.drew = w36 at HO_5 HB hx104_0 hx105_0 hx106_0 hx108_0 hx109_0 hHeld ⊢
                    refine' pu 0 (some 33) (ba 40 1) HT_ rfl rfl (by kernel_rfl) (fun _ _ _ => id) ?_ ?_ ?_ <| pu 1 (some 34) (ba 40 3) HT_ rfl rfl (by kernel_rfl) (fun _ _ _ => id) ?_ ?_ ?_ <| pu 2 (some 35) (ba 40 7) HT_ rfl rfl (by kernel_rfl) (fun _ _ _ => id) ?_ ?_ ?_ <| ta 3 (some 36) (ba 40 15) HT_ HW_ rfl rfl (by kernel_rfl) (fun _ _ _ => id) ?_ ?_ hHeld ?_ <| pu 4 (some 37) (ba 40 31) HT_ rfl rfl (by kernel_rfl) (fun _ _ _ => id) ?_ ?_ ?_ <| pu 5 (some 38) (ba 40 63) HT_ rfl rfl (by kernel_rfl) (fun _ _ _ => id) ?_ ?_ ?_ <| pu 6 (some 39) (ba 40 127) HT_ rfl rfl (by kernel_rfl) (fun _ _ _ => id) ?_ ?_ ?_ <| pu 7 (some 40) (ba 40 255) HT_ rfl rfl (by kernel_rfl) (fun _ _ _ => id) ?_ ?_ ?_ <| pu 8 (some 41) (ba 40 511) HT_ rfl rfl (by kernel_rfl) (fun _ _ _ => id) ?_ ?_ ?_ <| pu 11 (some 44) (ba 40 2559) HT_ rfl rfl (by kernel_rfl) (fun _ _ _ => id) ?_ ?_ ?_ <| pu 12 (some 45) (ba 40 6655) HT_ rfl rfl (by kernel_rfl) (fun _ _ _ => id) ?_ ?_ ?_ <| pu 13 (some 46) (ba 40 14847) HT_ rfl rfl (by kernel_rfl) (fun _ _ _ => id) ?_ ?_ ?_ <| ta 9 (some 42) (ba 40 15359) HT_ HW_ rfl rfl (by kernel_rfl) (fun _ _ _ => id) ?_ ?_ hHeld ?_ <| pu 10 (some 43) (ba 40 16383) HT_ rfl rfl (by kernel_rfl) (fun _ _ _ => id) ?_ ?_ ?_ <| ta 14 (some 47) (ba 40 32767) HT_ HW_ rfl rfl (by kernel_rfl) (fun _ _ _ => id) ?_ ?_ hHeld ?_ <| pu 15 (some 48) (ba 40 65535) HT_ rfl rfl (by kernel_rfl) (fun _ _ _ => id) ?_ ?_ ?_ <| pu 16 (some 49) (ba 40 131071) HT_ rfl rfl (by kernel_rfl) (fun _ _ _ => id) ?_ ?_ ?_ <| pu 17 (some 50) (ba 40 262143) HT_ rfl rfl (by kernel_rfl) (fun _ _ _ => id) ?_ ?_ ?_ <| pu 18 (some 51) (ba 40 524287) HT_ rfl rfl (by kernel_rfl) (fun _ _ _ => id) ?_ ?_ ?_ <| pu 19 (some 52) (ba 40 1048575) HT_ rfl rfl (by kernel_rfl) (fun _ _ _ => id) ?_ ?_ ?_ <| pu 20 (some 53) (ba 40 2097151) HT_ rfl rfl (by kernel_rfl) (fun _ _ _ => id) ?_ ?_ ?_ <| pu 22 (some 55) (ba 40 6291455) HT_ rfl rfl (by kernel_rfl) (fun _ _ _ => id) ?_ ?_ ?_ <| pu 23 (some 56) (ba 40 14680063) HT_ rfl rfl (by kernel_rfl) (fun _ _ _ => id) ?_ ?_ ?_ <| pu 24 (some 57) (ba 40 31457279) HT_ rfl rfl (by kernel_rfl) (fun _ _ _ => id) ?_ ?_ ?_ <| ta 21 (some 54) (ba 40 33554431) HT_ HW_ rfl rfl (by kernel_rfl) (fun _ _ _ => id) ?_ ?_ hHeld ?_ <| ta 25 (some 58) (ba 40 67108863) HT_ HW_ rfl rfl (by kernel_rfl) (fun _ _ _ => id) ?_ ?_ hHeld ?_ <| pu 26 (some 59) (ba 40 134217727) HT_ rfl rfl (by kernel_rfl) (fun _ _ _ => id) ?_ ?_ ?_ <| pu 27 (some 60) (ba 40 268435455) HT_ rfl rfl (by kernel_rfl) (fun _ _ _ => id) ?_ ?_ ?_ <| un 28 (some 61) (ba 40 536870911) HT_ rfl rfl (by kernel_rfl) (fun _ _ _ => id) ?_ ?_ <| un 29 (some 62) (ba 40 1073741823) HT_ rfl rfl (by kernel_rfl) (fun _ _ _ => id) ?_ ?_ <| un 30 (some 63) (ba 40 2147483647) HT_ rfl rfl (by kernel_rfl) (fun _ _ _ => id) ?_ ?_ <| un 31 (some 64) (ba 40 4294967295) HT_ rfl rfl (by kernel_rfl) (fun _ _ _ => id) ?_ ?_ <| un 32 (some 65) (ba 40 8589934591) HT_ rfl rfl (by kernel_rfl) (fun _ _ _ => id) ?_ ?_ <| un 33 (some 66) (ba 40 17179869183) HT_ rfl rfl (by kernel_rfl) (fun _ _ _ => id) ?_ ?_ <| un 34 (some 67) (ba 40 34359738367) HT_ rfl rfl (by kernel_rfl) (fun _ _ _ => id) ?_ ?_ <| un 35 (some 68) (ba 40 68719476735) HT_ rfl rfl (by kernel_rfl) (fun _ _ _ => id) ?_ ?_ <| un 36 (some 69) (ba 40 137438953471) HT_ rfl rfl (by kernel_rfl) (fun _ _ _ => id) ?_ ?_ <| pu 37 (some 70) (ba 40 274877906943) HT_ rfl rfl (by kernel_rfl) (fun _ _ _ => id) ?_ ?_ ?_ <| pu 38 (some 71) (ba 40 549755813887) HT_ rfl rfl (by kernel_rfl) (fun _ _ _ => id) ?_ ?_ ?_ <| pu 39 (some 72) (ba 40 1099511627775) HT_ rfl rfl (by kernel_rfl) (fun _ _ _ => id) ?_ ?_ ?_ <| ?_
                    any_goals (first | (show Region.wanted _ _ = _; rfl) | (rintro w' ⟨s0, s1, s2, s3, s4⟩; go_simp; with_reducible rfl) | (intro w'; go_simp; with_reducible rfl) | (simp only [Act.put, List.setIfInBounds_toArray, List.set_cons_zero, List.set_cons_succ, i64_w, i32_w]; rfl))
                    refine done_ (done_of HT_.out (by kernel_rfl)) ?_
                    try go_wp2
                    go_roundg kj8
                    case measure => have := HK1.out; have := HK2.out; have := HJ8.out; omega
                    case rel => exact ⟨(x5_2), (x7_2), (wrap64 (x8_2 + 1)), (by first | rfl | (simp; done) | (simp [*]; done)), (by first | rfl | (simp; done) | (simp [*]; done)), H', ⟨by have := HK1.out; have := HK2.out; have := HJ8.out; omega⟩, ⟨by (with_reducible repeat (first | apply Kd.R_alloc | apply Kd.R_drewN | apply Kd.R_drew)); exact HO_5.out⟩, ⟨by repeat (first | (with_reducible first | exact HB.out | apply zA | apply zB | apply zC) | exact HB.out)⟩⟩
                 ·rw [if_neg c20] at H
                  exact absurd H (by simp)
                ·rw [if_neg c19] at H
                 exact absurd H (by simp)
               ·rw [if_neg c18] at H
                exact absurd H (by simp)
             ·rw [if_neg c13] at H
              exact absurd H (by simp)
            ·rw [if_neg c12] at H
             exact absurd H (by simp)
           ·replace c11 := Bool.eq_false_iff.mpr c11
            subst c11
            have H1 : (if x7_2 = true then (qt0c.l0 kj8 l0 l1 x5_2 (wrap64 (x6_1 + 1))) else (some false)) = some r := by rw [if_neg (show ¬ (false = true) by decide)] at H; exact H
            clear H
            have H := H1
            clear H1
            by_cases c38 : x7_2 = true
            ·subst c38
             have H1 : (qt0c.l0 kj8 l0 l1 x5_2 (wrap64 (x6_1 + 1))) = some r := by rw [if_pos rfl] at H; exact H
             clear H
             have H := H1
             clear H1
             have H' := Zs.mk H
             clear H
             go_wp2
             go_roundg kj8
             case measure => have := HK1.out; have := HK2.out; have := HJ8.out; omega
             case rel => exact ⟨(x5_2), (wrap64 (x6_1 + 1)), (by first | rfl | (simp; done) | (simp [*]; done)), H', ⟨by have := HK1.out; have := HK2.out; have := HJ8.out; omega⟩, ⟨by (with_reducible repeat (first | apply Kd.R_alloc | apply Kd.R_drewN | apply Kd.R_drew)); exact HO_5.out⟩, ⟨by repeat (first | (with_reducible first | exact HB.out | apply zA | apply zB | apply zC) | exact HB.out)⟩⟩
            ·replace c38 := Bool.eq_false_iff.mpr c38
             subst c38
             have H1 : (some false) = some r := by rw [if_neg (show ¬ (false = true) by decide)] at H; exact H
             clear H
             have H := H1
             clear H1
             obtain rfl := Option.some.inj H
             go_wp2
             go_ret
             exact ⟨by first | rfl | (simp [zE, zF] <;> rfl) | (simp [*, zE, zF] <;> rfl), by repeat (first | (with_reducible first | exact HB.out | apply zA | apply zB | apply zC) | exact HB.out)⟩
      ·rw [if_neg c8] at H
       have c8b0 : decide (x6_1 < (l0.length : Int)) = false := decide_eq_false c8
       clear c8
       obtain rfl := Option.some.inj H
       go_wp2
       go_ret
       exact ⟨by first | rfl | (simp [zE, zF] <;> rfl) | (simp [*, zE, zF] <;> rfl), by repeat (first | (with_reducible first | exact HB.out | apply zA | apply zB | apply zC) | exact HB.out)⟩
   ·rw [if_neg c5] at H
    exact absurd H (by simp)
  ·rw [if_neg c4] at H
   exact absurd H (by simp)
 ·rw [if_neg c3] at H
  have c3b0 : ((l0.length : Int) == (l1.length : Int)) = false := beq_eq_false_iff_ne.mpr c3
  have c3b1 : ((l0.length : Int) != (l1.length : Int)) = true := bne_iff_ne.mpr c3
  have c3b2 : (l0.length == l1.length) = false := by first | simpa using c3 | (simp at c3 ⊢; omega)
  obtain rfl := Option.some.inj H
  go_enter Try.func51, Try.ntmps51
  go_wp2
  go_ret
  exact ⟨by first | rfl | (simp [zE, zF] <;> rfl) | (simp [*, zE, zF] <;> rfl), by repeat (first | (with_reducible first | exact HB.out | apply zA | apply zB | apply zC) | exact HB.out)⟩
end Go.Proofs.Ytkmbgfhkdopigaa.P
