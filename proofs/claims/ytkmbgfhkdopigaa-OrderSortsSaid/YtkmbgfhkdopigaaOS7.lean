/- Texts that the statement's proof leans on, part 7. -/
import Derived.Test.YtkmbgfhkdopigaaOS4
import Derived.Test.YtkmbgfhkdopigaaOS6
namespace Go.Proofs.Ytkmbgfhkdopigaa.P
open Go.RowKit Go.Proofs.YtkmbgfhkdopigaaW.PrintWords Go.Proofs.YtkmbgfhkdopigaaW.PrintLast Go.Proofs.YtkmbgfhkdopigaaW.PrintMore
attribute [local go_sem] max2_int min2_int max_two min_two max_three min_three max_four min_four
attribute [local go_sem] Go.Proofs.Ytkmbgfhkdopigaa.Fl.store_float Go.Proofs.Ytkmbgfhkdopigaa.Fl.call54 Go.Proofs.Ytkmbgfhkdopigaa.Fl.call22 Go.Proofs.Ytkmbgfhkdopigaa.Fl.call14 Go.Proofs.Ytkmbgfhkdopigaa.Fl.call28
set_option linter.unusedVariables false
set_option linter.unusedSimpArgs false
mutual
def qsscff6.l0 : Nat → List Nat → Int → Int → Int → Int → Option (List Nat)
 | 0, _, _, _, _, _ => none
 | k + 1, x0, x1, x6, x7, x8 => if x8 ≤ x1 then ((qsiscff6.f k x0 x7 x8).bind fun t101 => (qsscff6.l0 k t101 x1 x6 x8 (wrap64 (x8 + x6)))) else ((qsiscff6.f k x0 x7 x1).bind fun t102 => (qsscff6.l1 k t102 x1 x6))
def qsscff6.l1 : Nat → List Nat → Int → Int → Option (List Nat)
 | 0, _, _, _ => none
 | k + 1, x0, x1, x6 => if x6 < x1 then (qsscff6.l2 k x0 x1 x6 0 (wrap64 (2 * x6))) else (some x0)
def qsscff6.l2 : Nat → List Nat → Int → Int → Int → Int → Option (List Nat)
 | 0, _, _, _, _, _ => none
 | k + 1, x0, x1, x6, x7, x8 => if x8 ≤ x1 then ((qssmcff6.f k x0 x7 (wrap64 (x7 + x6)) x8).bind fun t103 => (qsscff6.l2 k t103 x1 x6 x8 (wrap64 (x8 + (wrap64 (2 * x6)))))) else (if (wrap64 (x7 + x6)) < x1 then ((qssmcff6.f k x0 x7 (wrap64 (x7 + x6)) x1).bind fun t104 => (qsscff6.l1 k t104 x1 (wrap64 (x6 * 2)))) else (qsscff6.l1 k x0 x1 (wrap64 (x6 * 2))))
end
def qsscff6.f (k : Nat) (l0 : List Nat) (a1 : Int)  : Option (List Nat) := qsscff6.l0 k l0 a1 20 0 20
end Go.Proofs.Ytkmbgfhkdopigaa.P
namespace Go.Proofs.Ytkmbgfhkdopigaa.P
open Go.RowKit Go.Proofs.YtkmbgfhkdopigaaW.PrintWords Go.Proofs.YtkmbgfhkdopigaaW.PrintLast Go.Proofs.YtkmbgfhkdopigaaW.PrintMore
attribute [local go_sem] max2_int min2_int max_two min_two max_three min_three max_four min_four
attribute [local go_sem] Go.Proofs.Ytkmbgfhkdopigaa.Fl.store_float Go.Proofs.Ytkmbgfhkdopigaa.Fl.call54 Go.Proofs.Ytkmbgfhkdopigaa.Fl.call22 Go.Proofs.Ytkmbgfhkdopigaa.Fl.call14 Go.Proofs.Ytkmbgfhkdopigaa.Fl.call28
set_option linter.unusedVariables false
set_option linter.unusedSimpArgs false

set_option maxHeartbeats 8000000 in
set_option maxRecDepth 100000 in
theorem qsscff6.calls (k : Nat) (P0_ : Nat → Prop) (u9000_ : Value) (l0 : List Nat) (a1 : Int)  (r : List Nat) (w0 w : World) (hB : Below w0.heap.size w0 w) (ho0 : Kd.R (Kd.scalar (Value.float .f64) (fun _ => rfl)) 23 w w0.heap.size P0_ u9000_ l0) (h : qsscff6.f k l0 a1 = some r) :
  Calls Try.prog 139 #[u9000_, .int .i64 a1, .func (.func 52) #[] #[]] w fun e w' => e = .returned (.tuple #[]) ∧ Kd.R (Kd.scalar (Value.float .f64) (fun _ => rfl)) 23 w' w0.heap.size (fun k_ => (P0_ k_ ∨ w.heap.size ≤ k_)) u9000_ r ∧ Below w0.heap.size w0 w' ∧ Kept w w' (fun k_ => P0_ k_) := by
 have HO0 := Zs.mk (show Kd.R (Kd.scalar (Value.float .f64) (fun _ => rfl)) 23 w w0.heap.size (fun k_ => (P0_ k_ ∨ w.heap.size ≤ k_)) u9000_ l0 from Kd.R_mono ho0 (fun k_ hk => (.inl hk)))
 have HK := Zs.mk (Kept.refl w (fun k_ => P0_ k_))
 have HW0 := Zs.mk hB.size
 have HB := Zs.mk hB
 clear hB
 have H : (qsscff6.l0 k l0 a1 20 0 20) = some r := h
 clear h
 have H' := Zs.mk H
 clear H
 go_enter Try.func139, Try.ntmps139
 go_wp2
 go_loopg [7, 8] k (fun kq v7 v8 w' => ∃ (x0_1 : List Nat) (x7_1 : Int) (x8_1 : Int), v7 = .int .i64 x7_1 ∧ v8 = .int .i64 x8_1 ∧ Zs (qsscff6.l0 kq x0_1 a1 20 x7_1 x8_1 = some r) ∧ Zs (kq ≤ k) ∧ Zs (Kd.R (Kd.scalar (Value.float .f64) (fun _ => rfl)) 23 w' w0.heap.size (fun k_ => (P0_ k_ ∨ w.heap.size ≤ k_)) u9000_ x0_1) ∧ Zs (Kept w w' (fun k_ => P0_ k_)) ∧ Zs (Below w0.heap.size w0 w'))
 case atStart => exact ⟨(l0), (0), (20), (by first | rfl | (simp; done) | (simp [*]; done)), (by first | rfl | (simp; done) | (simp [*]; done)), H', ⟨Nat.le_refl _⟩, ⟨by (with_reducible repeat (first | apply Kd.R_alloc | apply Kd.R_drewN | apply Kd.R_drew)); exact HO0.out⟩, ⟨by repeat (first | (with_reducible first | exact HK.out | apply Kept.alloc | apply Kept.drewN | apply Kept.drew) | exact HK.out)⟩, ⟨by repeat (first | (with_reducible first | exact HB.out | apply zA | apply zB | apply zC) | exact HB.out)⟩⟩
 case round =>
  clear H'
  obtain ⟨x0_1, x7_1, x8_1, rfl, rfl, HA, HK1, HO_0, HK, HB⟩ := hrel
  cases gk with
  | zero => exact absurd HA.out (by simp [qsscff6.l0])
  | succ k1 =>
   have H := HA.out
   clear HA
   simp only [qsscff6.l0] at H
   by_cases c4 : x8_1 ≤ a1
   ·rw [if_pos c4] at H
    have c4b0 : decide (x8_1 ≤ a1) = true := decide_eq_true c4
    clear c4
    replace H := Option.bind_eq_some_iff.mp H
    obtain ⟨t101, A50, H⟩ := H
    replace H : (qsscff6.l0 k1 t101 a1 20 x8_1 (wrap64 (x8_1 + 20))) = some r := H
    have A5 := Zs.mk A50
    clear A50
    have H' := Zs.mk H
    clear H
    obtain ⟨Ao6, co6, eo6⟩ := Kd.R_slice HO_0.out
    subst eo6
    go_wp2_with (first | (go_at_call 163; (with_reducible refine (qsiscff6.calls k1 (fun k_ => some k_ = (.slice Ao6 x0_1.length co6 : Value).ownBlock) (.slice Ao6 x0_1.length co6) x0_1 x7_1 x8_1  t101 w0 _ ?side1 ?side2 A5.out).mono ?_); (case side1 => repeat (first | (with_reducible first | exact HB.out | apply zA | apply zB | apply zC) | exact HB.out)); (case side2 => exact Kd.R_tight rfl HO_0.out); rintro e w7 ⟨rfl, hy0, hb, hkp⟩; have n0_ := Zs.mk (Kd.R_reok rfl hy0 (fun k_ e_ => HO_0.out.1 k_ e_)); have n1_ := Zs.mk (Kept.then_ (S := (fun k_ => P0_ k_)) (by repeat (first | (with_reducible first | exact HK.out | apply Kept.alloc | apply Kept.drewN | apply Kept.drew) | exact HK.out)) hkp (fun k_ hs_ => (fun e_ => (HO_0.out.1 k_ e_.symm)) hs_)); have n2_ := Zs.mk (hb); clear HO_0; clear HK; clear HB; have HO_0 := n0_; have HK := n1_; have HB := n2_; clear n0_ n1_ n2_; (try clear hb); (try clear hkp); (try clear hy0)))
    go_roundg k1
    case measure => have := HK1.out; omega
    case rel => exact ⟨(t101), (x8_1), (wrap64 (x8_1 + 20)), (by first | rfl | (simp; done) | (simp [*]; done)), (by first | rfl | (simp; done) | (simp [*]; done)), H', ⟨by have := HK1.out; omega⟩, ⟨by (with_reducible repeat (first | apply Kd.R_alloc | apply Kd.R_drewN | apply Kd.R_drew)); exact HO_0.out⟩, ⟨by repeat (first | (with_reducible first | exact HK.out | apply Kept.alloc | apply Kept.drewN | apply Kept.drew) | exact HK.out)⟩, ⟨by repeat (first | (with_reducible first | exact HB.out | apply zA | apply zB | apply zC) | exact HB.out)⟩⟩
   ·rw [if_neg c4] at H
    have c4b0 : decide (x8_1 ≤ a1) = false := decide_eq_false c4
    clear c4
    replace H := Option.bind_eq_some_iff.mp H
    obtain ⟨t102, A80, H⟩ := H
    replace H : (qsscff6.l1 k1 t102 a1 20) = some r := H
    have A8 := Zs.mk A80
    clear A80
    have H' := Zs.mk H
    clear H
    obtain ⟨Ao9, co9, eo9⟩ := Kd.R_slice HO_0.out
    subst eo9
    go_wp2_with (first | (go_at_call 163; (with_reducible refine (qsiscff6.calls k1 (fun k_ => some k_ = (.slice Ao9 x0_1.length co9 : Value).ownBlock) (.slice Ao9 x0_1.length co9) x0_1 x7_1 a1  t102 w0 _ ?side1 ?side2 A8.out).mono ?_); (case side1 => repeat (first | (with_reducible first | exact HB.out | apply zA | apply zB | apply zC) | exact HB.out)); (case side2 => exact Kd.R_tight rfl HO_0.out); rintro e w10 ⟨rfl, hy0, hb, hkp⟩; have n0_ := Zs.mk (Kd.R_reok rfl hy0 (fun k_ e_ => HO_0.out.1 k_ e_)); have n1_ := Zs.mk (Kept.then_ (S := (fun k_ => P0_ k_)) (by repeat (first | (with_reducible first | exact HK.out | apply Kept.alloc | apply Kept.drewN | apply Kept.drew) | exact HK.out)) hkp (fun k_ hs_ => (fun e_ => (HO_0.out.1 k_ e_.symm)) hs_)); have n2_ := Zs.mk (hb); clear HO_0; clear HK; clear HB; have HO_0 := n0_; have HK := n1_; have HB := n2_; clear n0_ n1_ n2_; (try clear hb); (try clear hkp); (try clear hy0)))
    go_loopg [6] k1 (fun kq v6 w' => ∃ (x0_2 : List Nat) (x6_2 : Int), v6 = .int .i64 x6_2 ∧ Zs (qsscff6.l1 kq x0_2 a1 x6_2 = some r) ∧ Zs (kq ≤ k1) ∧ Zs (Kd.R (Kd.scalar (Value.float .f64) (fun _ => rfl)) 23 w' w0.heap.size (fun k_ => (P0_ k_ ∨ w.heap.size ≤ k_)) (.slice Ao9 x0_1.length co9) x0_2) ∧ Zs (Kept w w' (fun k_ => P0_ k_)) ∧ Zs (Below w0.heap.size w0 w'))
    case atStart => exact ⟨(t102), (20), (by first | rfl | (simp; done) | (simp [*]; done)), H', ⟨Nat.le_refl _⟩, ⟨by (with_reducible repeat (first | apply Kd.R_alloc | apply Kd.R_drewN | apply Kd.R_drew)); exact HO_0.out⟩, ⟨by repeat (first | (with_reducible first | exact HK.out | apply Kept.alloc | apply Kept.drewN | apply Kept.drew) | exact HK.out)⟩, ⟨by repeat (first | (with_reducible first | exact HB.out | apply zA | apply zB | apply zC) | exact HB.out)⟩⟩
    case round =>
     clear H'
     try clear c4; try clear c4b0
     obtain ⟨x0_2, x6_2, rfl, HA, HK2, HO_0, HK, HB⟩ := hrel
     have hl0_2 := (Kd.R_reads' HO_0.out).1
     rw [hl0_2] at HO_0
     (try simp only [hl0_2])
     cases gk with
     | zero => exact absurd HA.out (by simp [qsscff6.l1])
     | succ k2 =>
      have H := HA.out
      clear HA
      simp only [qsscff6.l1] at H
      by_cases c11 : x6_2 < a1
      ·rw [if_pos c11] at H
       have c11b0 : decide (x6_2 < a1) = true := decide_eq_true c11
       clear c11
       have H' := Zs.mk H
       clear H
       go_wp2
       go_loopg [7, 8] k2 (fun kq v7 v8 w' => ∃ (x0_3 : List Nat) (x7_3 : Int) (x8_3 : Int), v7 = .int .i64 x7_3 ∧ v8 = .int .i64 x8_3 ∧ Zs (qsscff6.l2 kq x0_3 a1 x6_2 x7_3 x8_3 = some r) ∧ Zs (kq ≤ k2) ∧ Zs (Kd.R (Kd.scalar (Value.float .f64) (fun _ => rfl)) 23 w' w0.heap.size (fun k_ => (P0_ k_ ∨ w.heap.size ≤ k_)) (.slice Ao9 x0_2.length co9) x0_3) ∧ Zs (Kept w w' (fun k_ => P0_ k_)) ∧ Zs (Below w0.heap.size w0 w'))
       case atStart => exact ⟨(x0_2), (0), (wrap64 (2 * x6_2)), (by first | rfl | (simp; done) | (simp [*]; done)), (by first | rfl | (simp; done) | (simp [*]; done)), H', ⟨Nat.le_refl _⟩, ⟨by (try simp only [hl0_2]); (with_reducible repeat (first | apply Kd.R_alloc | apply Kd.R_drewN | apply Kd.R_drew)); exact HO_0.out⟩, ⟨by repeat (first | (with_reducible first | exact HK.out | apply Kept.alloc | apply Kept.drewN | apply Kept.drew) | exact HK.out)⟩, ⟨by repeat (first | (with_reducible first | exact HB.out | apply zA | apply zB | apply zC) | exact HB.out)⟩⟩
       case round =>
        clear H'
        try clear c4; try clear c4b0; try clear c11; try clear c11b0
        obtain ⟨x0_3, x7_3, x8_3, rfl, rfl, HA, HK3, HO_0, HK, HB⟩ := hrel
        have hl0_3 := (Kd.R_reads' HO_0.out).1
        rw [hl0_3] at HO_0
        (try simp only [hl0_3])
        cases gk with
        | zero => exact absurd HA.out (by simp [qsscff6.l2])
        | succ k3 =>
         have H := HA.out
         clear HA
         simp only [qsscff6.l2] at H
         by_cases c12 : x8_3 ≤ a1
         ·rw [if_pos c12] at H
          have c12b0 : decide (x8_3 ≤ a1) = true := decide_eq_true c12
          clear c12
          replace H := Option.bind_eq_some_iff.mp H
          obtain ⟨t103, A130, H⟩ := H
          replace H : (qsscff6.l2 k3 t103 a1 x6_2 x8_3 (wrap64 (x8_3 + (wrap64 (2 * x6_2))))) = some r := H
          have A13 := Zs.mk A130
          clear A130
          have H' := Zs.mk H
          clear H
          go_wp2_with (first | (go_at_call 164; (with_reducible refine (qssmcff6.calls k3 (fun k_ => some k_ = (.slice Ao9 x0_3.length co9 : Value).ownBlock) (.slice Ao9 x0_3.length co9) x0_3 x7_3 (wrap64 (x7_3 + x6_2)) x8_3  t103 w0 _ ?side1 ?side2 A13.out).mono ?_); (case side1 => repeat (first | (with_reducible first | exact HB.out | apply zA | apply zB | apply zC) | exact HB.out)); (case side2 => exact Kd.R_tight rfl HO_0.out); rintro e w14 ⟨rfl, hy0, hb, hkp⟩; have n0_ := Zs.mk (Kd.R_reok rfl hy0 (fun k_ e_ => HO_0.out.1 k_ e_)); have n1_ := Zs.mk (Kept.then_ (S := (fun k_ => P0_ k_)) (by repeat (first | (with_reducible first | exact HK.out | apply Kept.alloc | apply Kept.drewN | apply Kept.drew) | exact HK.out)) hkp (fun k_ hs_ => (fun e_ => (HO_0.out.1 k_ e_.symm)) hs_)); have n2_ := Zs.mk (hb); clear HO_0; clear HK; clear HB; have HO_0 := n0_; have HK := n1_; have HB := n2_; clear n0_ n1_ n2_; (try clear hb); (try clear hkp); (try clear hy0)))
          (try simp only [← hl0_3])
          go_roundg k3
          case measure => have := HK1.out; have := HK2.out; have := HK3.out; omega
          case rel => exact ⟨(t103), (x8_3), (wrap64 (x8_3 + (wrap64 (2 * x6_2)))), (by first | rfl | (simp; done) | (simp [*]; done)), (by first | rfl | (simp; done) | (simp [*]; done)), H', ⟨by have := HK1.out; have := HK2.out; have := HK3.out; omega⟩, ⟨by (try simp only [hl0_2]); (try simp only [hl0_3]); (with_reducible repeat (first | apply Kd.R_alloc | apply Kd.R_drewN | apply Kd.R_drew)); exact HO_0.out⟩, ⟨by repeat (first | (with_reducible first | exact HK.out | apply Kept.alloc | apply Kept.drewN | apply Kept.drew) | exact HK.out)⟩, ⟨by repeat (first | (with_reducible first | exact HB.out | apply zA | apply zB | apply zC) | exact HB.out)⟩⟩
         ·rw [if_neg c12] at H
          have c12b0 : decide (x8_3 ≤ a1) = false := decide_eq_false c12
          clear c12
          by_cases c15 : (wrap64 (x7_3 + x6_2)) < a1
          ·rw [if_pos c15] at H
           have c15b0 : decide ((wrap64 (x7_3 + x6_2)) < a1) = true := decide_eq_true c15
           clear c15
           replace H := Option.bind_eq_some_iff.mp H
           obtain ⟨t104, A160, H⟩ := H
           replace H : (qsscff6.l1 k3 t104 a1 (wrap64 (x6_2 * 2))) = some r := H
           have A16 := Zs.mk A160
           clear A160
           have H' := Zs.mk H
           clear H
           go_wp2_with (first | (go_at_call 164; (with_reducible refine (qssmcff6.calls k3 (fun k_ => some k_ = (.slice Ao9 x0_3.length co9 : Value).ownBlock) (.slice Ao9 x0_3.length co9) x0_3 x7_3 (wrap64 (x7_3 + x6_2)) a1  t104 w0 _ ?side1 ?side2 A16.out).mono ?_); (case side1 => repeat (first | (with_reducible first | exact HB.out | apply zA | apply zB | apply zC) | exact HB.out)); (case side2 => exact Kd.R_tight rfl HO_0.out); rintro e w17 ⟨rfl, hy0, hb, hkp⟩; have n0_ := Zs.mk (Kd.R_reok rfl hy0 (fun k_ e_ => HO_0.out.1 k_ e_)); have n1_ := Zs.mk (Kept.then_ (S := (fun k_ => P0_ k_)) (by repeat (first | (with_reducible first | exact HK.out | apply Kept.alloc | apply Kept.drewN | apply Kept.drew) | exact HK.out)) hkp (fun k_ hs_ => (fun e_ => (HO_0.out.1 k_ e_.symm)) hs_)); have n2_ := Zs.mk (hb); clear HO_0; clear HK; clear HB; have HO_0 := n0_; have HK := n1_; have HB := n2_; clear n0_ n1_ n2_; (try clear hb); (try clear hkp); (try clear hy0)))
           (try simp only [← hl0_2, ← hl0_3])
           go_roundg k3
           case measure => have := HK1.out; have := HK2.out; have := HK3.out; omega
           case rel => exact ⟨(t104), (wrap64 (x6_2 * 2)), (by first | rfl | (simp; done) | (simp [*]; done)), H', ⟨by have := HK1.out; have := HK2.out; have := HK3.out; omega⟩, ⟨by (try simp only [hl0_2]); (try simp only [hl0_3]); (with_reducible repeat (first | apply Kd.R_alloc | apply Kd.R_drewN | apply Kd.R_drew)); exact HO_0.out⟩, ⟨by repeat (first | (with_reducible first | exact HK.out | apply Kept.alloc | apply Kept.drewN | apply Kept.drew) | exact HK.out)⟩, ⟨by repeat (first | (with_reducible first | exact HB.out | apply zA | apply zB | apply zC) | exact HB.out)⟩⟩
          ·rw [if_neg c15] at H
           have c15b0 : decide ((wrap64 (x7_3 + x6_2)) < a1) = false := decide_eq_false c15
           clear c15
           have H' := Zs.mk H
           clear H
           go_wp2
           (try simp only [← hl0_2, ← hl0_3])
           go_roundg k3
           case measure => have := HK1.out; have := HK2.out; have := HK3.out; omega
           case rel => exact ⟨(x0_3), (wrap64 (x6_2 * 2)), (by first | rfl | (simp; done) | (simp [*]; done)), H', ⟨by have := HK1.out; have := HK2.out; have := HK3.out; omega⟩, ⟨by (try simp only [hl0_2]); (try simp only [hl0_3]); (with_reducible repeat (first | apply Kd.R_alloc | apply Kd.R_drewN | apply Kd.R_drew)); exact HO_0.out⟩, ⟨by repeat (first | (with_reducible first | exact HK.out | apply Kept.alloc | apply Kept.drewN | apply Kept.drew) | exact HK.out)⟩, ⟨by repeat (first | (with_reducible first | exact HB.out | apply zA | apply zB | apply zC) | exact HB.out)⟩⟩
      ·rw [if_neg c11] at H
       have c11b0 : decide (x6_2 < a1) = false := decide_eq_false c11
       clear c11
       obtain rfl := Option.some.inj H
       go_wp2
       first | go_end0 | ((try simp only [Exit.inBlock, Exit.then]); refine bodyPost_ret (results_none rfl _ _ _) rfl ?_)
       exact ⟨by first | rfl | (simp [zE, zF] <;> rfl) | (simp [*, zE, zF] <;> rfl), (by first | exact (by (with_reducible repeat (first | apply Kd.R_alloc | apply Kd.R_drewN | apply Kd.R_drew)); exact HO_0.out) | (simp only [hl0_2]; exact (by (with_reducible repeat (first | apply Kd.R_alloc | apply Kd.R_drewN | apply Kd.R_drew)); exact HO_0.out))), by repeat (first | (with_reducible first | exact HB.out | apply zA | apply zB | apply zC) | exact HB.out), by repeat (first | (with_reducible first | exact HK.out | apply Kept.alloc | apply Kept.drewN | apply Kept.drew) | exact HK.out)⟩
end Go.Proofs.Ytkmbgfhkdopigaa.P
namespace Go.Proofs.Ytkmbgfhkdopigaa.P
open Go.RowKit Go.Proofs.YtkmbgfhkdopigaaW.PrintWords Go.Proofs.YtkmbgfhkdopigaaW.PrintLast Go.Proofs.YtkmbgfhkdopigaaW.PrintMore
attribute [local go_sem] max2_int min2_int max_two min_two max_three min_three max_four min_four
attribute [local go_sem] Go.Proofs.Ytkmbgfhkdopigaa.Fl.store_float Go.Proofs.Ytkmbgfhkdopigaa.Fl.call54 Go.Proofs.Ytkmbgfhkdopigaa.Fl.call22 Go.Proofs.Ytkmbgfhkdopigaa.Fl.call14 Go.Proofs.Ytkmbgfhkdopigaa.Fl.call28
set_option linter.unusedVariables false
set_option linter.unusedSimpArgs false
def qsssff6f6.f (k : Nat) (l0 : List Nat)  : Option (List Nat) := (qsscff6.f k l0 (l0.length : Int)).bind fun t101 => (some t101)
set_option maxHeartbeats 8000000 in
set_option maxRecDepth 100000 in
theorem qsssff6f6.calls (k : Nat) (P0_ : Nat → Prop) (u9000_ : Value) (l0 : List Nat)  (r : List Nat) (w0 w : World) (hB : Below w0.heap.size w0 w) (ho0 : Kd.R (Kd.scalar (Value.float .f64) (fun _ => rfl)) 23 w w0.heap.size P0_ u9000_ l0) (h : qsssff6f6.f k l0 = some r) :
  Calls Try.prog 98 #[u9000_, .func (.func 52) #[] #[]] w fun e w' => e = .returned (.tuple #[]) ∧ Kd.R (Kd.scalar (Value.float .f64) (fun _ => rfl)) 23 w' w0.heap.size (fun k_ => (P0_ k_ ∨ w.heap.size ≤ k_)) u9000_ r ∧ Below w0.heap.size w0 w' ∧ Kept w w' (fun k_ => P0_ k_) := by
 have HO0 := Zs.mk (show Kd.R (Kd.scalar (Value.float .f64) (fun _ => rfl)) 23 w w0.heap.size (fun k_ => (P0_ k_ ∨ w.heap.size ≤ k_)) u9000_ l0 from Kd.R_mono ho0 (fun k_ hk => (.inl hk)))
 have HK := Zs.mk (Kept.refl w (fun k_ => P0_ k_))
 have HW0 := Zs.mk hB.size
 have HB := Zs.mk hB
 clear hB
 have H : ((qsscff6.f k l0 (l0.length : Int)).bind fun t101 => (some t101)) = some r := h
 clear h
 replace H := Option.bind_eq_some_iff.mp H
 obtain ⟨t101, A30, H⟩ := H
 replace H : (some t101) = some r := H
 have A3 := Zs.mk A30
 clear A30
 obtain rfl := Option.some.inj H
 obtain ⟨Ao4, co4, eo4⟩ := Kd.R_slice HO0.out
 subst eo4
 go_enter Try.func98, Try.ntmps98
 go_wp2_with (first | (go_at_call 139; (with_reducible refine (qsscff6.calls k (fun k_ => some k_ = (.slice Ao4 l0.length co4 : Value).ownBlock) (.slice Ao4 l0.length co4) l0 (l0.length : Int)  t101 w0 _ ?side1 ?side2 A3.out).mono ?_); (case side1 => repeat (first | (with_reducible first | exact HB.out | apply zA | apply zB | apply zC) | exact HB.out)); (case side2 => exact Kd.R_tight rfl HO0.out); rintro e w5 ⟨rfl, hy0, hb, hkp⟩; have n0_ := Zs.mk (Kd.R_reok rfl hy0 (fun k_ e_ => HO0.out.1 k_ e_)); have n1_ := Zs.mk (Kept.then_ (S := (fun k_ => P0_ k_)) (by repeat (first | (with_reducible first | exact HK.out | apply Kept.alloc | apply Kept.drewN | apply Kept.drew) | exact HK.out)) hkp (fun k_ hs_ => (fun e_ => (HO0.out.1 k_ e_.symm)) hs_)); have n2_ := Zs.mk (hb); clear HO0; clear HK; clear HB; have HO0 := n0_; have HK := n1_; have HB := n2_; clear n0_ n1_ n2_; (try clear hb); (try clear hkp); (try clear hy0)))
 first | go_end0 | ((try simp only [Exit.inBlock, Exit.then]); refine bodyPost_ret (results_none rfl _ _ _) rfl ?_)
 exact ⟨by first | rfl | (simp [zE, zF] <;> rfl) | (simp [*, zE, zF] <;> rfl), by (with_reducible repeat (first | apply Kd.R_alloc | apply Kd.R_drewN | apply Kd.R_drew)); exact HO0.out, by repeat (first | (with_reducible first | exact HB.out | apply zA | apply zB | apply zC) | exact HB.out), by repeat (first | (with_reducible first | exact HK.out | apply Kept.alloc | apply Kept.drewN | apply Kept.drew) | exact HK.out)⟩
def qos.f (k : Nat) (l0 : List Nat) : Option (List Nat) := if ([] : List Nat).length + l0.length < 17592186044416 then ((qsssff6f6.f k (([] : List Nat) ++ l0)).bind fun t104 => (some t104)) else (none)
set_option maxHeartbeats 8000000 in
set_option maxRecDepth 100000 in
theorem qos.calls (k : Nat) (A0 : Option Addr) (c0 : Nat) (l0 : List Nat) (r : List Nat) (w : World) (hr0 : Kd.C (Kd.scalar (Value.float .f64) (fun _ => rfl)) w A0 l0.length l0) (hc0 : l0.length ≤ c0) (h : qos.f k l0 = some r) :
  Calls Try.prog 45 #[.slice A0 l0.length c0] w fun e w' => ∃ v0_ : Value, e = .returned (v0_) ∧ Kd.R (Kd.scalar (Value.float .f64) (fun _ => rfl)) 23 w' w.heap.size (fun _ => True) v0_ r ∧ Below w.heap.size w w' := by
 have HR0 := Zs.mk hr0
 have HC0 := Zs.mk hc0
 clear hr0 hc0
 have HB := Zs.mk (Below.refl w.heap.size w)
 have H : (if ([] : List Nat).length + l0.length < 17592186044416 then ((qsssff6f6.f k (([] : List Nat) ++ l0)).bind fun t104 => (some t104)) else (none)) = some r := h
 clear h
 by_cases c2 : ([] : List Nat).length + l0.length < 17592186044416
 ·rw [if_pos c2] at H
  have LMc2 := Zs.mk c2
  clear c2
  obtain ⟨y101, hy101⟩ : ∃ y_ : List Nat, y_ = (([] : List Nat) ++ l0) := ⟨_, rfl⟩
  replace H : ((qsssff6f6.f k y101).bind fun t104 => (some t104)) = some r := by first | (rw [hy101]; with_reducible exact H) | (have H2_ := (Option.bind_some _ _).symm.trans H; rw [hy101]; with_reducible exact H2_) | (have H2_ := (Option.bind_some _ _).symm.trans H; with_reducible exact H2_) | with_reducible exact H | (rw [hy101]; exact H) | exact H
  have Ny101 := Zs.mk hy101
  clear hy101
  replace H := Option.bind_eq_some_iff.mp H
  obtain ⟨t104, A30, H⟩ := H
  replace H : (some t104) = some r := H
  have A3 := Zs.mk A30
  clear A30
  obtain rfl := Option.some.inj H
  go_enter Try.func45, Try.ntmps45
  go_wp2_with (first | ((with_reducible refine gate_builtin (b := .append) (xs := #[.const (.slice none 0 0), .tmp 4]) rfl ?_); at_builtin; refine Kd.R_append_rows (Kd.scalar (Value.float .f64) (fun _ => rfl)) (w0 := w) w.heap.size rfl (.const (.slice none 0 0)) (.tmp 4) 70 23 (.float .f64 0) 8 rfl Try.underlying70 info23 rfl (by decide) (by omega) (.slice none 0 0) ([] : List Nat) l0 _ _ _ (fun _ => True) (fun _ => False) rfl rfl ?aO ?aR (fun _ _ h => h) (fun _ h => h.elim) ?aF ?aB ?aS ?aL ?_; (case aR => repeat (first | exact HR0.out | (with_reducible refine Kd.C_alloc ?_ _) | (with_reducible refine Kd.C_drewN ?_ _) | (with_reducible refine Kd.C_drew ?_))); (case aB => exact (by repeat (first | (with_reducible first | exact HB.out | apply zA | apply zB | apply zC) | exact HB.out))); (case aF => exact (fun _ _ => trivial)); (case aO => exact ((Kd.R_nil _ _ _ _ (fun _ => True)))); (case aS => exact (below_size (by repeat (first | (with_reducible first | exact HB.out | apply zA | apply zB | apply zC) | exact HB.out)))); (case aL => have := LMc2.out; omega); intro v102 w4 ho hb hg hat; rw [← Ny101.out] at ho; have n0_ := Zs.mk (hb); have n1_ := Zs.mk (ho); clear HB; have HB := n0_; have HO103 := n1_; clear n0_ n1_; clear ho hb hg hat; obtain ⟨Ao5, co5, eo5⟩ := Kd.R_slice HO103.out; subst eo5) | (go_at_call 98; (with_reducible refine (qsssff6f6.calls k (fun k_ => some k_ = (.slice Ao5 y101.length co5 : Value).ownBlock) (.slice Ao5 y101.length co5) y101  t104 w _ ?side1 ?side2 A3.out).mono ?_); (case side1 => repeat (first | (with_reducible first | exact HB.out | apply zA | apply zB | apply zC) | exact HB.out)); (case side2 => exact Kd.R_tight rfl HO103.out); rintro e w6 ⟨rfl, hy0, hb, hkp⟩; have n0_ := Zs.mk (Kd.R_reok rfl hy0 (fun k_ e_ => HO103.out.1 k_ e_)); have n1_ := Zs.mk (hb); clear HO103; clear HB; have HO103 := n0_; have HB := n1_; clear n0_ n1_; (try clear hb); (try clear hkp); (try clear hy0)))
  go_ret
  exact ⟨_, by first | rfl | (simp [zE, zF] <;> rfl) | (simp [*, zE, zF] <;> rfl), by (with_reducible repeat (first | apply Kd.R_alloc | apply Kd.R_drewN | apply Kd.R_drew)); exact HO103.out, by repeat (first | (with_reducible first | exact HB.out | apply zA | apply zB | apply zC) | exact HB.out)⟩
 ·rw [if_neg c2] at H
  exact absurd H (by simp)
def qob.l0 : Nat → Nat → Int → List Nat → Int → Int → Option (Int)
 | 0, _, _, _, _, _ => none
 | k + 1, x1, x5, x8, x9, x10 => if x10 < x9 then (if 0 ≤ x10 then (if x10 < (x8.length : Int) then ((qok.f (rdOf (0 : Nat) x8 x10)).bind fun t102 => ((qok.f x1).bind fun t103 => (if t102 < t103 then (qob.l0 k x1 (wrap64 (x5 + 1)) x8 x9 (wrap64 (x10 + 1))) else (qob.l0 k x1 x5 x8 x9 (wrap64 (x10 + 1)))))) else (none)) else (none)) else (some x5)
def qob.f (k : Nat) (l0 : List Nat) (a1 : Nat) : Option (Int) := qob.l0 k a1 0 l0 (l0.length : Int) 0
set_option maxHeartbeats 8000000 in
set_option maxRecDepth 100000 in
theorem qob.calls (k : Nat) (A0 : Option Addr) (c0 : Nat) (l0 : List Nat) (a1 : Nat) (r : Int) (w : World) (hr0 : Kd.C (Kd.scalar (Value.float .f64) (fun _ => rfl)) w A0 l0.length l0) (hc0 : l0.length ≤ c0) (h : qob.f k l0 a1 = some r) :
  Calls Try.prog 49 #[.slice A0 l0.length c0, .float .f64 a1] w fun e w' => e = .returned (.int .i64 r) ∧ Drawn0 w w' := by
 have HR0 := Zs.mk hr0
 have HC0 := Zs.mk hc0
 clear hr0 hc0
 have H : (qob.l0 k a1 0 l0 (l0.length : Int) 0) = some r := h
 clear h
 have H' := Zs.mk H
 clear H
 go_enter Try.func49, Try.ntmps49
 go_wp2
 go_loopg [5, 10] k (fun kq v5 v10 w' => ∃ (x5_1 : Int) (x10_1 : Int), v5 = .int .i64 x5_1 ∧ v10 = .int .i64 x10_1 ∧ Zs (qob.l0 kq a1 x5_1 l0 (l0.length : Int) x10_1 = some r) ∧ Zs (kq ≤ k) ∧ Drawn0 w w')
 case atStart => exact ⟨(0), (0), (by first | rfl | (simp; done) | (simp [*]; done)), (by first | rfl | (simp; done) | (simp [*]; done)), H', ⟨Nat.le_refl _⟩, by repeat (first | exact Drawn0.refl _ | apply Drawn0.step)⟩
 case round =>
  clear H'
  obtain ⟨x5_1, x10_1, rfl, rfl, HA, HK1, ⟨m1, rfl⟩⟩ := hrel
  cases gk with
  | zero => exact absurd HA.out (by simp [qob.l0])
  | succ k1 =>
   have H := HA.out
   clear HA
   simp only [qob.l0] at H
   by_cases c3 : x10_1 < (l0.length : Int)
   ·rw [if_pos c3] at H
    have c3b0 : decide (x10_1 < (l0.length : Int)) = true := decide_eq_true c3
    clear c3
    by_cases c4 : 0 ≤ x10_1
    ·rw [if_pos c4] at H
     have c4b0 : decide (0 ≤ x10_1) = true := decide_eq_true c4
     clear c4
     by_cases c5 : x10_1 < (l0.length : Int)
     ·rw [if_pos c5] at H
      have c5b0 : decide (x10_1 < (l0.length : Int)) = true := decide_eq_true c5
      clear c5
      replace H := Option.bind_eq_some_iff.mp H
      obtain ⟨t102, A60, H⟩ := H
      replace H : ((qok.f a1).bind fun t103 => (if t102 < t103 then (qob.l0 k1 a1 (wrap64 (x5_1 + 1)) l0 (l0.length : Int) (wrap64 (x10_1 + 1))) else (qob.l0 k1 a1 x5_1 l0 (l0.length : Int) (wrap64 (x10_1 + 1))))) = some r := H
      have A6 := Zs.mk A60
      clear A60
      replace H := Option.bind_eq_some_iff.mp H
      obtain ⟨t103, A70, H⟩ := H
      replace H : (if t102 < t103 then (qob.l0 k1 a1 (wrap64 (x5_1 + 1)) l0 (l0.length : Int) (wrap64 (x10_1 + 1))) else (qob.l0 k1 a1 x5_1 l0 (l0.length : Int) (wrap64 (x10_1 + 1)))) = some r := H
      have A7 := Zs.mk A70
      clear A70
      by_cases c8 : t102 < t103
      ·rw [if_pos c8] at H
       have c8b0 : decide (t102 < t103) = true := decide_eq_true c8
       clear c8
       have H' := Zs.mk H
       clear H
       have p101 : 0 ≤ (x10_1 : Int) := of_decide_eq_true (by first | (with_reducible assumption) | assumption)
       have q101 : x10_1 < (l0.length : Int) := of_decide_eq_true (by first | (with_reducible assumption) | assumption)
       obtain ⟨ad101, e101, hx101_0⟩ := Kd.at_flo HR0.out x10_1 p101 q101
       cases e101
       replace p101 := eq_true p101
       replace q101 := eq_true q101
       go_wp2_with (first | ((with_reducible refine gate_callee (f := 80) rfl ?_); refine goesL_ (some 15) rfl rfl Try.func80 (by kernel_rfl) rfl #[.float .f64 (rdOf (0 : Nat) l0 x10_1)] rfl (by (try simp only [List.map_toArray, List.map_cons, List.map_nil]); first | done | rfl | (simp only [List.length_drop, List.length_take]; rfl)) ?_; (with_reducible refine (qok.calls (rdOf (0 : Nat) l0 x10_1) t102 _ A6.out).mono ?_); rintro e w' ⟨rfl, ⟨nd, rfl⟩⟩; refine ⟨_, rfl, ?_⟩) | ((with_reducible refine gate_callee (f := 80) rfl ?_); refine goesL_ (some 17) rfl rfl Try.func80 (by kernel_rfl) rfl #[.float .f64 a1] rfl (by (try simp only [List.map_toArray, List.map_cons, List.map_nil]); first | done | rfl | (simp only [List.length_drop, List.length_take]; rfl)) ?_; (with_reducible refine (qok.calls a1 t103 _ A7.out).mono ?_); rintro e w' ⟨rfl, ⟨nd, rfl⟩⟩; refine ⟨_, rfl, ?_⟩))
       go_roundg k1
       case measure => have := HK1.out; omega
       case rel => exact ⟨(wrap64 (x5_1 + 1)), (wrap64 (x10_1 + 1)), (by first | rfl | (simp; done) | (simp [*]; done)), (by first | rfl | (simp; done) | (simp [*]; done)), H', ⟨by have := HK1.out; omega⟩, by repeat (first | exact Drawn0.refl _ | apply Drawn0.step)⟩
      ·rw [if_neg c8] at H
       have c8b0 : decide (t102 < t103) = false := decide_eq_false c8
       clear c8
       have H' := Zs.mk H
       clear H
       have p101 : 0 ≤ (x10_1 : Int) := of_decide_eq_true (by first | (with_reducible assumption) | assumption)
       have q101 : x10_1 < (l0.length : Int) := of_decide_eq_true (by first | (with_reducible assumption) | assumption)
       obtain ⟨ad101, e101, hx101_0⟩ := Kd.at_flo HR0.out x10_1 p101 q101
       cases e101
       replace p101 := eq_true p101
       replace q101 := eq_true q101
       go_wp2_with (first | ((with_reducible refine gate_callee (f := 80) rfl ?_); refine goesL_ (some 15) rfl rfl Try.func80 (by kernel_rfl) rfl #[.float .f64 (rdOf (0 : Nat) l0 x10_1)] rfl (by (try simp only [List.map_toArray, List.map_cons, List.map_nil]); first | done | rfl | (simp only [List.length_drop, List.length_take]; rfl)) ?_; (with_reducible refine (qok.calls (rdOf (0 : Nat) l0 x10_1) t102 _ A6.out).mono ?_); rintro e w' ⟨rfl, ⟨nd, rfl⟩⟩; refine ⟨_, rfl, ?_⟩) | ((with_reducible refine gate_callee (f := 80) rfl ?_); refine goesL_ (some 17) rfl rfl Try.func80 (by kernel_rfl) rfl #[.float .f64 a1] rfl (by (try simp only [List.map_toArray, List.map_cons, List.map_nil]); first | done | rfl | (simp only [List.length_drop, List.length_take]; rfl)) ?_; (with_reducible refine (qok.calls a1 t103 _ A7.out).mono ?_); rintro e w' ⟨rfl, ⟨nd, rfl⟩⟩; refine ⟨_, rfl, ?_⟩))
       go_roundg k1
       case measure => have := HK1.out; omega
       case rel => exact ⟨(x5_1), (wrap64 (x10_1 + 1)), (by first | rfl | (simp; done) | (simp [*]; done)), (by first | rfl | (simp; done) | (simp [*]; done)), H', ⟨by have := HK1.out; omega⟩, by repeat (first | exact Drawn0.refl _ | apply Drawn0.step)⟩
     ·rw [if_neg c5] at H
      exact absurd H (by simp)
    ·rw [if_neg c4] at H
     exact absurd H (by simp)
   ·rw [if_neg c3] at H
    have c3b0 : decide (x10_1 < (l0.length : Int)) = false := decide_eq_false c3
    clear c3
    obtain rfl := Option.some.inj H
    go_wp2
    go_ret
    exact ⟨by first | rfl | (simp; done) | (simp [*]; done), by repeat (first | exact Drawn0.refl _ | apply Drawn0.step)⟩
def qmnn.f  : Option (Nat) := some 9221120237041090561
set_option maxHeartbeats 8000000 in
set_option maxRecDepth 100000 in
theorem qmnn.calls  (r : Nat) (w : World) (h : qmnn.f  = some r) :
  Calls Try.prog 142 #[] w fun e w' => e = .returned (.float .f64 r) ∧ Drawn0 w w' := by
 have H : (some 9221120237041090561) = some r := h
 clear h
 obtain rfl := Option.some.inj H
 go_enter Try.func142, Try.ntmps142
 go_wp2
 go_ret
 exact ⟨by first | rfl | (simp; done) | (simp [*]; done), by repeat (first | exact Drawn0.refl _ | apply Drawn0.step)⟩
def qoa.f (a0 : Int) : Option (Nat × Int) := if a0 > 18437736874454810625 then (some (0, 2)) else (if a0 = 18437736874454810625 then ((qmnn.f).bind fun t101 => (some (t101, 0))) else (if a0 ≥ 9218868437227405312 then (some ((IntKind.u64.wrap (a0 - 9218868437227405312)).toNat, 0)) else (some ((Go.bits .or .u64 9223372036854775808 (IntKind.u64.wrap (9218868437227405312 - a0))).toNat, 0))))
set_option maxHeartbeats 8000000 in
set_option maxRecDepth 100000 in
theorem qoa.calls (a0 : Int) (r1 : Nat) (r2 : Int) (w : World) (h : qoa.f a0 = some (r1, r2)) :
  Calls Try.prog 100 #[.int .u64 a0] w fun e w' => e = .returned (.tuple #[.float .f64 r1, .int .i64 r2]) ∧ Drawn0 w w' := by
 have H : (if a0 > 18437736874454810625 then (some (0, 2)) else (if a0 = 18437736874454810625 then ((qmnn.f).bind fun t101 => (some (t101, 0))) else (if a0 ≥ 9218868437227405312 then (some ((IntKind.u64.wrap (a0 - 9218868437227405312)).toNat, 0)) else (some ((Go.bits .or .u64 9223372036854775808 (IntKind.u64.wrap (9218868437227405312 - a0))).toNat, 0))))) = some (r1, r2) := h
 clear h
 by_cases c2 : a0 > 18437736874454810625
 ·rw [if_pos c2] at H
  have c2b0 : decide (18437736874454810625 < a0) = true := decide_eq_true c2
  clear c2
  simp only [Option.some.injEq, Prod.mk.injEq] at H
  obtain ⟨rfl, rfl⟩ := H
  go_enter Try.func100, Try.ntmps100
  go_wp2
  go_ret2
  exact ⟨by first | rfl | (simp; done) | (simp [*]; done), by repeat (first | exact Drawn0.refl _ | apply Drawn0.step)⟩
 ·rw [if_neg c2] at H
  have c2b0 : decide (18437736874454810625 < a0) = false := decide_eq_false c2
  clear c2
  by_cases c3 : a0 = 18437736874454810625
  ·rw [if_pos c3] at H
   have c3b0 : (a0 == 18437736874454810625) = true := beq_iff_eq.mpr c3
   have c3b1 : (a0 != 18437736874454810625) = false := bne_eq_false_iff_eq.mpr c3
   clear c3
   replace H := Option.bind_eq_some_iff.mp H
   obtain ⟨t101, A40, H⟩ := H
   replace H : (some (t101, 0)) = some (r1, r2) := H
   have A4 := Zs.mk A40
   clear A40
   simp only [Option.some.injEq, Prod.mk.injEq] at H
   obtain ⟨rfl, rfl⟩ := H
   go_enter Try.func100, Try.ntmps100
   go_wp2_with (first | ((with_reducible refine gate_callee (f := 142) rfl ?_); refine goesL_ (some 10) rfl rfl Try.func142 (by kernel_rfl) rfl #[] rfl (by (try simp only [List.map_toArray, List.map_cons, List.map_nil]); first | done | rfl | (simp only [List.length_drop, List.length_take]; rfl)) ?_; (with_reducible refine (qmnn.calls  t101 _ A4.out).mono ?_); rintro e w' ⟨rfl, ⟨nd, rfl⟩⟩; refine ⟨_, rfl, ?_⟩))
   go_ret2
   exact ⟨by first | rfl | (simp; done) | (simp [*]; done), by repeat (first | exact Drawn0.refl _ | apply Drawn0.step)⟩
  ·rw [if_neg c3] at H
   have c3b0 : (a0 == 18437736874454810625) = false := beq_eq_false_iff_ne.mpr c3
   have c3b1 : (a0 != 18437736874454810625) = true := bne_iff_ne.mpr c3
   by_cases c5 : a0 ≥ 9218868437227405312
   ·rw [if_pos c5] at H
    have c5b0 : decide (9218868437227405312 ≤ a0) = true := decide_eq_true c5
    clear c5
    simp only [Option.some.injEq, Prod.mk.injEq] at H
    obtain ⟨rfl, rfl⟩ := H
    go_enter Try.func100, Try.ntmps100
    go_wp2
    go_ret2
    exact ⟨by first | rfl | (simp; done) | (simp [*]; done), by repeat (first | exact Drawn0.refl _ | apply Drawn0.step)⟩
   ·rw [if_neg c5] at H
    have c5b0 : decide (9218868437227405312 ≤ a0) = false := decide_eq_false c5
    clear c5
    simp only [Option.some.injEq, Prod.mk.injEq] at H
    obtain ⟨rfl, rfl⟩ := H
    go_enter Try.func100, Try.ntmps100
    go_wp2
    go_ret2
    exact ⟨by first | rfl | (simp; done) | (simp [*]; done), by repeat (first | exact Drawn0.refl _ | apply Drawn0.step)⟩
def qos1.f (a0 : Nat) (a1 : Int) (a2 : Int) : Option (Nat × Int) := if ((FloatKind.format .f64).order a0 a0 != some .eq) = true then (some (0, 60)) else ((qok.f a0).bind fun t101 => (if t101 = a2 then (some (0, 61)) else ((qok.f a0).bind fun t102 => ((qoa.f (IntKind.u64.wrap (t102 + a1))).bind fun bt103 => (some (bt103.1, bt103.2))))))
set_option maxHeartbeats 8000000 in
set_option maxRecDepth 100000 in
theorem qos1.calls (a0 : Nat) (a1 : Int) (a2 : Int) (r1 : Nat) (r2 : Int) (w : World) (h : qos1.f a0 a1 a2 = some (r1, r2)) :
  Calls Try.prog 125 #[.float .f64 a0, .int .u64 a1, .int .u64 a2] w fun e w' => e = .returned (.tuple #[.float .f64 r1, .int .i64 r2]) ∧ Drawn0 w w' := by
 have H : (if ((FloatKind.format .f64).order a0 a0 != some .eq) = true then (some (0, 60)) else ((qok.f a0).bind fun t101 => (if t101 = a2 then (some (0, 61)) else ((qok.f a0).bind fun t102 => ((qoa.f (IntKind.u64.wrap (t102 + a1))).bind fun bt103 => (some (bt103.1, bt103.2))))))) = some (r1, r2) := h
 clear h
 by_cases c4 : ((FloatKind.format .f64).order a0 a0 != some .eq) = true
 ·rw [if_pos c4] at H
  have c4b0 : ((FloatKind.format .f64).order a0 a0 != some .eq) = true := c4
  (try (have c4b1 : decide ((FloatKind.format .f64).order a0 a0 = some .eq) = false := by simpa using c4))
  (try (have c4b2 : ((FloatKind.format .f64).order a0 a0 == some .eq) = false := by simpa using c4))
  (try (have c4b3 : ¬ ((FloatKind.format .f64).order a0 a0 = some .eq) := by simpa using c4))
  clear c4
  simp only [Option.some.injEq, Prod.mk.injEq] at H
  obtain ⟨rfl, rfl⟩ := H
  go_enter Try.func125, Try.ntmps125
  go_wp2
  go_ret2
  exact ⟨by first | rfl | (simp; done) | (simp [*]; done), by repeat (first | exact Drawn0.refl _ | apply Drawn0.step)⟩
 ·rw [if_neg c4] at H
  have c4b0 : ((FloatKind.format .f64).order a0 a0 != some .eq) = false := by simpa using c4
  (try (have c4b1 : decide ((FloatKind.format .f64).order a0 a0 = some .eq) = true := by simpa using c4))
  (try (have c4b2 : ((FloatKind.format .f64).order a0 a0 == some .eq) = true := by simpa using c4))
  clear c4
  replace H := Option.bind_eq_some_iff.mp H
  obtain ⟨t101, A50, H⟩ := H
  replace H : (if t101 = a2 then (some (0, 61)) else ((qok.f a0).bind fun t102 => ((qoa.f (IntKind.u64.wrap (t102 + a1))).bind fun bt103 => (some (bt103.1, bt103.2))))) = some (r1, r2) := H
  have A5 := Zs.mk A50
  clear A50
  by_cases c6 : t101 = a2
  ·rw [if_pos c6] at H
   have c6b0 : (t101 == a2) = true := beq_iff_eq.mpr c6
   have c6b1 : (t101 != a2) = false := bne_eq_false_iff_eq.mpr c6
   clear c6
   simp only [Option.some.injEq, Prod.mk.injEq] at H
   obtain ⟨rfl, rfl⟩ := H
   go_enter Try.func125, Try.ntmps125
   go_wp2_with (first | ((with_reducible refine gate_callee (f := 80) rfl ?_); refine goesL_ (some 12) rfl rfl Try.func80 (by kernel_rfl) rfl #[.float .f64 a0] rfl (by (try simp only [List.map_toArray, List.map_cons, List.map_nil]); first | done | rfl | (simp only [List.length_drop, List.length_take]; rfl)) ?_; (with_reducible refine (qok.calls a0 t101 _ A5.out).mono ?_); rintro e w' ⟨rfl, ⟨nd, rfl⟩⟩; refine ⟨_, rfl, ?_⟩))
   go_ret2
   exact ⟨by first | rfl | (simp; done) | (simp [*]; done), by repeat (first | exact Drawn0.refl _ | apply Drawn0.step)⟩
  ·rw [if_neg c6] at H
   have c6b0 : (t101 == a2) = false := beq_eq_false_iff_ne.mpr c6
   have c6b1 : (t101 != a2) = true := bne_iff_ne.mpr c6
   replace H := Option.bind_eq_some_iff.mp H
   obtain ⟨t102, A70, H⟩ := H
   replace H : ((qoa.f (IntKind.u64.wrap (t102 + a1))).bind fun bt103 => (some (bt103.1, bt103.2))) = some (r1, r2) := H
   have A7 := Zs.mk A70
   clear A70
   replace H := Option.bind_eq_some_iff.mp H
   obtain ⟨⟨t103, t104⟩, A80, H⟩ := H
   replace H : (some (t103, t104)) = some (r1, r2) := H
   have A8 := Zs.mk A80
   clear A80
   simp only [Option.some.injEq, Prod.mk.injEq] at H
   obtain ⟨rfl, rfl⟩ := H
   go_enter Try.func125, Try.ntmps125
   go_wp2_with (first | ((with_reducible refine gate_callee (f := 80) rfl ?_); refine goesL_ (some 12) rfl rfl Try.func80 (by kernel_rfl) rfl #[.float .f64 a0] rfl (by (try simp only [List.map_toArray, List.map_cons, List.map_nil]); first | done | rfl | (simp only [List.length_drop, List.length_take]; rfl)) ?_; (with_reducible refine (qok.calls a0 t101 _ A5.out).mono ?_); rintro e w' ⟨rfl, ⟨nd, rfl⟩⟩; refine ⟨_, rfl, ?_⟩) | ((with_reducible refine gate_callee (f := 80) rfl ?_); refine goesL_ (some 16) rfl rfl Try.func80 (by kernel_rfl) rfl #[.float .f64 a0] rfl (by (try simp only [List.map_toArray, List.map_cons, List.map_nil]); first | done | rfl | (simp only [List.length_drop, List.length_take]; rfl)) ?_; (with_reducible refine (qok.calls a0 t102 _ A7.out).mono ?_); rintro e w' ⟨rfl, ⟨nd, rfl⟩⟩; refine ⟨_, rfl, ?_⟩) | ((with_reducible refine gate_callee (f := 100) rfl ?_); refine goesL_ (some 19) rfl rfl Try.func100 (by kernel_rfl) rfl #[.int .u64 (IntKind.u64.wrap (t102 + a1))] rfl (by (try simp only [List.map_toArray, List.map_cons, List.map_nil]); first | done | rfl | (simp only [List.length_drop, List.length_take]; rfl)) ?_; (with_reducible refine (qoa.calls (IntKind.u64.wrap (t102 + a1)) t103 t104 _ A8.out).mono ?_); rintro e w' ⟨rfl, ⟨nd, rfl⟩⟩; refine ⟨_, rfl, ?_⟩))
   go_ret2
   exact ⟨by first | rfl | (simp; done) | (simp [*]; done), by repeat (first | exact Drawn0.refl _ | apply Drawn0.step)⟩
def qon.f (a0 : Nat) : Option (Nat × Int) := (qos1.f a0 1 18437736874454810624).bind fun bt101 => (some (bt101.1, bt101.2))
set_option maxHeartbeats 8000000 in
set_option maxRecDepth 100000 in
theorem qon.calls (a0 : Nat) (r1 : Nat) (r2 : Int) (w : World) (h : qon.f a0 = some (r1, r2)) :
  Calls Try.prog 79 #[.float .f64 a0] w fun e w' => e = .returned (.tuple #[.float .f64 r1, .int .i64 r2]) ∧ Drawn0 w w' := by
 have H : ((qos1.f a0 1 18437736874454810624).bind fun bt101 => (some (bt101.1, bt101.2))) = some (r1, r2) := h
 clear h
 replace H := Option.bind_eq_some_iff.mp H
 obtain ⟨⟨t101, t102⟩, A20, H⟩ := H
 replace H : (some (t101, t102)) = some (r1, r2) := H
 have A2 := Zs.mk A20
 clear A20
 simp only [Option.some.injEq, Prod.mk.injEq] at H
 obtain ⟨rfl, rfl⟩ := H
 go_enter Try.func79, Try.ntmps79
 go_wp2_with (first | ((with_reducible refine gate_callee (f := 125) rfl ?_); refine goesL_ (some 5) rfl rfl Try.func125 (by kernel_rfl) rfl #[.float .f64 a0, .int .u64 1, .int .u64 18437736874454810624] rfl (by (try simp only [List.map_toArray, List.map_cons, List.map_nil]); first | done | rfl | (simp only [List.length_drop, List.length_take]; rfl)) ?_; (with_reducible refine (qos1.calls a0 1 18437736874454810624 t101 t102 _ A2.out).mono ?_); rintro e w' ⟨rfl, ⟨nd, rfl⟩⟩; refine ⟨_, rfl, ?_⟩))
 go_ret2
 exact ⟨by first | rfl | (simp; done) | (simp [*]; done), by repeat (first | exact Drawn0.refl _ | apply Drawn0.step)⟩
def qt0b.f  : Option (Bool) := (qon.f 4607182418800017408).bind fun bt101 => ((qoc.f 4607182418800017408 4611686018427387904).bind fun t103 => (if t103 = (-1) then ((qok.f 0).bind fun t104 => (if t104 = 9218868437227405312 then (if bt101.2 = 0 then (some ((bt101.1 : Int) == 4607182418800017409)) else (some false)) else (some false))) else (some false)))
set_option maxHeartbeats 8000000 in
set_option maxRecDepth 100000 in
theorem qt0b.calls  (r : Bool) (w : World) (h : qt0b.f  = some r) :
  Calls Try.prog 27 #[] w fun e w' => e = .returned (.bool r) ∧ Drawn0 w w' := by
 have H : ((qon.f 4607182418800017408).bind fun bt101 => ((qoc.f 4607182418800017408 4611686018427387904).bind fun t103 => (if t103 = (-1) then ((qok.f 0).bind fun t104 => (if t104 = 9218868437227405312 then (if bt101.2 = 0 then (some ((bt101.1 : Int) == 4607182418800017409)) else (some false)) else (some false))) else (some false)))) = some r := h
 clear h
 replace H := Option.bind_eq_some_iff.mp H
 obtain ⟨⟨t101, t102⟩, A10, H⟩ := H
 replace H : ((qoc.f 4607182418800017408 4611686018427387904).bind fun t103 => (if t103 = (-1) then ((qok.f 0).bind fun t104 => (if t104 = 9218868437227405312 then (if t102 = 0 then (some ((t101 : Int) == 4607182418800017409)) else (some false)) else (some false))) else (some false))) = some r := H
 have A1 := Zs.mk A10
 clear A10
 replace H := Option.bind_eq_some_iff.mp H
 obtain ⟨t103, A20, H⟩ := H
 replace H : (if t103 = (-1) then ((qok.f 0).bind fun t104 => (if t104 = 9218868437227405312 then (if t102 = 0 then (some ((t101 : Int) == 4607182418800017409)) else (some false)) else (some false))) else (some false)) = some r := H
 have A2 := Zs.mk A20
 clear A20
 by_cases c3 : t103 = (-1)
 ·rw [if_pos c3] at H
  have c3b0 : (t103 == (-1)) = true := beq_iff_eq.mpr c3
  have c3b1 : (t103 != (-1)) = false := bne_eq_false_iff_eq.mpr c3
  clear c3
  replace H := Option.bind_eq_some_iff.mp H
  obtain ⟨t104, A40, H⟩ := H
  replace H : (if t104 = 9218868437227405312 then (if t102 = 0 then (some ((t101 : Int) == 4607182418800017409)) else (some false)) else (some false)) = some r := H
  have A4 := Zs.mk A40
  clear A40
  by_cases c5 : t104 = 9218868437227405312
  ·rw [if_pos c5] at H
   have c5b0 : (t104 == 9218868437227405312) = true := beq_iff_eq.mpr c5
   have c5b1 : (t104 != 9218868437227405312) = false := bne_eq_false_iff_eq.mpr c5
   clear c5
   by_cases c6 : t102 = 0
   ·rw [if_pos c6] at H
    have c6b0 : (t102 == 0) = true := beq_iff_eq.mpr c6
    have c6b1 : (t102 != 0) = false := bne_eq_false_iff_eq.mpr c6
    clear c6
    obtain rfl := Option.some.inj H
    go_enter Try.func27, Try.ntmps27
    go_wp2_with (first | ((with_reducible refine gate_callee (f := 79) rfl ?_); refine goesL_ (some 4) rfl rfl Try.func79 (by kernel_rfl) rfl #[.float .f64 4607182418800017408] rfl (by (try simp only [List.map_toArray, List.map_cons, List.map_nil]); first | done | rfl | (simp only [List.length_drop, List.length_take]; rfl)) ?_; (with_reducible refine (qon.calls 4607182418800017408 t101 t102 _ A1.out).mono ?_); rintro e w' ⟨rfl, ⟨nd, rfl⟩⟩; refine ⟨_, rfl, ?_⟩) | ((with_reducible refine gate_callee (f := 52) rfl ?_); refine goesL_ (some 7) rfl rfl Try.func52 (by kernel_rfl) rfl #[.float .f64 4607182418800017408, .float .f64 4611686018427387904] rfl (by (try simp only [List.map_toArray, List.map_cons, List.map_nil]); first | done | rfl | (simp only [List.length_drop, List.length_take]; rfl)) ?_; (with_reducible refine (qoc.calls 4607182418800017408 4611686018427387904 t103 _ A2.out).mono ?_); rintro e w' ⟨rfl, ⟨nd, rfl⟩⟩; refine ⟨_, rfl, ?_⟩) | (go_at_call 80; (with_reducible refine (qok.calls 0 t104 _ A4.out).mono ?_); rintro e w' ⟨rfl, ⟨nd, rfl⟩⟩))
    go_ret
    exact ⟨by first | rfl | (simp; done) | (simp [*]; done), by repeat (first | exact Drawn0.refl _ | apply Drawn0.step)⟩
   ·rw [if_neg c6] at H
    have c6b0 : (t102 == 0) = false := beq_eq_false_iff_ne.mpr c6
    have c6b1 : (t102 != 0) = true := bne_iff_ne.mpr c6
    obtain rfl := Option.some.inj H
    go_enter Try.func27, Try.ntmps27
    go_wp2_with (first | ((with_reducible refine gate_callee (f := 79) rfl ?_); refine goesL_ (some 4) rfl rfl Try.func79 (by kernel_rfl) rfl #[.float .f64 4607182418800017408] rfl (by (try simp only [List.map_toArray, List.map_cons, List.map_nil]); first | done | rfl | (simp only [List.length_drop, List.length_take]; rfl)) ?_; (with_reducible refine (qon.calls 4607182418800017408 t101 t102 _ A1.out).mono ?_); rintro e w' ⟨rfl, ⟨nd, rfl⟩⟩; refine ⟨_, rfl, ?_⟩) | ((with_reducible refine gate_callee (f := 52) rfl ?_); refine goesL_ (some 7) rfl rfl Try.func52 (by kernel_rfl) rfl #[.float .f64 4607182418800017408, .float .f64 4611686018427387904] rfl (by (try simp only [List.map_toArray, List.map_cons, List.map_nil]); first | done | rfl | (simp only [List.length_drop, List.length_take]; rfl)) ?_; (with_reducible refine (qoc.calls 4607182418800017408 4611686018427387904 t103 _ A2.out).mono ?_); rintro e w' ⟨rfl, ⟨nd, rfl⟩⟩; refine ⟨_, rfl, ?_⟩) | (go_at_call 80; (with_reducible refine (qok.calls 0 t104 _ A4.out).mono ?_); rintro e w' ⟨rfl, ⟨nd, rfl⟩⟩))
    go_ret
    exact ⟨by first | rfl | (simp; done) | (simp [*]; done), by repeat (first | exact Drawn0.refl _ | apply Drawn0.step)⟩
  ·rw [if_neg c5] at H
   have c5b0 : (t104 == 9218868437227405312) = false := beq_eq_false_iff_ne.mpr c5
   have c5b1 : (t104 != 9218868437227405312) = true := bne_iff_ne.mpr c5
   obtain rfl := Option.some.inj H
   go_enter Try.func27, Try.ntmps27
   go_wp2_with (first | ((with_reducible refine gate_callee (f := 79) rfl ?_); refine goesL_ (some 4) rfl rfl Try.func79 (by kernel_rfl) rfl #[.float .f64 4607182418800017408] rfl (by (try simp only [List.map_toArray, List.map_cons, List.map_nil]); first | done | rfl | (simp only [List.length_drop, List.length_take]; rfl)) ?_; (with_reducible refine (qon.calls 4607182418800017408 t101 t102 _ A1.out).mono ?_); rintro e w' ⟨rfl, ⟨nd, rfl⟩⟩; refine ⟨_, rfl, ?_⟩) | ((with_reducible refine gate_callee (f := 52) rfl ?_); refine goesL_ (some 7) rfl rfl Try.func52 (by kernel_rfl) rfl #[.float .f64 4607182418800017408, .float .f64 4611686018427387904] rfl (by (try simp only [List.map_toArray, List.map_cons, List.map_nil]); first | done | rfl | (simp only [List.length_drop, List.length_take]; rfl)) ?_; (with_reducible refine (qoc.calls 4607182418800017408 4611686018427387904 t103 _ A2.out).mono ?_); rintro e w' ⟨rfl, ⟨nd, rfl⟩⟩; refine ⟨_, rfl, ?_⟩) | (go_at_call 80; (with_reducible refine (qok.calls 0 t104 _ A4.out).mono ?_); rintro e w' ⟨rfl, ⟨nd, rfl⟩⟩))
   go_ret
   exact ⟨by first | rfl | (simp; done) | (simp [*]; done), by repeat (first | exact Drawn0.refl _ | apply Drawn0.step)⟩
 ·rw [if_neg c3] at H
  have c3b0 : (t103 == (-1)) = false := beq_eq_false_iff_ne.mpr c3
  have c3b1 : (t103 != (-1)) = true := bne_iff_ne.mpr c3
  obtain rfl := Option.some.inj H
  go_enter Try.func27, Try.ntmps27
  go_wp2_with (first | ((with_reducible refine gate_callee (f := 79) rfl ?_); refine goesL_ (some 4) rfl rfl Try.func79 (by kernel_rfl) rfl #[.float .f64 4607182418800017408] rfl (by (try simp only [List.map_toArray, List.map_cons, List.map_nil]); first | done | rfl | (simp only [List.length_drop, List.length_take]; rfl)) ?_; (with_reducible refine (qon.calls 4607182418800017408 t101 t102 _ A1.out).mono ?_); rintro e w' ⟨rfl, ⟨nd, rfl⟩⟩; refine ⟨_, rfl, ?_⟩) | ((with_reducible refine gate_callee (f := 52) rfl ?_); refine goesL_ (some 7) rfl rfl Try.func52 (by kernel_rfl) rfl #[.float .f64 4607182418800017408, .float .f64 4611686018427387904] rfl (by (try simp only [List.map_toArray, List.map_cons, List.map_nil]); first | done | rfl | (simp only [List.length_drop, List.length_take]; rfl)) ?_; (with_reducible refine (qoc.calls 4607182418800017408 4611686018427387904 t103 _ A2.out).mono ?_); rintro e w' ⟨rfl, ⟨nd, rfl⟩⟩; refine ⟨_, rfl, ?_⟩))
  go_ret
  exact ⟨by first | rfl | (simp; done) | (simp [*]; done), by repeat (first | exact Drawn0.refl _ | apply Drawn0.step)⟩
end Go.Proofs.Ytkmbgfhkdopigaa.P
