/- Texts that the statement's proof leans on, part 15. -/
import Derived.Test.YtkmbgfhkdopigaaDoorTB8
import Derived.Test.YtkmbgfhkdopigaaDoorTB9
import Derived.Test.YtkmbgfhkdopigaaDoorTB10
import Derived.Test.YtkmbgfhkdopigaaDoorTB11
import Derived.Test.YtkmbgfhkdopigaaDoorTB14
import Derived.Sort.LotC
import Derived.Sort.LotA
namespace Go.Proofs.YtkmbgfhkdopigaaDoor.Pdq
set_option linter.unusedSimpArgs false
open Go.RowKit Go.Sort Go.Proofs.YtkmbgfhkdopigaaDoor.P Go.Proofs.YtkmbgfhkdopigaaDoorW.PrintWords
theorem wadd {i : Nat} (h : i ≤ 4611686018427387904) : wrap64 ((i : Int) + 1) = ((i + 1 : Nat) : Int) := w64' (by omega) (by omega)
theorem wsub {i : Nat} (h1 : 1 ≤ i) (h : i ≤ 4611686018427387904) : wrap64 ((i : Int) - 1) = ((i - 1 : Nat) : Int) := w64' (by omega) (by omega)
theorem wdif {a b : Nat} (h1 : b ≤ a) (h : a ≤ 4611686018427387904) : wrap64 ((a : Int) - (b : Int)) = ((a - b : Nat) : Int) := w64' (by omega) (by omega)
theorem scanUp_yes {p : Int → Bool} {d : Array Int} {j i : Nat} (h : i ≤ j) (hp : p d[i]! = true) : scanUp p d j i = scanUp p d j (i + 1) := by
  rw [scanUp, if_pos (by simp [h, hp])]
theorem scanUp_no {p : Int → Bool} {d : Array Int} {j i : Nat} (h : p d[i]! = false) : scanUp p d j i = i := by
  rw [scanUp, if_neg (by simp [h])]
theorem scanUp_end {p : Int → Bool} {d : Array Int} {j i : Nat} (h : ¬ i ≤ j) : scanUp p d j i = i := by
  rw [scanUp, if_neg (by simp [h])]
theorem scanDown_yes {p : Int → Bool} {d : Array Int} {j i : Nat} (h : i ≤ j + 1) (hp : p d[j + 1]! = true) : scanDown p d i (j + 1) = scanDown p d i j := by
  rw [scanDown, if_pos (by simp [h, hp])]
theorem scanDown_no {p : Int → Bool} {d : Array Int} {j i : Nat} (h : p d[j + 1]! = false) : scanDown p d i (j + 1) = j + 1 := by
  rw [scanDown, if_neg (by simp [h])]
theorem scanDown_end {p : Int → Bool} {d : Array Int} {j i : Nat} (h : ¬ i ≤ j + 1) : scanDown p d i (j + 1) = j + 1 := by
  rw [scanDown, if_neg (by simp [h])]

theorem part_l0 (a : Nat) (d : Array Int) (ha : a < d.size) (hm : d.size ≤ 2305843009213693952) {r : Int × Bool × List Int} : ∀ (n i j : Nat), j + 1 - i ≤ n → j < d.size → i ≤ d.size →
    Ev (fun k => qspou6.j1 k d.toList a ((scanUp (fun x => ltInt x d[a]!) d j i : Nat) : Int) j) r → Ev (fun k => qspou6.l0 k d.toList a i j) r := by
  intro n
  induction n with
  | zero =>
    intro i j hn hj hi h
    rw [scanUp_end (by omega)] at h
    refine Ev.step (fun k => ?_) h
    simp only [qspou6.l0]
    rw [if_neg (by omega)]
  | succ n ih =>
    intro i j hn hj hi h
    by_cases hij : i ≤ j
    · have e1 : wrap64 ((i : Int) + 1) = ((i + 1 : Nat) : Int) := wadd (by omega)
      have IH := ih (i + 1) j (by omega) hj (by omega)
      clear ih
      have b1 : (i : Int) ≤ (j : Int) := by omega
      have b2 : (0 : Int) ≤ (i : Int) := by omega
      have b3 : (i : Int) < (d.size : Int) := by omega
      have b4 : (0 : Int) ≤ (a : Int) := by omega
      have b5 : (a : Int) < (d.size : Int) := by omega
      cases hl : ltInt d[i]! d[a]! with
      | true =>
        rw [scanUp_yes (p := fun x => ltInt x d[a]!) hij hl] at h
        refine Ev.step (fun k => ?_) (IH h)
        simp only [qspou6.l0]
        rw [lenA, if_pos b1, if_pos b2, if_pos b3, if_pos b4, if_pos b5, less, rdA, rdA, hl, someBind, if_pos rfl, e1]
      | false =>
        rw [scanUp_no (p := fun x => ltInt x d[a]!) hl] at h
        refine Ev.step (fun k => ?_) h
        simp only [qspou6.l0]
        rw [lenA, if_pos b1, if_pos b2, if_pos b3, if_pos b4, if_pos b5, less, rdA, rdA, hl, someBind, if_neg Bool.false_ne_true]
    · rw [scanUp_end hij] at h
      refine Ev.step (fun k => ?_) h
      simp only [qspou6.l0]
      rw [if_neg (by omega)]
theorem part_l3 (a : Nat) (d : Array Int) (ha : a < d.size) (hm : d.size ≤ 2305843009213693952) {r : Int × Bool × List Int} : ∀ (n i j : Nat), j + 1 - i ≤ n → j < d.size → i ≤ d.size + 1 →
    Ev (fun k => qspou6.j6 k d.toList a ((scanUp (fun x => ltInt x d[a]!) d j i : Nat) : Int) j) r → Ev (fun k => qspou6.l3 k d.toList a i j) r := by
  intro n
  induction n with
  | zero =>
    intro i j hn hj hi h
    rw [scanUp_end (by omega)] at h
    refine Ev.step (fun k => ?_) h
    simp only [qspou6.l3]
    rw [if_neg (by omega)]
  | succ n ih =>
    intro i j hn hj hi h
    by_cases hij : i ≤ j
    · have e1 : wrap64 ((i : Int) + 1) = ((i + 1 : Nat) : Int) := wadd (by omega)
      have IH := ih (i + 1) j (by omega) hj (by omega)
      clear ih
      have b1 : (i : Int) ≤ (j : Int) := by omega
      have b2 : (0 : Int) ≤ (i : Int) := by omega
      have b3 : (i : Int) < (d.size : Int) := by omega
      have b4 : (0 : Int) ≤ (a : Int) := by omega
      have b5 : (a : Int) < (d.size : Int) := by omega
      cases hl : ltInt d[i]! d[a]! with
      | true =>
        rw [scanUp_yes (p := fun x => ltInt x d[a]!) hij hl] at h
        refine Ev.step (fun k => ?_) (IH h)
        simp only [qspou6.l3]
        rw [lenA, if_pos b1, if_pos b2, if_pos b3, if_pos b4, if_pos b5, less, rdA, rdA, hl, someBind, if_pos rfl, e1]
      | false =>
        rw [scanUp_no (p := fun x => ltInt x d[a]!) hl] at h
        refine Ev.step (fun k => ?_) h
        simp only [qspou6.l3]
        rw [lenA, if_pos b1, if_pos b2, if_pos b3, if_pos b4, if_pos b5, less, rdA, rdA, hl, someBind, if_neg Bool.false_ne_true]
    · rw [scanUp_end hij] at h
      refine Ev.step (fun k => ?_) h
      simp only [qspou6.l3]
      rw [if_neg (by omega)]
theorem part_l1 (a i : Nat) (d : Array Int) (ha : a < d.size) (hi : 1 ≤ i) (hm : d.size ≤ 2305843009213693952) {r : Int × Bool × List Int} : ∀ (j : Nat), j < d.size →
    Ev (fun k => qspou6.j3 k d.toList a i ((scanDown (fun x => !ltInt x d[a]!) d i j : Nat) : Int)) r → Ev (fun k => qspou6.l1 k d.toList a i j) r := by
  intro j
  induction j with
  | zero =>
    intro hj h
    refine Ev.step (fun k => ?_) h
    simp only [qspou6.l1]
    rw [if_neg (by omega)]; rfl
  | succ j ih =>
    intro hj h
    by_cases hij : i ≤ j + 1
    · have e1 : wrap64 (((j + 1 : Nat) : Int) - 1) = ((j : Nat) : Int) := w64' (by omega) (by omega)
      have IH := ih (by omega)
      clear ih
      have b1 : (i : Int) ≤ ((j + 1 : Nat) : Int) := by omega
      have b2 : (0 : Int) ≤ ((j + 1 : Nat) : Int) := by omega
      have b3 : ((j + 1 : Nat) : Int) < (d.size : Int) := by omega
      have b4 : (0 : Int) ≤ (a : Int) := by omega
      have b5 : (a : Int) < (d.size : Int) := by omega
      cases hl : ltInt d[j + 1]! d[a]! with
      | true =>
        rw [scanDown_no (by simp [hl])] at h
        refine Ev.step (fun k => ?_) h
        simp only [qspou6.l1]
        rw [lenA, if_pos b1, if_pos b2, if_pos b3, if_pos b4, if_pos b5, less, rdA, rdA, hl, someBind, if_pos rfl]
      | false =>
        rw [scanDown_yes hij (by simp [hl])] at h
        refine Ev.step (fun k => ?_) (IH h)
        simp only [qspou6.l1]
        rw [lenA, if_pos b1, if_pos b2, if_pos b3, if_pos b4, if_pos b5, less, rdA, rdA, hl, someBind, if_neg Bool.false_ne_true, e1]
    · rw [scanDown_end hij] at h
      refine Ev.step (fun k => ?_) h
      simp only [qspou6.l1]
      rw [if_neg (by omega)]
theorem part_l4 (a i : Nat) (d : Array Int) (ha : a < d.size) (hi : 1 ≤ i) (hm : d.size ≤ 2305843009213693952) {r : Int × Bool × List Int} : ∀ (j : Nat), j < d.size →
    (i > scanDown (fun x => !ltInt x d[a]!) d i j → r = (((scanDown (fun x => !ltInt x d[a]!) d i j : Nat) : Int), false, (swp d (scanDown (fun x => !ltInt x d[a]!) d i j) a).toList)) →
    (¬ i > scanDown (fun x => !ltInt x d[a]!) d i j → Ev (fun k => qspou6.l2 k (swp d i (scanDown (fun x => !ltInt x d[a]!) d i j)).toList a ((i + 1 : Nat) : Int) ((scanDown (fun x => !ltInt x d[a]!) d i j - 1 : Nat) : Int)) r) →
    Ev (fun k => qspou6.l4 k d.toList a i j) r := by
  intro j
  have b4 : (0 : Int) ≤ (a : Int) := by omega
  have b5 : (a : Int) < (d.size : Int) := by omega
  induction j with
  | zero =>
    intro hj h1 h2
    rw [h1 (by simp only [scanDown]; omega)]
    refine Ev.step (fun k => ?_) (Ev.now _)
    simp only [qspou6.l4, scanDown]
    rw [lenA, if_neg (by omega), if_pos (by omega), if_pos b4, if_pos b5, if_pos (by omega), if_pos (by omega), ← swpA]
  | succ j ih =>
    intro hj h1 h2
    have b2 : (0 : Int) ≤ ((j + 1 : Nat) : Int) := by omega
    have b3 : ((j + 1 : Nat) : Int) < (d.size : Int) := by omega
    by_cases hij : i ≤ j + 1
    · have e1 : wrap64 (((j + 1 : Nat) : Int) - 1) = ((j : Nat) : Int) := w64' (by omega) (by omega)
      have e2 : wrap64 ((i : Int) + 1) = ((i + 1 : Nat) : Int) := wadd (by omega)
      have IH := ih (by omega)
      clear ih
      have b1 : (i : Int) ≤ ((j + 1 : Nat) : Int) := by omega
      have b6 : ¬ (i : Int) > ((j + 1 : Nat) : Int) := by omega
      have b7 : (0 : Int) ≤ (i : Int) := by omega
      have b8 : (i : Int) < (d.size : Int) := by omega
      cases hl : ltInt d[j + 1]! d[a]! with
      | true =>
        rw [scanDown_no (by simp [hl])] at h2
        refine Ev.step (fun k => ?_) (h2 (by omega))
        simp only [qspou6.l4]
        rw [lenA, if_pos b1, if_pos b2, if_pos b3, if_pos b4, if_pos b5, less, rdA, rdA, hl, someBind, if_pos rfl, if_neg b6, if_pos b7, if_pos b8, e1, e2, ← rdA, swpA]; rfl
      | false =>
        rw [scanDown_yes hij (by simp [hl])] at h1 h2
        refine Ev.step (fun k => ?_) (IH h1 h2)
        simp only [qspou6.l4]
        rw [lenA, if_pos b1, if_pos b2, if_pos b3, if_pos b4, if_pos b5, less, rdA, rdA, hl, someBind, if_neg Bool.false_ne_true, e1]
    · rw [scanDown_end hij] at h1
      rw [h1 (by omega)]
      refine Ev.step (fun k => ?_) (Ev.now _)
      simp only [qspou6.l4]
      rw [lenA, if_neg (by omega), if_pos (by omega), if_pos b4, if_pos b5, if_pos b2, if_pos b3, ← swpA]
theorem part_loop (a : Nat) : ∀ (n i j : Nat) (d : Array Int), j + 1 - i ≤ n → 1 ≤ i → j < d.size → i ≤ d.size + 1 → a < d.size → d.size ≤ 2305843009213693952 →
    Ev (fun k => qspou6.l2 k d.toList a i j) (((partLoop ltInt a i j d).1 : Int), false, (swp (partLoop ltInt a i j d).2 (partLoop ltInt a i j d).1 a).toList) := by
  intro n
  induction n with
  | zero =>
    intro i j d hn hi hj hi2 ha hm
    refine Ev.step (g := fun k => qspou6.l2 k d.toList a i j) (f := fun k => qspou6.l3 k d.toList a i j) (fun k => rfl) (part_l3 a d ha hm _ i j (Nat.le_refl _) hj hi2 ?_)
    refine Ev.step (f := fun k => qspou6.l4 k d.toList a _ j) (fun k => rfl) (part_l4 a _ d ha (Nat.le_trans hi (scanUp_ge _ d j i)) hm j hj (fun h => ?_) (fun h => ?_))
    · rw [partLoop_eq, if_pos h]
    · have := partLoop_guard ltInt a i j d h
      omega
  | succ n ih =>
    intro i j d hn hi hj hi2 ha hm
    refine Ev.step (g := fun k => qspou6.l2 k d.toList a i j) (f := fun k => qspou6.l3 k d.toList a i j) (fun k => rfl) (part_l3 a d ha hm _ i j (Nat.le_refl _) hj hi2 ?_)
    refine Ev.step (f := fun k => qspou6.l4 k d.toList a _ j) (fun k => rfl) (part_l4 a _ d ha (Nat.le_trans hi (scanUp_ge _ d j i)) hm j hj (fun h => ?_) (fun h => ?_))
    · rw [partLoop_eq, if_pos h]
    · have := partLoop_guard ltInt a i j d h
      have h4 := scanDown_le (fun x => !ltInt x d[a]!) d (scanUp (fun x => ltInt x d[a]!) d j i) j
      rw [partLoop_eq, if_neg h]
      exact ih _ _ _ (by omega) (by omega) (by rw [size_swp']; omega) (by rw [size_swp']; omega) (by rw [size_swp']; exact ha) (by rw [size_swp']; exact hm)
theorem part_j3 (d : Array Int) (a i j : Nat) (ha : a < d.size) (hai : a < i) (hi : i ≤ d.size) (hj : j < d.size) (hm : d.size ≤ 2305843009213693952) {r : Int × Bool × List Int}
    (h1 : i > j → r = ((j : Int), true, (swp d j a).toList))
    (h2 : ¬ i > j → r = (((partLoop ltInt a (i + 1) (j - 1) (swp d i j)).1 : Int), false, (swp (partLoop ltInt a (i + 1) (j - 1) (swp d i j)).2 (partLoop ltInt a (i + 1) (j - 1) (swp d i j)).1 a).toList)) :
    Ev (fun k => qspou6.j3 k d.toList a i j) r := by
  have b1 : (0 : Int) ≤ (j : Int) := by omega
  have b2 : (j : Int) < (d.size : Int) := by omega
  have b3 : (0 : Int) ≤ (a : Int) := by omega
  have b4 : (a : Int) < (d.size : Int) := by omega
  by_cases hij : i > j
  · rw [h1 hij]
    have b0 : (i : Int) > (j : Int) := by omega
    refine Ev.step (fun k => ?_) (Ev.now _)
    simp only [qspou6.j3]
    rw [lenA, if_pos b0, if_pos b3, if_pos b4, if_pos b1, if_pos b2, swpA]
  · rw [h2 hij]
    clear h1 h2
    have b0 : ¬ (i : Int) > (j : Int) := by omega
    have b5 : (0 : Int) ≤ (i : Int) := by omega
    have b6 : (i : Int) < (d.size : Int) := by omega
    have e3 : wrap64 ((i : Int) + 1) = ((i + 1 : Nat) : Int) := wadd (by omega)
    have e4 : wrap64 ((j : Int) - 1) = ((j - 1 : Nat) : Int) := wsub (by omega) (by omega)
    have hs := size_swp' d i j
    refine Ev.step (f := fun k => qspou6.l2 k (swp d i j).toList a ((i + 1 : Nat) : Int) ((j - 1 : Nat) : Int)) (fun k => ?_) (part_loop a _ (i + 1) (j - 1) (swp d i j) (Nat.le_refl _) (by omega) (by omega) (by omega) (by omega) (by omega))
    simp only [qspou6.j3]
    rw [lenA, if_neg b0, if_pos b1, if_pos b2, if_pos b5, if_pos b6, swpA, e3, e4]
theorem part (d : Array Int) (a b p : Nat) (hp : p < d.size) (hab : a < b) (hb : b ≤ d.size) (hm : d.size ≤ 2305843009213693952) :
    Ev (fun k => qspou6.f k d.toList a b p) (((partition ltInt d a b p).1 : Int), (partition ltInt d a b p).2.1, (partition ltInt d a b p).2.2.toList) := by
  have e1 : wrap64 ((a : Int) + 1) = ((a + 1 : Nat) : Int) := wadd (by omega)
  have e2 : wrap64 ((b : Int) - 1) = ((b - 1 : Nat) : Int) := wsub (by omega) (by omega)
  refine Ev.congr (f := fun k => qspou6.l0 k (swp d a p).toList a ((a + 1 : Nat) : Int) ((b - 1 : Nat) : Int)) (fun k => ?_) ?_
  · simp only [qspou6.f]
    rw [lenA, if_pos (by omega), if_pos (by omega), if_pos (by omega), if_pos (by omega), swpA, e1, e2]
  · have hs := size_swp' d a p
    have hdef : ∀ D, D = swp d a p → partition ltInt d a b p =
        if scanUp (fun x => ltInt x D[a]!) D (b - 1) (a + 1) > scanDown (fun x => !ltInt x D[a]!) D (scanUp (fun x => ltInt x D[a]!) D (b - 1) (a + 1)) (b - 1) then
          (scanDown (fun x => !ltInt x D[a]!) D (scanUp (fun x => ltInt x D[a]!) D (b - 1) (a + 1)) (b - 1), true, swp D (scanDown (fun x => !ltInt x D[a]!) D (scanUp (fun x => ltInt x D[a]!) D (b - 1) (a + 1)) (b - 1)) a)
        else ((partLoop ltInt a (scanUp (fun x => ltInt x D[a]!) D (b - 1) (a + 1) + 1) (scanDown (fun x => !ltInt x D[a]!) D (scanUp (fun x => ltInt x D[a]!) D (b - 1) (a + 1)) (b - 1) - 1) (swp D (scanUp (fun x => ltInt x D[a]!) D (b - 1) (a + 1)) (scanDown (fun x => !ltInt x D[a]!) D (scanUp (fun x => ltInt x D[a]!) D (b - 1) (a + 1)) (b - 1)))).1, false,
          swp (partLoop ltInt a (scanUp (fun x => ltInt x D[a]!) D (b - 1) (a + 1) + 1) (scanDown (fun x => !ltInt x D[a]!) D (scanUp (fun x => ltInt x D[a]!) D (b - 1) (a + 1)) (b - 1) - 1) (swp D (scanUp (fun x => ltInt x D[a]!) D (b - 1) (a + 1)) (scanDown (fun x => !ltInt x D[a]!) D (scanUp (fun x => ltInt x D[a]!) D (b - 1) (a + 1)) (b - 1)))).2
            (partLoop ltInt a (scanUp (fun x => ltInt x D[a]!) D (b - 1) (a + 1) + 1) (scanDown (fun x => !ltInt x D[a]!) D (scanUp (fun x => ltInt x D[a]!) D (b - 1) (a + 1)) (b - 1) - 1) (swp D (scanUp (fun x => ltInt x D[a]!) D (b - 1) (a + 1)) (scanDown (fun x => !ltInt x D[a]!) D (scanUp (fun x => ltInt x D[a]!) D (b - 1) (a + 1)) (b - 1)))).1 a) := fun D h => by subst h; rfl
    rw [hdef _ rfl]
    clear hdef
    generalize swp d a p = d at hs ⊢
    refine part_l0 a d (by omega) (by omega) _ _ _ (Nat.le_refl _) (by omega) (by omega) ?_
    have h3 := scanUp_ge (fun x => ltInt x d[a]!) d (b - 1) (a + 1)
    refine Ev.step (f := fun k => qspou6.l1 k d.toList a _ ((b - 1 : Nat) : Int)) (fun k => rfl) (part_l1 a _ d (by omega) (by omega) (by omega) (b - 1) (by omega) ?_)
    have h4 := scanDown_le (fun x => !ltInt x d[a]!) d (scanUp (fun x => ltInt x d[a]!) d (b - 1) (a + 1)) (b - 1)
    have h5 := (scanUp_spec (fun x => ltInt x d[a]!) d (b - 1) _ (a + 1) rfl).2.1 (by omega)
    refine part_j3 d a _ _ (by omega) (by omega) (by omega) (by omega) (by omega) (fun h => ?_) (fun h => ?_)
    · rw [if_pos h]
    · rw [if_neg h]

theorem pe_l1 (a : Nat) (d : Array Int) (ha : a < d.size) (hm : d.size ≤ 2305843009213693952) {r : Int × List Int} : ∀ (n i j : Nat), j + 1 - i ≤ n → j < d.size → i ≤ d.size + 1 →
    Ev (fun k => qspeou6.j2 k d.toList a ((scanUp (fun x => !ltInt d[a]! x) d j i : Nat) : Int) j) r → Ev (fun k => qspeou6.l1 k d.toList a i j) r := by
  intro n
  induction n with
  | zero =>
    intro i j hn hj hi h
    rw [scanUp_end (by omega)] at h
    refine Ev.step (fun k => ?_) h
    simp only [qspeou6.l1]
    rw [if_neg (by omega)]
  | succ n ih =>
    intro i j hn hj hi h
    by_cases hij : i ≤ j
    · have e1 : wrap64 ((i : Int) + 1) = ((i + 1 : Nat) : Int) := wadd (by omega)
      have IH := ih (i + 1) j (by omega) hj (by omega)
      clear ih
      have b1 : (i : Int) ≤ (j : Int) := by omega
      have b2 : (0 : Int) ≤ (i : Int) := by omega
      have b3 : (i : Int) < (d.size : Int) := by omega
      have b4 : (0 : Int) ≤ (a : Int) := by omega
      have b5 : (a : Int) < (d.size : Int) := by omega
      cases hl : ltInt d[a]! d[i]! with
      | false =>
        rw [scanUp_yes (p := fun x => !ltInt d[a]! x) hij (by simp [hl])] at h
        refine Ev.step (fun k => ?_) (IH h)
        simp only [qspeou6.l1]
        rw [lenA, if_pos b1, if_pos b4, if_pos b5, if_pos b2, if_pos b3, less, rdA, rdA, hl, someBind, if_neg Bool.false_ne_true, e1]
      | true =>
        rw [scanUp_no (p := fun x => !ltInt d[a]! x) (by simp [hl])] at h
        refine Ev.step (fun k => ?_) h
        simp only [qspeou6.l1]
        rw [lenA, if_pos b1, if_pos b4, if_pos b5, if_pos b2, if_pos b3, less, rdA, rdA, hl, someBind, if_pos rfl]
    · rw [scanUp_end hij] at h
      refine Ev.step (fun k => ?_) h
      simp only [qspeou6.l1]
      rw [if_neg (by omega)]
theorem pe_l2 (a i : Nat) (d : Array Int) (ha : a < d.size) (hi : 1 ≤ i) (hm : d.size ≤ 2305843009213693952) {r : Int × List Int} : ∀ (j : Nat), j < d.size →
    (i > scanDown (fun x => ltInt d[a]! x) d i j → r = ((i : Int), d.toList)) →
    (¬ i > scanDown (fun x => ltInt d[a]! x) d i j → Ev (fun k => qspeou6.l0 k (swp d i (scanDown (fun x => ltInt d[a]! x) d i j)).toList a ((i + 1 : Nat) : Int) ((scanDown (fun x => ltInt d[a]! x) d i j - 1 : Nat) : Int)) r) →
    Ev (fun k => qspeou6.l2 k d.toList a i j) r := by
  intro j
  have b4 : (0 : Int) ≤ (a : Int) := by omega
  have b5 : (a : Int) < (d.size : Int) := by omega
  induction j with
  | zero =>
    intro hj h1 h2
    rw [h1 (by simp only [scanDown]; omega)]
    refine Ev.step (fun k => ?_) (Ev.now _)
    simp only [qspeou6.l2]
    rw [lenA, if_neg (by omega), if_pos (by omega)]
  | succ j ih =>
    intro hj h1 h2
    have b2 : (0 : Int) ≤ ((j + 1 : Nat) : Int) := by omega
    have b3 : ((j + 1 : Nat) : Int) < (d.size : Int) := by omega
    by_cases hij : i ≤ j + 1
    · have e1 : wrap64 (((j + 1 : Nat) : Int) - 1) = ((j : Nat) : Int) := w64' (by omega) (by omega)
      have e2 : wrap64 ((i : Int) + 1) = ((i + 1 : Nat) : Int) := wadd (by omega)
      have IH := ih (by omega)
      clear ih
      have b1 : (i : Int) ≤ ((j + 1 : Nat) : Int) := by omega
      have b6 : ¬ (i : Int) > ((j + 1 : Nat) : Int) := by omega
      have b7 : (0 : Int) ≤ (i : Int) := by omega
      have b8 : (i : Int) < (d.size : Int) := by omega
      cases hl : ltInt d[a]! d[j + 1]! with
      | false =>
        rw [scanDown_no (by simp [hl])] at h2
        refine Ev.step (fun k => ?_) (h2 (by omega))
        simp only [qspeou6.l2]
        rw [lenA, if_pos b1, if_pos b4, if_pos b5, if_pos b2, if_pos b3, less, rdA, rdA, hl, someBind, if_neg Bool.false_ne_true, if_neg b6, if_pos b7, if_pos b8, e1, e2, ← rdA, swpA]; rfl
      | true =>
        rw [scanDown_yes hij (by simp [hl])] at h1 h2
        refine Ev.step (fun k => ?_) (IH h1 h2)
        simp only [qspeou6.l2]
        rw [lenA, if_pos b1, if_pos b4, if_pos b5, if_pos b2, if_pos b3, less, rdA, rdA, hl, someBind, if_pos rfl, e1]
    · rw [scanDown_end hij] at h1
      rw [h1 (by omega)]
      refine Ev.step (fun k => ?_) (Ev.now _)
      simp only [qspeou6.l2]
      rw [lenA, if_neg (by omega), if_pos (by omega)]
theorem pe_loop (a : Nat) : ∀ (n i j : Nat) (d : Array Int), j + 1 - i ≤ n → 1 ≤ i → j < d.size → i ≤ d.size + 1 → a < d.size → d.size ≤ 2305843009213693952 →
    Ev (fun k => qspeou6.l0 k d.toList a i j) (((partEqLoop ltInt a i j d).1 : Int), (partEqLoop ltInt a i j d).2.toList) := by
  intro n
  induction n with
  | zero =>
    intro i j d hn hi hj hi2 ha hm
    refine Ev.step (g := fun k => qspeou6.l0 k d.toList a i j) (f := fun k => qspeou6.l1 k d.toList a i j) (fun k => rfl) (pe_l1 a d ha hm _ i j (Nat.le_refl _) hj hi2 ?_)
    refine Ev.step (f := fun k => qspeou6.l2 k d.toList a _ j) (fun k => rfl) (pe_l2 a _ d ha (Nat.le_trans hi (scanUp_ge _ d j i)) hm j hj (fun h => ?_) (fun h => ?_))
    · rw [partEqLoop_eq, if_pos h]
    · have := partEqLoop_guard ltInt a i j d h
      omega
  | succ n ih =>
    intro i j d hn hi hj hi2 ha hm
    refine Ev.step (g := fun k => qspeou6.l0 k d.toList a i j) (f := fun k => qspeou6.l1 k d.toList a i j) (fun k => rfl) (pe_l1 a d ha hm _ i j (Nat.le_refl _) hj hi2 ?_)
    refine Ev.step (f := fun k => qspeou6.l2 k d.toList a _ j) (fun k => rfl) (pe_l2 a _ d ha (Nat.le_trans hi (scanUp_ge _ d j i)) hm j hj (fun h => ?_) (fun h => ?_))
    · rw [partEqLoop_eq, if_pos h]
    · have := partEqLoop_guard ltInt a i j d h
      have h4 := scanDown_le (fun x => ltInt d[a]! x) d (scanUp (fun x => !ltInt d[a]! x) d j i) j
      rw [partEqLoop_eq, if_neg h]
      exact ih _ _ _ (by omega) (by omega) (by rw [size_swp']; omega) (by rw [size_swp']; omega) (by rw [size_swp']; exact ha) (by rw [size_swp']; exact hm)
theorem part_eq (d : Array Int) (a b p : Nat) (hp : p < d.size) (hab : a < b) (hb : b ≤ d.size) (hm : d.size ≤ 2305843009213693952) :
    Ev (fun k => qspeou6.f k d.toList a b p) (((partitionEqual ltInt d a b p).1 : Int), (partitionEqual ltInt d a b p).2.toList) := by
  have e1 : wrap64 ((a : Int) + 1) = ((a + 1 : Nat) : Int) := wadd (by omega)
  have e2 : wrap64 ((b : Int) - 1) = ((b - 1 : Nat) : Int) := wsub (by omega) (by omega)
  refine Ev.congr (f := fun k => qspeou6.l0 k (swp d a p).toList a ((a + 1 : Nat) : Int) ((b - 1 : Nat) : Int)) (fun k => ?_) ?_
  · simp only [qspeou6.f]
    rw [lenA, if_pos (by omega), if_pos (by omega), if_pos (by omega), if_pos (by omega), swpA, e1, e2]
  · exact pe_loop a _ (a + 1) (b - 1) (swp d a p) (Nat.le_refl _) (by omega) (by rw [size_swp']; omega) (by rw [size_swp']; omega) (by rw [size_swp']; omega) (by rw [size_swp']; omega)

theorem rev_l0 : ∀ (n i j : Nat) (d : Array Int), j - i ≤ n → j < d.size → d.size ≤ 2305843009213693952 → Ev (fun k => qsrrou6.l0 k d.toList i j) (reverseLoop i j d).toList := by
  intro n
  induction n with
  | zero =>
    intro i j d hn hj hm
    rw [reverseLoop, if_neg (by omega)]
    refine Ev.step (fun k => ?_) (Ev.now _)
    simp only [qsrrou6.l0]
    rw [if_neg (by omega)]
  | succ n ih =>
    intro i j d hn hj hm
    rw [reverseLoop]
    by_cases h : i < j
    · have e1 : wrap64 ((i : Int) + 1) = ((i + 1 : Nat) : Int) := wadd (by omega)
      have e2 : wrap64 ((j : Int) - 1) = ((j - 1 : Nat) : Int) := wsub (by omega) (by omega)
      rw [if_pos h]
      refine Ev.step (fun k => ?_) (ih (i + 1) (j - 1) (swp d i j) (by omega) (by rw [size_swp']; omega) (by rw [size_swp']; omega))
      simp only [qsrrou6.l0]
      rw [lenA, if_pos (by omega), if_pos (by omega), if_pos (by omega), if_pos (by omega), if_pos (by omega), swpA, e1, e2]
    · rw [if_neg h]
      refine Ev.step (fun k => ?_) (Ev.now _)
      simp only [qsrrou6.l0]
      rw [if_neg (by omega)]
theorem rev (d : Array Int) (a b : Nat) (hab : a < b) (hb : b ≤ d.size) (hm : d.size ≤ 2305843009213693952) : Ev (fun k => qsrrou6.f k d.toList a b) (reverseRange d a b).toList := by
  have e2 : wrap64 ((b : Int) - 1) = ((b - 1 : Nat) : Int) := wsub (by omega) (by omega)
  refine Ev.congr (fun k => ?_) (rev_l0 _ a (b - 1) d (Nat.le_refl _) (by omega) hm)
  simp only [qsrrou6.f]
  rw [e2]

theorem pi_l1 (a b st : Nat) (d : Array Int) (hb : b ≤ d.size) (hm : d.size ≤ 2305843009213693952) {r : Bool × List Int} : ∀ (n i : Nat), b - i ≤ n → 1 ≤ i →
    Ev (fun k => qspisou6.j2 k d.toList a b ((scanSorted ltInt d b i : Nat) : Int) st) r → Ev (fun k => qspisou6.l1 k d.toList a b i st) r := by
  intro n
  induction n with
  | zero =>
    intro i hn hi h
    rw [scanSorted, if_neg (by simp; omega)] at h
    refine Ev.step (fun k => ?_) h
    simp only [qspisou6.l1]
    rw [if_neg (by omega)]
  | succ n ih =>
    intro i hn hi h
    rw [scanSorted] at h
    by_cases hij : i < b
    · have e1 : wrap64 ((i : Int) + 1) = ((i + 1 : Nat) : Int) := wadd (by omega)
      have e2 : wrap64 ((i : Int) - 1) = ((i - 1 : Nat) : Int) := wsub (by omega) (by omega)
      have IH := ih (i + 1) (by omega) (by omega)
      clear ih
      have b1 : (i : Int) < (b : Int) := by omega
      have b2 : (0 : Int) ≤ (i : Int) := by omega
      have b3 : (i : Int) < (d.size : Int) := by omega
      have b4 : (0 : Int) ≤ ((i - 1 : Nat) : Int) := by omega
      have b5 : ((i - 1 : Nat) : Int) < (d.size : Int) := by omega
      cases hl : ltInt d[i]! d[i - 1]! with
      | false =>
        rw [if_pos (by simp [hl, hij])] at h
        refine Ev.step (fun k => ?_) (IH h)
        simp only [qspisou6.l1]
        rw [lenA, e2, if_pos b1, if_pos b2, if_pos b3, if_pos b4, if_pos b5, less, rdA, rdA, hl, someBind, if_neg Bool.false_ne_true, e1]
      | true =>
        rw [if_neg (by simp [hl])] at h
        refine Ev.step (fun k => ?_) h
        simp only [qspisou6.l1]
        rw [lenA, e2, if_pos b1, if_pos b2, if_pos b3, if_pos b4, if_pos b5, less, rdA, rdA, hl, someBind, if_pos rfl]
    · rw [if_neg (by simp [hij])] at h
      refine Ev.step (fun k => ?_) h
      simp only [qspisou6.l1]
      rw [if_neg (by omega)]
theorem pi_l2 (a b i st : Nat) {r : Bool × List Int} : ∀ (j : Nat) (d : Array Int), j < d.size → d.size ≤ 2305843009213693952 →
    Ev (fun k => qspisou6.j4 k (shiftDown ltInt j d).toList a b i st) r → Ev (fun k => qspisou6.l2 k d.toList a b i st j) r := by
  intro j
  induction j with
  | zero =>
    intro d hj hm h
    refine Ev.step (fun k => ?_) h
    simp only [qspisou6.l2]
    rw [if_neg (by omega)]; rfl
  | succ j ih =>
    intro d hj hm h
    have e2 : wrap64 (((j + 1 : Nat) : Int) - 1) = ((j : Nat) : Int) := w64' (by omega) (by omega)
    have b1 : ((j + 1 : Nat) : Int) ≥ 1 := by omega
    have b2 : (0 : Int) ≤ ((j + 1 : Nat) : Int) := by omega
    have b3 : ((j + 1 : Nat) : Int) < (d.size : Int) := by omega
    have b4 : (0 : Int) ≤ (j : Int) := by omega
    have b5 : (j : Int) < (d.size : Int) := by omega
    rw [shiftDown] at h
    have IH := ih (swp d (j + 1) j) (by rw [size_swp']; omega) (by rw [size_swp']; omega)
    clear ih
    cases hl : ltInt d[j + 1]! d[j]! with
    | true =>
      rw [if_neg (by simp [hl])] at h
      refine Ev.step (fun k => ?_) (IH h)
      simp only [qspisou6.l2]
      rw [lenA, e2, if_pos b1, if_pos b2, if_pos b3, if_pos b4, if_pos b5, less, rdA, rdA, hl, someBind, if_pos rfl, ← rdA, ← rdA, swpA]
    | false =>
      rw [if_pos (by simp [hl])] at h
      refine Ev.step (fun k => ?_) h
      simp only [qspisou6.l2]
      rw [lenA, e2, if_pos b1, if_pos b2, if_pos b3, if_pos b4, if_pos b5, less, rdA, rdA, hl, someBind, if_neg Bool.false_ne_true]
theorem pi_l3 (a b i st : Nat) (hst : st ≤ 5) {r : Bool × List Int} : ∀ (n j : Nat) (d : Array Int), b - j ≤ n → 1 ≤ j → b ≤ d.size → d.size ≤ 2305843009213693952 →
    Ev (fun k => qspisou6.l0 k (shiftUp ltInt b j d).toList a b i ((st + 1 : Nat) : Int)) r → Ev (fun k => qspisou6.l3 k d.toList a b i st j) r := by
  have e3 : wrap64 ((st : Int) + 1) = ((st + 1 : Nat) : Int) := wadd (by omega)
  intro n
  induction n with
  | zero =>
    intro j d hn hj hb hm h
    rw [shiftUp, if_neg (by omega)] at h
    refine Ev.step (fun k => ?_) h
    simp only [qspisou6.l3]
    rw [if_neg (by omega), e3]
  | succ n ih =>
    intro j d hn hj hb hm h
    rw [shiftUp] at h
    by_cases hij : j < b
    · rw [if_pos hij] at h
      have e1 : wrap64 ((j : Int) + 1) = ((j + 1 : Nat) : Int) := wadd (by omega)
      have e2 : wrap64 ((j : Int) - 1) = ((j - 1 : Nat) : Int) := wsub (by omega) (by omega)
      have IH := ih (j + 1) (swp d j (j - 1)) (by omega) (by omega) (by rw [size_swp']; omega) (by rw [size_swp']; omega)
      clear ih
      have b1 : (j : Int) < (b : Int) := by omega
      have b2 : (0 : Int) ≤ (j : Int) := by omega
      have b3 : (j : Int) < (d.size : Int) := by omega
      have b4 : (0 : Int) ≤ ((j - 1 : Nat) : Int) := by omega
      have b5 : ((j - 1 : Nat) : Int) < (d.size : Int) := by omega
      cases hl : ltInt d[j]! d[j - 1]! with
      | true =>
        rw [if_neg (by simp [hl])] at h
        refine Ev.step (fun k => ?_) (IH h)
        simp only [qspisou6.l3]
        rw [lenA, e2, if_pos b1, if_pos b2, if_pos b3, if_pos b4, if_pos b5, less, rdA, rdA, hl, someBind, if_pos rfl, e1, ← rdA, ← rdA, swpA]
      | false =>
        rw [if_pos (by simp [hl])] at h
        refine Ev.step (fun k => ?_) h
        simp only [qspisou6.l3]
        rw [lenA, e2, if_pos b1, if_pos b2, if_pos b3, if_pos b4, if_pos b5, less, rdA, rdA, hl, someBind, if_neg Bool.false_ne_true, e3]
    · rw [if_neg hij] at h
      refine Ev.step (fun k => ?_) h
      simp only [qspisou6.l3]
      rw [if_neg (by omega), e3]
theorem size_shiftDown : ∀ (j : Nat) (d : Array Int), (shiftDown ltInt j d).size = d.size := by
  intro j
  induction j with
  | zero => intro d; rfl
  | succ j ih =>
    intro d
    rw [shiftDown]
    split
    · rfl
    · rw [ih, size_swp']
theorem size_shiftUp (b : Nat) : ∀ (n j : Nat) (d : Array Int), b - j ≤ n → (shiftUp ltInt b j d).size = d.size := by
  intro n
  induction n with
  | zero => intro j d h; rw [shiftUp, if_neg (by omega)]
  | succ n ih =>
    intro j d h
    rw [shiftUp]
    split
    · split
      · rfl
      · rw [ih _ _ (by omega), size_swp']
    · rfl
theorem scanSorted_ge (d : Array Int) (b : Nat) : ∀ (n i : Nat), b - i ≤ n → i ≤ scanSorted ltInt d b i ∧ (i ≤ b → scanSorted ltInt d b i ≤ b) := by
  intro n
  induction n with
  | zero => intro i h; rw [scanSorted, if_neg (by simp; omega)]; omega
  | succ n ih =>
    intro i h
    rw [scanSorted]
    split
    · rename_i h1
      have := ih (i + 1) (by omega)
      simp at h1
      omega
    · omega
theorem size_partialIns (a b : Nat) : ∀ (s i : Nat) (d : Array Int), (partialIns ltInt a b s i d).1.size = d.size := by
  intro s
  induction s with
  | zero => intro i d; rfl
  | succ s ih =>
    intro i d
    rw [partialIns_succ]
    split
    · rfl
    · split
      · rfl
      · rw [ih]
        rw [fixUp, fixDown]
        split <;> split <;> simp [size_shiftUp _ _ _ _ (Nat.le_refl _), size_shiftDown, size_swp']
theorem pi_j4 (a b i st s : Nat) (hab : a < b) (hst : st ≤ 5) (hi : 1 ≤ i) (hib : i ≤ b) (d' : Array Int) (hb : b ≤ d'.size) (hm : d'.size ≤ 2305843009213693952) {r : Bool × List Int}
    (IH : ∀ d2 : Array Int, d2.size = d'.size → d2 = fixUp ltInt b i d' → Ev (fun k => qspisou6.l0 k d2.toList a b i ((st + 1 : Nat) : Int)) r) :
    Ev (fun k => qspisou6.j4 k d'.toList a b i (st : Int)) r := by
  have e4 : wrap64 ((b : Int) - (i : Int)) = ((b - i : Nat) : Int) := wdif (by omega) (by omega)
  have e5 : wrap64 ((i : Int) + 1) = ((i + 1 : Nat) : Int) := wadd (by omega)
  have e6 : wrap64 ((st : Int) + 1) = ((st + 1 : Nat) : Int) := wadd (by omega)
  by_cases h3 : b - i ≥ 2
  · refine Ev.step (f := fun k => qspisou6.l3 k d'.toList a b i st ((i + 1 : Nat) : Int)) (fun k => ?_) (pi_l3 a b i _ hst _ (i + 1) d' (Nat.le_refl _) (by omega) (by omega) (by omega) ?_)
    · simp only [qspisou6.j4]
      rw [e4, if_pos (by omega), e5]
    · exact IH (shiftUp ltInt b (i + 1) d') (by rw [size_shiftUp _ _ _ _ (Nat.le_refl _)]) (by rw [fixUp, if_pos h3])
  · refine Ev.step (fun k => ?_) (IH d' rfl (by rw [fixUp, if_neg h3]))
    simp only [qspisou6.j4]
    rw [e4, if_neg (by omega), e6]
theorem pi_j2 (a b i st s : Nat) (hab : a < b) (hst : st ≤ 5) (hai : a < i) (hib : i ≤ b) (d : Array Int) (hb : b ≤ d.size) (hm : d.size ≤ 2305843009213693952) {r : Bool × List Int}
    (h1 : i = b → r = (true, d.toList)) (h2 : i ≠ b → b - a < 50 → r = (false, d.toList))
    (IH : i ≠ b → ¬ b - a < 50 → ∀ d2 : Array Int, d2.size = d.size → d2 = fixUp ltInt b i (fixDown ltInt a i (swp d i (i - 1))) → Ev (fun k => qspisou6.l0 k d2.toList a b i ((st + 1 : Nat) : Int)) r) :
    Ev (fun k => qspisou6.j2 k d.toList a b i (st : Int)) r := by
  by_cases g1 : i = b
  · rw [h1 g1]
    refine Ev.step (fun k => ?_) (Ev.now _)
    simp only [qspisou6.j2]
    rw [if_pos (by omega)]
  · have c1 : ¬ (i : Int) = (b : Int) := by omega
    have e1 : wrap64 ((b : Int) - (a : Int)) = ((b - a : Nat) : Int) := wdif (by omega) (by omega)
    by_cases g2 : b - a < 50
    · rw [h2 g1 g2]
      refine Ev.step (fun k => ?_) (Ev.now _)
      simp only [qspisou6.j2]
      rw [if_neg c1, e1, if_pos (by omega)]
    · have IH' := IH g1 g2
      clear IH h1 h2
      have e2 : wrap64 ((i : Int) - 1) = ((i - 1 : Nat) : Int) := wsub (by omega) (by omega)
      have e3 : wrap64 ((i : Int) - (a : Int)) = ((i - a : Nat) : Int) := wdif (by omega) (by omega)
      have c2 : ¬ ((b - a : Nat) : Int) < 50 := by omega
      have c3 : (0 : Int) ≤ ((i - 1 : Nat) : Int) := by omega
      have c4 : ((i - 1 : Nat) : Int) < (d.size : Int) := by omega
      have c5 : (0 : Int) ≤ (i : Int) := by omega
      have c6 : (i : Int) < (d.size : Int) := by omega
      by_cases h4 : i - a ≥ 2
      · have c7 : ((i - a : Nat) : Int) ≥ 2 := by omega
        rw [fixDown, if_pos h4] at IH'
        refine Ev.step (f := fun k => qspisou6.l2 k (swp d i (i - 1)).toList a b i st ((i - 1 : Nat) : Int)) (fun k => ?_)
          (pi_l2 a b i _ (i - 1) _ (by rw [size_swp']; omega) (by rw [size_swp']; omega) (pi_j4 a b i st s hab hst (by omega) hib _ (by rw [size_shiftDown, size_swp']; omega) (by rw [size_shiftDown, size_swp']; omega) ?_))
        · simp only [qspisou6.j2]
          rw [if_neg c1, e1, if_neg c2, lenA, e2, if_pos c3, if_pos c4, if_pos c5, if_pos c6, someBind, e3, if_pos c7, swpA]
        · intro d2 hd h; exact IH' d2 (by rw [hd, size_shiftDown, size_swp']) h
      · have c7 : ¬ ((i - a : Nat) : Int) ≥ 2 := by omega
        rw [fixDown, if_neg h4] at IH'
        refine Ev.step (f := fun k => qspisou6.j4 k (swp d i (i - 1)).toList a b i st) (fun k => ?_)
          (pi_j4 a b i st s hab hst (by omega) hib _ (by rw [size_swp']; omega) (by rw [size_swp']; omega) ?_)
        · simp only [qspisou6.j2]
          rw [if_neg c1, e1, if_neg c2, lenA, e2, if_pos c3, if_pos c4, if_pos c5, if_pos c6, someBind, e3, if_neg c7, swpA]
        · intro d2 hd h; exact IH' d2 (by rw [hd, size_swp']) h
theorem pi_l0 (a b : Nat) (hab : a < b) : ∀ (s st i : Nat) (d : Array Int), st + s = 5 → a < i → i ≤ b → b ≤ d.size → d.size ≤ 2305843009213693952 →
    Ev (fun k => qspisou6.l0 k d.toList a b i (st : Int)) ((partialIns ltInt a b s i d).2, (partialIns ltInt a b s i d).1.toList) := by
  intro s
  induction s with
  | zero =>
    intro st i d _ _ _ _ _
    refine Ev.step (fun k => ?_) (Ev.now _)
    simp only [qspisou6.l0]
    rw [if_neg (by omega)]; rfl
  | succ s ih =>
    intro st i d hs hai hib hb hm
    refine Ev.step (f := fun k => qspisou6.l1 k d.toList a b i (st : Int)) (fun k => ?_) (pi_l1 a b _ d hb hm _ i (Nat.le_refl _) (by omega) ?_)
    · simp only [qspisou6.l0]
      rw [if_pos (by omega)]
    · rw [partialIns_succ]
      have hg := scanSorted_ge d b _ i (Nat.le_refl _)
      generalize scanSorted ltInt d b i = i' at hg ⊢
      have hg1 : a < i' := by omega
      have hg2 : i' ≤ b := by omega
      refine pi_j2 a b i' st s hab (by omega) hg1 hg2 d hb hm (fun h => ?_) (fun h h' => ?_) (fun h h' d2 hd h2 => ?_)
      · rw [if_pos h]
      · rw [if_neg h, if_pos h']
      · rw [if_neg h, if_neg h', ← h2]
        exact ih (st + 1) i' d2 (by omega) hg1 hg2 (by omega) (by omega)
theorem partial_ins (d : Array Int) (a b : Nat) (hab : a < b) (hb : b ≤ d.size) (hm : d.size ≤ 2305843009213693952) :
    Ev (fun k => qspisou6.f k d.toList a b) ((partialInsertionSort ltInt d a b).2, (partialInsertionSort ltInt d a b).1.toList) := by
  have e1 : wrap64 ((a : Int) + 1) = ((a + 1 : Nat) : Int) := wadd (by omega)
  refine Ev.congr (fun k => ?_) (pi_l0 a b hab 5 0 (a + 1) d (by omega) (by omega) (by omega) hb hm)
  simp only [qspisou6.f]
  rw [e1]; rfl
end Go.Proofs.YtkmbgfhkdopigaaDoor.Pdq
