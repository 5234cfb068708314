/- Texts that the statement's proof leans on, part 14. -/
import Derived.Test.YtkmbgfhkdopigaaDoorTB5
import Derived.Test.YtkmbgfhkdopigaaDoorTB7
import Derived.Sort.LotD3
namespace Go.Proofs.YtkmbgfhkdopigaaDoor.Pdq
set_option linter.unusedSimpArgs false
open Go.RowKit Go.Sort Go.Proofs.YtkmbgfhkdopigaaDoor.P Go.Proofs.YtkmbgfhkdopigaaDoorW.PrintWords
theorem rdA (d : Array Int) (i : Nat) : rd d.toList (i : Int) = d[i]! := by
  unfold rd
  simp only [Int.toNat_natCast]
  by_cases h : i < d.size
  · simp [List.getD_eq_getElem?_getD, h]
  · simp [List.getD_eq_getElem?_getD, h]
theorem setA (d : Array Int) (n : Nat) (x : Int) : d.toList.set n x = (d.setIfInBounds n x).toList := by simp
theorem swpA (d : Array Int) (i j : Nat) : (d.toList.set ((i : Int)).toNat (rd d.toList (j : Int))).set ((j : Int)).toNat (rd d.toList (i : Int)) = (swp d i j).toList := by
  rw [rdA, rdA, Int.toNat_natCast, Int.toNat_natCast, setA, setA]; rfl
theorem lenA (d : Array Int) : ((d.toList.length : Nat) : Int) = (d.size : Int) := by simp
theorem less (x y : Int) : qclu6.f x y = some (ltInt x y) := by simp [qclu6.f, qcinnu6.f, ltInt]
theorem w64 {x : Int} (h : -9223372036854775808 ≤ x) (h2 : x ≤ 9223372036854775807) : wrap64 x = x := by unfold wrap64; omega
theorem w64' {x : Int} {n : Nat} (e : x = n) (h2 : n ≤ 9223372036854775807) : wrap64 x = (n : Int) := by rw [e]; exact w64 (by omega) (by omega)
theorem size_swp' (d : Array Int) (i j : Nat) : (swp d i j).size = d.size := by simp [swp]
theorem someBind {α β : Type} (a : α) (f : α → Option β) : (some a).bind f = f a := rfl

theorem ins_inner (a b i : Nat) (hb : b ≤ 4611686018427387904) (hi : i < b) {r : List Int} : ∀ (j : Nat) (d : Array Int), b ≤ d.size → j ≤ i →
    Ev (fun k => qsisou6.l0 k (insInner ltInt a j d).toList a b ((i + 1 : Nat) : Int)) r → Ev (fun k => qsisou6.l1 k d.toList a b i j) r := by
  intro j
  induction j with
  | zero =>
    intro d hd hj h
    refine Ev.step (fun k => ?_) h
    simp only [qsisou6.l1]
    rw [if_neg (by omega), w64' (n := i + 1) (by omega) (by omega)]
    rfl
  | succ j ih =>
    intro d hd hj h
    have e1 : wrap64 (((j + 1 : Nat) : Int) - 1) = ((j : Nat) : Int) := w64' (by omega) (by omega)
    have e2 : wrap64 ((i : Int) + 1) = ((i + 1 : Nat) : Int) := w64' (by omega) (by omega)
    by_cases hja : j + 1 > a
    · by_cases hl : ltInt d[j + 1]! d[j]! = true
      · have hin : insInner ltInt a (j + 1) d = insInner ltInt a j (swp d (j + 1) j) := by rw [insInner]; rw [if_pos]; simp [hja, hl]
        rw [hin] at h
        refine Ev.step (fun k => ?_) (ih (swp d (j + 1) j) (by rw [size_swp']; exact hd) (by omega) h)
        simp only [qsisou6.l1]
        rw [e1, lenA, if_pos (by omega), if_pos (by omega), if_pos (by omega), if_pos (by omega), if_pos (by omega), less, rdA, rdA, hl, someBind, if_pos rfl, ← rdA, ← rdA, swpA]
      · have hl' : ltInt d[j + 1]! d[j]! = false := by simpa using hl
        have hin : insInner ltInt a (j + 1) d = d := by rw [insInner]; rw [if_neg]; simp [hl']
        rw [hin] at h
        refine Ev.step (fun k => ?_) h
        simp only [qsisou6.l1]
        rw [e1, e2, lenA, if_pos (by omega), if_pos (by omega), if_pos (by omega), if_pos (by omega), if_pos (by omega), less, rdA, rdA, hl', someBind, if_neg (by simp)]
    · have hin : insInner ltInt a (j + 1) d = d := by rw [insInner]; rw [if_neg]; simp [hja]
      rw [hin] at h
      refine Ev.step (fun k => ?_) h
      simp only [qsisou6.l1]
      rw [e2, if_neg (by omega)]
theorem size_insInner (a : Nat) : ∀ (j : Nat) (d : Array Int), (insInner ltInt a j d).size = d.size := by
  intro j
  induction j with
  | zero => intro d; rfl
  | succ j ih =>
    intro d
    rw [insInner]
    split
    · rw [ih, size_swp']
    · rfl
theorem ins_outer (a b : Nat) (hb : b ≤ 4611686018427387904) : ∀ (n i : Nat) (d : Array Int), b - i ≤ n → b ≤ d.size → Ev (fun k => qsisou6.l0 k d.toList a b i) (insOuter ltInt a b i d).toList := by
  intro n
  induction n with
  | zero =>
    intro i d hn hd
    rw [insOuter, if_neg (by omega)]
    refine Ev.step (fun k => ?_) (Ev.now _)
    simp only [qsisou6.l0]
    rw [if_neg (by omega)]
  | succ n ih =>
    intro i d hn hd
    rw [insOuter]
    by_cases hi : i < b
    · rw [if_pos hi]
      refine Ev.step (fun k => ?_) (ins_inner a b i hb hi i d hd (Nat.le_refl _) (ih (i + 1) _ (by omega) (by rw [size_insInner]; exact hd)))
      simp only [qsisou6.l0]
      rw [if_pos (by omega)]
    · rw [if_neg hi]
      refine Ev.step (fun k => ?_) (Ev.now _)
      simp only [qsisou6.l0]
      rw [if_neg (by omega)]
theorem ins_sort (d : Array Int) (a b : Nat) (hb : b ≤ 4611686018427387904) (hab : a ≤ b) (hd : b ≤ d.size) : Ev (fun k => qsisou6.f k d.toList a b) (insertionSort ltInt d a b).toList := by
  refine Ev.congr (fun k => ?_) (ins_outer a b hb _ (a + 1) d (Nat.le_refl _) hd)
  simp only [qsisou6.f]
  rw [w64' (n := a + 1) (by omega) (by omega)]

theorem size_sift (hi F : Nat) : ∀ (n root : Nat) (d : Array Int), hi - root ≤ n → (siftDown ltInt hi F root d).size = d.size := by
  intro n
  induction n with
  | zero =>
    intro root d hn
    rw [siftDown, dif_pos (by omega)]
  | succ n ih =>
    intro root d hn
    rw [siftDown]
    split
    · rfl
    · split
      · split
        · rfl
        · split
          · rw [ih _ _ (by omega), size_swp']
          · rfl
      · split
        · rfl
        · rw [ih _ _ (by omega), size_swp']
theorem sift_j1 (hi F root c : Nat) (d : Array Int) (r : List Int) (x : Bool) (y : Nat) (hy : (if x = true then c + 1 else c) = y) (hF : F + y < d.size) (hR : F + root < d.size) (hm : d.size ≤ 2305843009213693952)
    (yes : ltInt d[F + root]! d[F + y]! = true → Ev (fun k => qssdou6.l0 k (swp d (F + root) (F + y)).toList hi F (y : Int)) r) (no : ltInt d[F + root]! d[F + y]! = false → r = d.toList) :
    Ev (fun k => qssdou6.j1 k d.toList hi F root (c : Int) x) r := by
  have f0 : wrap64 ((F : Int) + (root : Int)) = ((F + root : Nat) : Int) := w64' (by omega) (by omega)
  have f1 : wrap64 ((F : Int) + (y : Int)) = ((F + y : Nat) : Int) := w64' (by omega) (by omega)
  have b1 : (0 : Int) ≤ ((F + root : Nat) : Int) := by omega
  have b2 : ((F + root : Nat) : Int) < (d.size : Int) := by omega
  have b3 : (0 : Int) ≤ ((F + y : Nat) : Int) := by omega
  have b4 : ((F + y : Nat) : Int) < (d.size : Int) := by omega
  cases x with
  | true =>
    have hy1 : c + 1 = y := by simpa using hy
    have e3 : wrap64 ((c : Int) + 1) = (y : Int) := w64' (by omega) (by omega)
    cases hl : ltInt d[F + root]! d[F + y]! with
    | true =>
      refine Ev.step (fun k => ?_) (yes hl)
      simp only [qssdou6.j1, if_true, if_false, Bool.false_eq_true]
      rw [f0, e3, f1, lenA, if_pos b1, if_pos b2, if_pos b3, if_pos b4, less, rdA, rdA, hl, someBind, if_pos rfl, ← rdA, ← rdA, swpA]
    | false =>
      rw [no hl]
      refine Ev.step (fun k => ?_) (Ev.now _)
      simp only [qssdou6.j1, if_true, if_false, Bool.false_eq_true]
      rw [f0, e3, f1, lenA, if_pos b1, if_pos b2, if_pos b3, if_pos b4, less, rdA, rdA, hl, someBind, if_neg Bool.false_ne_true]
  | false =>
    have e3 : c = y := by simpa using hy
    subst e3
    cases hl : ltInt d[F + root]! d[F + c]! with
    | true =>
      refine Ev.step (fun k => ?_) (yes hl)
      simp only [qssdou6.j1, if_true, if_false, Bool.false_eq_true]
      rw [f0, f1, lenA, if_pos b1, if_pos b2, if_pos b3, if_pos b4, less, rdA, rdA, hl, someBind, if_pos rfl, ← rdA, ← rdA, swpA]
    | false =>
      rw [no hl]
      refine Ev.step (fun k => ?_) (Ev.now _)
      simp only [qssdou6.j1, if_true, if_false, Bool.false_eq_true]
      rw [f0, f1, lenA, if_pos b1, if_pos b2, if_pos b3, if_pos b4, less, rdA, rdA, hl, someBind, if_neg Bool.false_ne_true]
theorem sift_l0 (hi F root c : Nat) (d : Array Int) (r : List Int) (hc : c = 2 * root + 1) (hF : F + hi ≤ d.size) (hm : d.size ≤ 2305843009213693952) (hr : c < hi)
    (one : c + 1 < hi → Ev (fun k => qssdou6.j1 k d.toList hi F root (c : Int) (ltInt d[F + c]! d[F + c + 1]!)) r)
    (two : ¬ c + 1 < hi → Ev (fun k => qssdou6.j1 k d.toList hi F root (c : Int) false) r) :
    Ev (fun k => qssdou6.l0 k d.toList hi F root) r := by
  have e1 : wrap64 (2 * (root : Int)) = ((2 * root : Nat) : Int) := w64' (by omega) (by omega)
  have e2 : wrap64 (((2 * root : Nat) : Int) + 1) = (c : Int) := w64' (by omega) (by omega)
  have e3 : wrap64 ((c : Int) + 1) = ((c + 1 : Nat) : Int) := w64' (by omega) (by omega)
  have f1 : wrap64 ((F : Int) + (c : Int)) = ((F + c : Nat) : Int) := w64' (by omega) (by omega)
  have f3 : wrap64 (((F + c : Nat) : Int) + 1) = ((F + c + 1 : Nat) : Int) := w64' (by omega) (by omega)
  have n1 : ¬ (c : Int) ≥ (hi : Int) := by omega
  by_cases h1 : c + 1 < hi
  · have b0 : ((c + 1 : Nat) : Int) < (hi : Int) := by omega
    have b1 : (0 : Int) ≤ ((F + c : Nat) : Int) := by omega
    have b2 : ((F + c : Nat) : Int) < (d.size : Int) := by omega
    have b3 : (0 : Int) ≤ ((F + c + 1 : Nat) : Int) := by omega
    have b4 : ((F + c + 1 : Nat) : Int) < (d.size : Int) := by omega
    refine Ev.step (fun k => ?_) (one h1)
    simp only [qssdou6.l0]
    rw [e1, e2, if_neg n1, e3, if_pos b0, f1, f3, lenA, if_pos b1, if_pos b2, if_pos b3, if_pos b4, less, rdA, rdA, someBind]
  · have b0 : ¬ ((c + 1 : Nat) : Int) < (hi : Int) := by omega
    refine Ev.step (fun k => ?_) (two h1)
    simp only [qssdou6.l0]
    rw [e1, e2, if_neg n1, e3, if_neg b0]
theorem sift (hi F : Nat) : ∀ (n root : Nat) (d : Array Int), hi - root ≤ n → F + hi ≤ d.size → d.size ≤ 2305843009213693952 → root ≤ hi →
    Ev (fun k => qssdou6.l0 k d.toList hi F root) (siftDown ltInt hi F root d).toList := by
  intro n
  induction n with
  | zero =>
    intro root d hn hF hm hr
    have e1 : wrap64 (2 * (root : Int)) = ((2 * root : Nat) : Int) := w64' (by omega) (by omega)
    have e2 : wrap64 (((2 * root : Nat) : Int) + 1) = ((2 * root + 1 : Nat) : Int) := w64' (by omega) (by omega)
    rw [siftDown, dif_pos (by omega)]
    refine Ev.step (fun k => ?_) (Ev.now _)
    simp only [qssdou6.l0]
    rw [e1, e2, if_pos (by omega)]
  | succ n ih =>
    intro root d hn hF hm hr
    by_cases hc : 2 * root + 1 ≥ hi
    · have e1 : wrap64 (2 * (root : Int)) = ((2 * root : Nat) : Int) := w64' (by omega) (by omega)
      have e2 : wrap64 (((2 * root : Nat) : Int) + 1) = ((2 * root + 1 : Nat) : Int) := w64' (by omega) (by omega)
      rw [siftDown, dif_pos hc]
      refine Ev.step (fun k => ?_) (Ev.now _)
      simp only [qssdou6.l0]
      rw [e1, e2, if_pos (by omega)]
    · rw [siftDown, dif_neg hc]
      have IH : ∀ y, root < y → y ≤ hi → Ev (fun k => qssdou6.l0 k (swp d (F + root) (F + y)).toList hi F (y : Int)) (siftDown ltInt hi F y (swp d (F + root) (F + y))).toList :=
        fun y h1 h2 => ih y _ (by omega) (by rw [size_swp']; exact hF) (by rw [size_swp']; exact hm) h2
      clear ih
      refine sift_l0 hi F root (2 * root + 1) d _ rfl hF hm (by omega) (fun h1 => ?_) (fun h1 => ?_)
      · cases hl : ltInt d[F + (2 * root + 1)]! d[F + (2 * root + 1) + 1]! with
        | true =>
          rw [if_pos (by simp [h1]), dif_pos (show 2 * root + 2 < hi by omega)]
          refine sift_j1 hi F root (2 * root + 1) d _ true (2 * root + 2) rfl (by omega) (by omega) hm (fun h2 => ?_) (fun h2 => ?_)
          · rw [h2, if_neg (by simp)]; exact IH (2 * root + 2) (by omega) (by omega)
          · rw [h2, if_pos (by simp)]
        | false =>
          rw [if_neg (by simp)]
          refine sift_j1 hi F root (2 * root + 1) d _ false (2 * root + 1) rfl (by omega) (by omega) hm (fun h2 => ?_) (fun h2 => ?_)
          · rw [h2, if_neg (by simp)]; exact IH (2 * root + 1) (by omega) (by omega)
          · rw [h2, if_pos (by simp)]
      · rw [if_neg (by simp [h1])]
        refine sift_j1 hi F root (2 * root + 1) d _ false (2 * root + 1) rfl (by omega) (by omega) hm (fun h2 => ?_) (fun h2 => ?_)
        · rw [h2, if_neg (by simp)]; exact IH (2 * root + 1) (by omega) (by omega)
        · rw [h2, if_pos (by simp)]
theorem siftf (hi F root : Nat) (d : Array Int) (hF : F + hi ≤ d.size) (hm : d.size ≤ 2305843009213693952) (hr : root ≤ hi) :
    Ev (fun k => qssdou6.f k d.toList root hi F) (siftDown ltInt hi F root d).toList := sift hi F _ root d (Nat.le_refl _) hF hm hr
theorem pop (F : Nat) : ∀ (m : Nat) (d : Array Int), F + m ≤ d.size → d.size ≤ 2305843009213693952 → Ev (fun k => qshsou6.l1 k d.toList F 0 ((m : Int) - 1)) (heapPop ltInt F m d).toList := by
  intro m
  induction m with
  | zero =>
    intro d hF hm
    refine Ev.step (fun k => ?_) (Ev.now _)
    simp only [qshsou6.l1]
    rw [if_neg (by omega)]; rfl
  | succ m ih =>
    intro d hF hm
    have e0 : ((m + 1 : Nat) : Int) - 1 = ((m : Nat) : Int) := by omega
    have e1 : wrap64 ((F : Int) + (m : Int)) = ((F + m : Nat) : Int) := w64' (by omega) (by omega)
    have e2 : wrap64 ((m : Int) - 1) = (m : Int) - 1 := w64 (by omega) (by omega)
    rw [heapPop]
    have hs := size_sift m F _ 0 (swp d F (F + m)) (Nat.le_refl _)
    rw [size_swp'] at hs
    refine Ev.step (f := fun k => (qssdou6.f k (swp d F (F + m)).toList ((0 : Nat) : Int) m F).bind fun t => qshsou6.l1 k t F 0 ((m : Int) - 1)) (fun k => ?_)
      (Ev.bind (siftf m F 0 (swp d F (F + m)) (by rw [size_swp']; omega) (by rw [size_swp']; exact hm) (by omega)) (ih _ (by rw [hs]; omega) (by rw [hs]; exact hm)))
    simp only [qshsou6.l1]
    rw [e0, if_pos (by omega), e1, lenA, if_pos (by omega), if_pos (by omega), if_pos (by omega), if_pos (by omega), e2, swpA]; rfl
theorem build (hi F : Nat) {r : List Int} : ∀ (m : Nat) (d : Array Int), m ≤ hi + 1 → F + hi ≤ d.size → d.size ≤ 2305843009213693952 →
    Ev (fun k => qshsou6.l1 k (heapBuild ltInt hi F m d).toList F 0 (wrap64 ((hi : Int) - 1))) r → Ev (fun k => qshsou6.l0 k d.toList F 0 hi ((m : Int) - 1)) r := by
  intro m
  induction m with
  | zero =>
    intro d hmm hF hm h
    refine Ev.step (fun k => ?_) h
    simp only [qshsou6.l0]
    rw [if_neg (by omega)]; rfl
  | succ m ih =>
    intro d hmm hF hm h
    have e0 : ((m + 1 : Nat) : Int) - 1 = ((m : Nat) : Int) := by omega
    have e2 : wrap64 ((m : Int) - 1) = (m : Int) - 1 := w64 (by omega) (by omega)
    rw [heapBuild] at h
    have hs := size_sift hi F _ m d (Nat.le_refl _)
    refine Ev.step (f := fun k => (qssdou6.f k d.toList m hi F).bind fun t => qshsou6.l0 k t F 0 hi ((m : Int) - 1)) (fun k => ?_)
      (Ev.bind (siftf hi F m d hF hm (by omega)) (ih _ (by omega) (by rw [hs]; exact hF) (by rw [hs]; exact hm) h))
    simp only [qshsou6.l0]
    rw [e0, if_pos (by omega), e2]
theorem size_build (hi F : Nat) : ∀ (m : Nat) (d : Array Int), (heapBuild ltInt hi F m d).size = d.size := by
  intro m
  induction m with
  | zero => intro d; rfl
  | succ m ih => intro d; rw [heapBuild, ih, size_sift _ _ _ _ _ (Nat.le_refl _)]
theorem heap_sort (d : Array Int) (a b : Nat) (hab : a ≤ b) (hd : b ≤ d.size) (hm : d.size ≤ 2305843009213693952) : Ev (fun k => qshsou6.f k d.toList a b) (heapSort ltInt d a b).toList := by
  have e1 : wrap64 ((b : Int) - (a : Int)) = ((b - a : Nat) : Int) := w64' (by omega) (by omega)
  have e2 : wrap64 (((b - a : Nat) : Int) - 1) = ((b - a : Nat) : Int) - 1 := w64 (by omega) (by omega)
  have e3 : wrap64 (Int.tdiv (((b - a : Nat) : Int) - 1) 2) = (((b - a - 1) / 2 + 1 : Nat) : Int) - 1 := by
    have : Int.tdiv (((b - a : Nat) : Int) - 1) 2 = (((b - a - 1) / 2 + 1 : Nat) : Int) - 1 := by
      by_cases h0 : b - a = 0
      · rw [h0]; decide
      · have : ((b - a : Nat) : Int) - 1 = ((b - a - 1 : Nat) : Int) := by omega
        rw [this, Int.tdiv_eq_ediv_of_nonneg (by omega)]; omega
    rw [this]; exact w64 (by omega) (by omega)
  unfold heapSort
  refine Ev.congr (fun k => ?_) (build (b - a) a ((b - a - 1) / 2 + 1) d (by omega) (by omega) hm (r := _) ?_)
  · simp only [qshsou6.f]
    rw [e1, e2, e3]
  · rw [e2]
    exact pop a (b - a) _ (by rw [size_build]; omega) (by rw [size_build]; exact hm)
end Go.Proofs.YtkmbgfhkdopigaaDoor.Pdq
