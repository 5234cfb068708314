/- Texts that the statement's proof leans on, part 17. -/
import Derived.Test.YtkmbgfhkdopigaaDoorTB12
import Derived.Test.YtkmbgfhkdopigaaDoorTB13
import Derived.Test.YtkmbgfhkdopigaaDoorTB16
import Derived.Sort.LotD3
import Derived.Sort.LotB
namespace Go.Proofs.YtkmbgfhkdopigaaDoor.Pdq
set_option linter.unusedSimpArgs false
set_option linter.unusedVariables false
open Go.RowKit Go.Sort Go.Proofs.YtkmbgfhkdopigaaDoor.P Go.Proofs.YtkmbgfhkdopigaaDoorW.PrintWords Go.Proofs.YtkmbgfhkdopigaaDoorW.PrintMore
def stage3 (d : Array Int) (a b limit : Nat) (wb wp : Bool) (p : Nat) : Array Int :=
  if a > 0 && !ltInt d[a - 1]! d[p]! then
    match partitionEqual ltInt d a b p with
    | (mid, d4) => if _h : a < mid ∧ mid ≤ b then pdq ltInt d4 mid b limit wb wp else d4
  else
    match partition ltInt d a b p with
    | (mid, ap, d4) =>
      if _h : a ≤ mid ∧ mid < b then
        if mid - a < b - mid then
          pdq ltInt (pdq ltInt d4 a mid limit true true) (mid + 1) b limit (decide (mid - a ≥ (b - a) / 8)) ap
        else
          pdq ltInt (pdq ltInt d4 (mid + 1) b limit true true) a mid limit (decide (b - mid ≥ (b - a) / 8)) ap
      else d4
def stage2 (d : Array Int) (a b limit : Nat) (wb wp : Bool) (p : Nat) (hint : Hint) : Array Int :=
  if (if wb && wp && hint = .increasing then partialInsertionSort ltInt d a b else (d, false)).2 then (if wb && wp && hint = .increasing then partialInsertionSort ltInt d a b else (d, false)).1
  else stage3 (if wb && wp && hint = .increasing then partialInsertionSort ltInt d a b else (d, false)).1 a b limit wb wp p
def stage1 (d : Array Int) (a b limit : Nat) (wb wp : Bool) : Array Int :=
  stage2 (if (choosePivot ltInt d a b).2 = .decreasing then reverseRange d a b else d) a b limit wb wp
    (if (choosePivot ltInt d a b).2 = .decreasing then (b - 1) - ((choosePivot ltInt d a b).1 - a) else (choosePivot ltInt d a b).1)
    (if (choosePivot ltInt d a b).2 = .decreasing then Hint.increasing else (choosePivot ltInt d a b).2)
theorem pdq_eq (d : Array Int) (a b limit : Nat) (wb wp : Bool) : pdq ltInt d a b limit wb wp =
    if b - a ≤ 12 then insertionSort ltInt d a b else if limit = 0 then heapSort ltInt d a b else
      stage1 (if !wb then breakPatterns d a b else d) a b (if !wb then limit - 1 else limit) wb wp := by
  rw [pdq]
  rfl

def Good (d : Array Int) (a b limit : Nat) (wb wp : Bool) : Prop :=
  Ev (fun k => qspou61.l0 k d.toList a b limit wb wp) (pdq ltInt d a b limit wb wp).toList ∧ (pdq ltInt d a b limit wb wp).size = d.size
theorem Good.call {d : Array Int} {a b limit : Nat} (h : Good d a b limit true true) : Ev (fun k => qspou61.f k d.toList a b limit) (pdq ltInt d a b limit true true).toList :=
  Ev.step (f := fun k => qspou61.l0 k d.toList a b limit true true) (fun k => rfl) h.1

theorem parteq_range (d : Array Int) (a b p : Nat) (hap : a ≤ p) (hpb : p < b) (hb : b ≤ d.size) :
    a < (partitionEqual ltInt d a b p).1 ∧ (partitionEqual ltInt d a b p).1 ≤ b ∧ (partitionEqual ltInt d a b p).2.size = d.size := by
  unfold partitionEqual
  obtain ⟨r1, r2, r3, _, _⟩ := partEqLoop_spec ltInt a b _ (a + 1) (b - 1) (swp d a p) (Nat.le_refl _) (Nat.lt_succ_self a) (by omega) (by omega) (by rw [size_swp']; exact hb) (fun t h1 h2 => by omega) (fun t h1 h2 => by omega)
  exact ⟨r1, r2, by rw [r3.1, size_swp']⟩
theorem part_range (d : Array Int) (a b p : Nat) (hap : a ≤ p) (hpb : p < b) (hb : b ≤ d.size) :
    a ≤ (partition ltInt d a b p).1 ∧ (partition ltInt d a b p).1 < b ∧ (partition ltInt d a b p).2.2.size = d.size := by
  obtain ⟨r1, r2, r3, _⟩ := partition_holds ltInt swo_ltInt d a b p hap hpb hb
  exact ⟨r1, r2, r3.1⟩

theorem j5_true (d : Array Int) (a b limit p L : Nat) (wb wp : Bool) (hap : a ≤ p) (hpb : p < b) (hb : b ≤ d.size) (hm : d.size ≤ 2305843009213693952)
    (IH : ∀ (d' : Array Int) (a' : Nat), a < a' → a' ≤ b → d'.size = d.size → Good d' a' b limit wb wp) :
    Ev (fun k => qspou61.j5 k d.toList a b limit wb wp L p true)
      (match partitionEqual ltInt d a b p with | (mid, d4) => if _h : a < mid ∧ mid ≤ b then pdq ltInt d4 mid b limit wb wp else d4).toList ∧
    (match partitionEqual ltInt d a b p with | (mid, d4) => if _h : a < mid ∧ mid ≤ b then pdq ltInt d4 mid b limit wb wp else d4).size = d.size := by
  have hr := parteq_range d a b p hap hpb hb
  have hpe := part_eq d a b p (by omega) (by omega) hb hm
  generalize partitionEqual ltInt d a b p = res at hr hpe ⊢
  obtain ⟨mid, d4⟩ := res
  simp only at hr hpe ⊢
  rw [dif_pos ⟨hr.1, hr.2.1⟩]
  have G := IH d4 mid hr.1 hr.2.1 hr.2.2
  refine ⟨?_, G.2.trans hr.2.2⟩
  exact Ev.step (f := fun k => (qspeou6.f k d.toList a b p).bind fun bt => qspou61.l0 k bt.2 bt.1 b limit wb wp) (fun k => rfl) (Ev.bind hpe G.1)
theorem j5_false (d : Array Int) (a b limit p L : Nat) (wb wp : Bool) (hL : L = b - a) (hap : a ≤ p) (hpb : p < b) (hb : b ≤ d.size) (hm : d.size ≤ 2305843009213693952)
    (IH : ∀ (d' : Array Int) (a' b' : Nat) (wb wp : Bool), a ≤ a' → a' ≤ b' → b' ≤ b → b' - a' < b - a → d'.size = d.size → Good d' a' b' limit wb wp) :
    Ev (fun k => qspou61.j5 k d.toList a b limit wb wp L p false)
      (match partition ltInt d a b p with
        | (mid, ap, d4) =>
          if _h : a ≤ mid ∧ mid < b then
            if mid - a < b - mid then pdq ltInt (pdq ltInt d4 a mid limit true true) (mid + 1) b limit (decide (mid - a ≥ (b - a) / 8)) ap
            else pdq ltInt (pdq ltInt d4 (mid + 1) b limit true true) a mid limit (decide (b - mid ≥ (b - a) / 8)) ap
          else d4).toList ∧
    (match partition ltInt d a b p with
        | (mid, ap, d4) =>
          if _h : a ≤ mid ∧ mid < b then
            if mid - a < b - mid then pdq ltInt (pdq ltInt d4 a mid limit true true) (mid + 1) b limit (decide (mid - a ≥ (b - a) / 8)) ap
            else pdq ltInt (pdq ltInt d4 (mid + 1) b limit true true) a mid limit (decide (b - mid ≥ (b - a) / 8)) ap
          else d4).size = d.size := by
  have hr := part_range d a b p hap hpb hb
  have hpe := part d a b p (by omega) (by omega) hb hm
  generalize partition ltInt d a b p = res at hr hpe ⊢
  obtain ⟨mid, ap, d4⟩ := res
  simp only at hr hpe ⊢
  obtain ⟨h1, h2, h3⟩ := hr
  rw [dif_pos ⟨h1, h2⟩]
  have u1 : mid ≤ 4611686018427387904 := by omega
  have u2 : b ≤ 4611686018427387904 := by omega
  have u3 : L / 8 ≤ 9223372036854775807 := by omega
  have u4 : mid ≤ b := by omega
  have D : ∀ x : Nat, decide ((x : Int) ≥ ((L / 8 : Nat) : Int)) = decide (x ≥ (b - a) / 8) := fun x => by rw [hL]; exact decide_eq_decide.2 (by omega)
  have c1 : (((mid - a : Nat) : Int) < ((b - mid : Nat) : Int)) ↔ mid - a < b - mid := by omega
  have e1 : wrap64 ((mid : Int) - (a : Int)) = ((mid - a : Nat) : Int) := wdif h1 u1
  have e2 : wrap64 ((b : Int) - (mid : Int)) = ((b - mid : Nat) : Int) := wdif u4 u2
  have e3 : wrap64 ((mid : Int) + 1) = ((mid + 1 : Nat) : Int) := wadd u1
  have e4 : wrap64 (Int.tdiv (L : Int) 8) = ((L / 8 : Nat) : Int) := by
    rw [Int.tdiv_eq_ediv_of_nonneg (Int.natCast_nonneg _)]; exact w64' rfl u3
  have F : ∀ k, qspou61.j5 (k + 1) d.toList a b limit wb wp L p false = (qspou6.f k d.toList a b p).bind fun bt =>
      if wrap64 (bt.1 - (a : Int)) < wrap64 ((b : Int) - bt.1) then
        (qspou61.f k bt.2.2 a bt.1 limit).bind fun t => qspou61.l0 k t (wrap64 (bt.1 + 1)) b limit (decide (wrap64 (bt.1 - (a : Int)) ≥ wrap64 (Int.tdiv (L : Int) 8))) bt.2.1
      else (qspou61.f k bt.2.2 (wrap64 (bt.1 + 1)) b limit).bind fun t => qspou61.l0 k t a bt.1 limit (decide (wrap64 ((b : Int) - bt.1) ≥ wrap64 (Int.tdiv (L : Int) 8))) bt.2.1 := fun k => rfl
  by_cases hlt : mid - a < b - mid
  · rw [if_pos hlt]
    have G1 := IH d4 a mid true true (Nat.le_refl _) h1 u4 (by clear e1 e2 e3 e4 D F c1; omega) h3
    have G2 := IH (pdq ltInt d4 a mid limit true true) (mid + 1) b (decide (mid - a ≥ (b - a) / 8)) ap (by clear e1 e2 e3 e4 D F c1; omega) h2 (Nat.le_refl _) (by clear e1 e2 e3 e4 D F c1; omega) (G1.2.trans h3)
    refine ⟨?_, G2.2.trans (G1.2.trans h3)⟩
    refine Ev.step F (Ev.bind hpe ?_)
    refine Ev.congr (fun k => ?_) (Ev.bind (f := fun k t => qspou61.l0 k t ((mid + 1 : Nat) : Int) b limit (decide (mid - a ≥ (b - a) / 8)) ap) G1.call G2.1)
    show (if wrap64 ((mid : Int) - (a : Int)) < wrap64 ((b : Int) - (mid : Int)) then _ else _) = _
    rw [e1, e2, if_pos (c1.2 hlt), e3, e4, D]
  · rw [if_neg hlt]
    have G1 := IH d4 (mid + 1) b true true (by clear e1 e2 e3 e4 D F c1; omega) h2 (Nat.le_refl _) (by clear e1 e2 e3 e4 D F c1; omega) h3
    have G2 := IH (pdq ltInt d4 (mid + 1) b limit true true) a mid (decide (b - mid ≥ (b - a) / 8)) ap (Nat.le_refl _) h1 u4 (by clear e1 e2 e3 e4 D F c1; omega) (G1.2.trans h3)
    refine ⟨?_, G2.2.trans (G1.2.trans h3)⟩
    refine Ev.step F (Ev.bind hpe ?_)
    refine Ev.congr (fun k => ?_) (Ev.bind (f := fun k t => qspou61.l0 k t (a : Int) (mid : Int) limit (decide (b - mid ≥ (b - a) / 8)) ap) G1.call G2.1)
    show (if wrap64 ((mid : Int) - (a : Int)) < wrap64 ((b : Int) - (mid : Int)) then _ else _) = _
    rw [e1, e2, if_neg (fun h => hlt (c1.1 h)), e3, e4, D]
theorem j4_ev (d : Array Int) (a b limit p L : Nat) (wb wp : Bool) (hL : L = b - a) (hap : a ≤ p) (hpb : p < b) (hb : b ≤ d.size) (hm : d.size ≤ 2305843009213693952)
    (IH : ∀ (d' : Array Int) (a' b' : Nat) (wb wp : Bool), a ≤ a' → a' ≤ b' → b' ≤ b → b' - a' < b - a → d'.size = d.size → Good d' a' b' limit wb wp) :
    Ev (fun k => qspou61.j4 k d.toList a b limit wb wp L p) (stage3 d a b limit wb wp p).toList ∧ (stage3 d a b limit wb wp p).size = d.size := by
  have T := j5_true d a b limit p L wb wp hap hpb hb hm (fun d' a' h1 h2 h3 => IH d' a' b wb wp (by omega) h2 (Nat.le_refl _) (by omega) h3)
  have Fa := j5_false d a b limit p L wb wp hL hap hpb hb hm IH
  clear IH
  unfold stage3
  by_cases h0 : a > 0
  · have b0 : (a : Int) > 0 := by omega
    have b1 : (0 : Int) ≤ ((a - 1 : Nat) : Int) := by omega
    have b2 : ((a - 1 : Nat) : Int) < (d.size : Int) := by omega
    have b3 : (0 : Int) ≤ (p : Int) := by omega
    have b4 : (p : Int) < (d.size : Int) := by omega
    have e1 : wrap64 ((a : Int) - 1) = ((a - 1 : Nat) : Int) := wsub (by omega) (by omega)
    cases hl : ltInt d[a - 1]! d[p]! with
    | true =>
      rw [if_neg (by simp)]
      refine ⟨Ev.step (fun k => ?_) Fa.1, Fa.2⟩
      simp only [qspou61.j4]
      rw [if_pos b0, e1, lenA, if_pos b1, if_pos b2, if_pos b3, if_pos b4, less, rdA, rdA, hl, someBind]; rfl
    | false =>
      rw [if_pos (by simp [h0])]
      refine ⟨Ev.step (fun k => ?_) T.1, T.2⟩
      simp only [qspou61.j4]
      rw [if_pos b0, e1, lenA, if_pos b1, if_pos b2, if_pos b3, if_pos b4, less, rdA, rdA, hl, someBind]; rfl
  · rw [if_neg (by simp [h0])]
    refine ⟨Ev.step (fun k => ?_) Fa.1, Fa.2⟩
    simp only [qspou61.j4]
    rw [if_neg (by omega)]
theorem size_pi (d : Array Int) (a b : Nat) : (partialInsertionSort ltInt d a b).1.size = d.size := size_partialIns a b 5 (a + 1) d
theorem j2_ev (d : Array Int) (a b limit p L : Nat) (wb wp : Bool) (hint : Hint) (hL : L = b - a) (hap : a ≤ p) (hpb : p < b) (hb : b ≤ d.size) (hm : d.size ≤ 2305843009213693952)
    (IH : ∀ (d' : Array Int) (a' b' : Nat) (wb wp : Bool), a ≤ a' → a' ≤ b' → b' ≤ b → b' - a' < b - a → d'.size = d.size → Good d' a' b' limit wb wp) :
    Ev (fun k => qspou61.j2 k d.toList a b limit wb wp L p (hintN hint)) (stage2 d a b limit wb wp p hint).toList ∧ (stage2 d a b limit wb wp p hint).size = d.size := by
  by_cases hc : (wb && wp && decide (hint = .increasing)) = true
  · have hs := size_pi d a b
    have hp := partial_ins d a b (by omega) hb hm
    have J4 := fun h : (partialInsertionSort ltInt d a b).1.size = d.size => j4_ev (partialInsertionSort ltInt d a b).1 a b limit p L wb wp hL hap hpb (by omega) (by omega) (fun d' a' b' wb wp h1 h2 h3 h4 h5 => IH d' a' b' wb wp h1 h2 h3 h4 (h5.trans h))
    unfold stage2
    rw [if_pos hc]
    simp only [Bool.and_eq_true, decide_eq_true_eq] at hc
    obtain ⟨⟨rfl, rfl⟩, rfl⟩ := hc
    generalize partialInsertionSort ltInt d a b = r at hs hp J4 ⊢
    obtain ⟨d3, x⟩ := r
    cases x with
    | true =>
      refine ⟨?_, hs⟩
      refine Ev.step (f := fun k => qspou61.j3 k d.toList a b limit true true L p true) (fun k => rfl) ?_
      refine Ev.step (f := fun k => (qspisou6.f k d.toList a b).bind fun bt => if bt.1 = true then some bt.2 else qspou61.j4 k bt.2 a b limit true true L p) (fun k => rfl) ?_
      exact Ev.bind hp (Ev.now _)
    | false =>
      obtain ⟨j1, j2⟩ := J4 hs
      refine ⟨?_, j2.trans hs⟩
      refine Ev.step (f := fun k => qspou61.j3 k d.toList a b limit true true L p true) (fun k => rfl) ?_
      refine Ev.step (f := fun k => (qspisou6.f k d.toList a b).bind fun bt => if bt.1 = true then some bt.2 else qspou61.j4 k bt.2 a b limit true true L p) (fun k => rfl) ?_
      exact Ev.bind hp (Ev.congr (fun k => if_neg Bool.false_ne_true) j1)
  · have J4 := j4_ev d a b limit p L wb wp hL hap hpb hb hm IH
    unfold stage2
    rw [if_neg hc]
    refine ⟨?_, J4.2⟩
    have J3 : Ev (fun k => qspou61.j3 k d.toList a b limit wb wp L p false) (stage3 d a b limit wb wp p).toList := Ev.step (fun k => rfl) J4.1
    refine Ev.step (fun k => ?_) J3
    cases wb with
    | false => rfl
    | true =>
      cases wp with
      | false => rfl
      | true =>
        cases hint with
        | increasing => exact absurd rfl hc
        | unknown => rfl
        | decreasing => rfl
theorem size_rev : ∀ (n i j : Nat) (d : Array Int), j - i ≤ n → (reverseLoop i j d).size = d.size := by
  intro n
  induction n with
  | zero => intro i j d h; rw [reverseLoop, if_neg (by omega)]
  | succ n ih =>
    intro i j d h
    rw [reverseLoop]
    split
    · rw [ih _ _ _ (by omega), size_swp']
    · rfl
theorem size_bp (d : Array Int) (a b : Nat) : (breakPatterns d a b).size = d.size := by
  unfold breakPatterns
  simp only []
  split
  · rw [size_breakStep, size_breakStep, size_breakStep]
  · rfl
theorem j1_ev (d : Array Int) (a b limit L : Nat) (wb wp : Bool) (hL : L = b - a) (hab : a < b) (hb : b ≤ d.size) (hm : d.size ≤ 2305843009213693952)
    (IH : ∀ (d' : Array Int) (a' b' : Nat) (wb wp : Bool), a ≤ a' → a' ≤ b' → b' ≤ b → b' - a' < b - a → d'.size = d.size → Good d' a' b' limit wb wp) :
    Ev (fun k => qspou61.j1 k d.toList a b limit wb wp L) (stage1 d a b limit wb wp).toList ∧ (stage1 d a b limit wb wp).size = d.size := by
  have hp := pv_f d a b hab hb hm
  have hr := choosePivot_holds ltInt d a b hab
  unfold stage1
  generalize choosePivot ltInt d a b = c at hp hr ⊢
  obtain ⟨p, hint⟩ := c
  simp only at hp hr ⊢
  have F : ∀ k, qspou61.j1 (k + 1) d.toList a b limit wb wp L = (qscpou6.f k d.toList a b).bind fun bt =>
      if bt.2 = 2 then ((qsrrou6.f k d.toList a b).bind fun t => qspou61.j2 k t a b limit wb wp L (wrap64 ((wrap64 ((b : Int) - 1)) - (wrap64 (bt.1 - (a : Int))))) 1)
      else qspou61.j2 k d.toList a b limit wb wp L bt.1 bt.2 := fun k => rfl
  by_cases hd : hint = .decreasing
  · subst hd
    simp only [if_true]
    have hs : (reverseRange d a b).size = d.size := size_rev _ _ _ _ (Nat.le_refl _)
    have J := j2_ev (reverseRange d a b) a b limit ((b - 1) - (p - a)) L wb wp .increasing hL (by omega) (by omega) (by omega) (by omega) (fun d' a' b' wb wp h1 h2 h3 h4 h5 => IH d' a' b' wb wp h1 h2 h3 h4 (h5.trans hs))
    refine ⟨?_, J.2.trans hs⟩
    have R := rev d a b hab hb hm
    have q1 : p - a ≤ b - 1 := by omega
    have q2 : b - 1 ≤ 4611686018427387904 := by omega
    have q3 : p ≤ 4611686018427387904 := by omega
    have q4 : 1 ≤ b := by omega
    have q5 : b ≤ 4611686018427387904 := by omega
    have e1 : wrap64 ((b : Int) - 1) = ((b - 1 : Nat) : Int) := wsub q4 q5
    have e2 : wrap64 ((p : Int) - (a : Int)) = ((p - a : Nat) : Int) := wdif hr.1 q3
    have e3 : wrap64 (((b - 1 : Nat) : Int) - ((p - a : Nat) : Int)) = (((b - 1) - (p - a) : Nat) : Int) := wdif q1 q2
    refine Ev.step F (Ev.bind hp ?_)
    refine Ev.congr (fun k => ?_) (Ev.bind (f := fun k t => qspou61.j2 k t a b limit wb wp L (((b - 1) - (p - a) : Nat) : Int) (hintN Hint.increasing)) R J.1)
    show (if (hintN Hint.decreasing) = 2 then _ else _) = _
    rw [if_pos (show hintN Hint.decreasing = 2 from rfl), e1, e2, e3]; rfl
  · have J := j2_ev d a b limit p L wb wp hint hL hr.1 hr.2 hb hm IH
    simp only [if_neg hd]
    refine ⟨?_, J.2⟩
    refine Ev.step F (Ev.bind hp ?_)
    refine Ev.congr (fun k => ?_) J.1
    show (if hintN hint = 2 then _ else _) = _
    rw [if_neg (by cases hint with | unknown => decide | increasing => decide | decreasing => exact absurd rfl hd)]
theorem good : ∀ (n : Nat) (d : Array Int) (a b limit : Nat) (wb wp : Bool), b - a ≤ n → a ≤ b → b ≤ d.size → d.size ≤ 2305843009213693952 → limit ≤ 100 → Good d a b limit wb wp := by
  intro n
  induction n with
  | zero =>
    intro d a b limit wb wp hn hab hb hm hl
    have e1 : wrap64 ((b : Int) - (a : Int)) = ((b - a : Nat) : Int) := wdif hab (by omega)
    have c1 : ((b - a : Nat) : Int) ≤ 12 := by clear e1; omega
    unfold Good
    rw [pdq_eq, if_pos (by clear e1; omega)]
    refine ⟨Ev.step (f := fun k => (qsisou6.f k d.toList a b).bind fun t => some t) (fun k => ?_) (Ev.bind (ins_sort d a b (by clear e1; omega) hab hb) (Ev.now _)), ?_⟩
    · simp only [qspou61.l0]
      rw [e1, if_pos c1]
    · exact (insertionSort_holds swo_ltInt d a b hab hb).1.1
  | succ n ih =>
    intro d a b limit wb wp hn hab hb hm hl
    unfold Good
    rw [pdq_eq]
    by_cases h12 : b - a ≤ 12
    · have e1 : wrap64 ((b : Int) - (a : Int)) = ((b - a : Nat) : Int) := wdif hab (by omega)
      have c1 : ((b - a : Nat) : Int) ≤ 12 := by clear e1; omega
      rw [if_pos h12]
      refine ⟨Ev.step (f := fun k => (qsisou6.f k d.toList a b).bind fun t => some t) (fun k => ?_) (Ev.bind (ins_sort d a b (by clear e1; omega) hab hb) (Ev.now _)), ?_⟩
      · simp only [qspou61.l0]
        rw [e1, if_pos c1]
      · exact (insertionSort_holds swo_ltInt d a b hab hb).1.1
    · rw [if_neg h12]
      by_cases hl0 : limit = 0
      · have c1 : ¬ ((b - a : Nat) : Int) ≤ 12 := by omega
        have c2 : (limit : Int) = 0 := by omega
        have e1 : wrap64 ((b : Int) - (a : Int)) = ((b - a : Nat) : Int) := wdif hab (by omega)
        rw [if_pos hl0]
        refine ⟨Ev.step (f := fun k => (qshsou6.f k d.toList a b).bind fun t => some t) (fun k => ?_) (Ev.bind (heap_sort d a b hab hb hm) (Ev.now _)), ?_⟩
        · simp only [qspou61.l0]
          rw [e1, if_neg c1, if_pos c2]
        · exact (heapSort_holds swo_ltInt d a b hab hb).1.1
      · rw [if_neg hl0]
        have c1 : ¬ ((b - a : Nat) : Int) ≤ 12 := by omega
        have c2 : ¬ (limit : Int) = 0 := by omega
        have c3 : b ≤ 4611686018427387904 := by omega
        have hlt : a < b := by omega
        have H : ∀ (lim : Nat), lim ≤ 100 → ∀ (d' : Array Int) (a' b' : Nat) (wb wp : Bool), a ≤ a' → a' ≤ b' → b' ≤ b → b' - a' < b - a → d'.size = d.size → Good d' a' b' lim wb wp :=
          fun lim hlim d' a' b' wb wp h1 h2 h3 h4 h5 => ih d' a' b' lim wb wp (by omega) h2 (by omega) (by omega) hlim
        clear ih
        cases wb with
        | true =>
          have J := j1_ev d a b limit (b - a) true wp rfl hlt hb hm (H limit hl)
          refine ⟨Ev.step (fun k => ?_) J.1, J.2⟩
          have e1 : wrap64 ((b : Int) - (a : Int)) = ((b - a : Nat) : Int) := wdif hab c3
          simp only [qspou61.l0]
          rw [e1, if_neg c1, if_neg c2]; rfl
        | false =>
          have hs := size_bp d a b
          have hlim : limit - 1 ≤ 100 := by omega
          have hB := bp_f d a b hab hb hm
          have J := j1_ev (breakPatterns d a b) a b (limit - 1) (b - a) false wp rfl hlt (by omega) (by omega) (fun d' a' b' wb wp h1 h2 h3 h4 h5 => H (limit - 1) hlim d' a' b' wb wp h1 h2 h3 h4 (h5.trans hs))
          have q1 : 1 ≤ limit := by omega
          have q2 : limit ≤ 4611686018427387904 := by omega
          refine ⟨Ev.step (fun k => ?_) (Ev.bind (f := fun k t => qspou61.j1 k t a b ((limit - 1 : Nat) : Int) false wp ((b - a : Nat) : Int)) hB J.1), J.2.trans hs⟩
          have e1 : wrap64 ((b : Int) - (a : Int)) = ((b - a : Nat) : Int) := wdif hab c3
          have e2 : wrap64 ((limit : Int) - 1) = ((limit - 1 : Nat) : Int) := wsub q1 q2
          simp only [qspou61.l0]
          rw [e1, if_neg c1, if_neg c2, e2]; rfl

theorem sort_ev (zs : List Int) (hm : zs.length ≤ 2305843009213693952) : Ev (fun k => qssu6u6.f k zs) (zs.mergeSort (fun x y => decide (x ≤ y))) := by
  have G := good zs.length zs.toArray 0 zs.length (bitsLen zs.length) true true (by omega) (Nat.zero_le _) (by simp) (by simpa using hm) (Nat.le_trans (len_le62 hm) (by decide))
  have E : (pdq ltInt zs.toArray 0 zs.length (bitsLen zs.length) true true).toList = zs.mergeSort (fun x y => decide (x ≤ y)) := by
    have := sortInt_holds (sort_holds (pdq_holds insertionSort_holds heapSort_holds partialInsertionSort_holds (partition_holds ltInt) (partitionEqual_holds ltInt) reverseRange_holds)) zs
    rw [← this]; unfold Sort.sort; simp
  have C := G.call
  rw [E] at C
  have w : IntKind.u64.wrap (zs.length : Int) = ((zs.length : Nat) : Int) := wrapN (by omega)
  refine Ev.congr (f := fun k => (qbl1.f k ((zs.length : Nat) : Int)).bind fun t => (qspou61.f k zs 0 (zs.length : Int) t).bind fun u => some u) (fun k => ?_)
    (Ev.bind (len_f zs.length (by omega)) (Ev.bind C (Ev.now _)))
  simp only [qssu6u6.f]
  rw [w]
end Go.Proofs.YtkmbgfhkdopigaaDoor.Pdq
