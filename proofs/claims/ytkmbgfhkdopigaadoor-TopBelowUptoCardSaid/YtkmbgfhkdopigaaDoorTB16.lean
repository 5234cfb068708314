/- Texts that the statement's proof leans on, part 16. -/
import Derived.Test.YtkmbgfhkdopigaaDoorTB5
import Derived.Test.YtkmbgfhkdopigaaDoorTB7
import Derived.Test.YtkmbgfhkdopigaaDoorTB15
import Derived.Sort.LotD5
import Derived.Laws.Bits64
import Derived.Laws.Bits64b
namespace Go.Proofs.YtkmbgfhkdopigaaDoor.Pdq
set_option linter.unusedSimpArgs false
open Go.RowKit Go.Sort Go.Proofs.YtkmbgfhkdopigaaDoor.P Go.Proofs.YtkmbgfhkdopigaaDoorW.PrintWords Go.Proofs.YtkmbgfhkdopigaaDoorW.PrintMore
theorem tabL (n : Nat) (h : n < 256) : bt (⟨#[0, 1, 2, 2, 3, 3, 3, 3, 4, 4, 4, 4, 4, 4, 4, 4, 5, 5, 5, 5, 5, 5, 5, 5, 5, 5, 5, 5, 5, 5, 5, 5, 6, 6, 6, 6, 6, 6, 6, 6, 6, 6, 6, 6, 6, 6, 6, 6, 6, 6, 6, 6, 6, 6, 6, 6, 6, 6, 6, 6, 6, 6, 6, 6, 7, 7, 7, 7, 7, 7, 7, 7, 7, 7, 7, 7, 7, 7, 7, 7, 7, 7, 7, 7, 7, 7, 7, 7, 7, 7, 7, 7, 7, 7, 7, 7, 7, 7, 7, 7, 7, 7, 7, 7, 7, 7, 7, 7, 7, 7, 7, 7, 7, 7, 7, 7, 7, 7, 7, 7, 7, 7, 7, 7, 7, 7, 7, 7, 8, 8, 8, 8, 8, 8, 8, 8, 8, 8, 8, 8, 8, 8, 8, 8, 8, 8, 8, 8, 8, 8, 8, 8, 8, 8, 8, 8, 8, 8, 8, 8, 8, 8, 8, 8, 8, 8, 8, 8, 8, 8, 8, 8, 8, 8, 8, 8, 8, 8, 8, 8, 8, 8, 8, 8, 8, 8, 8, 8, 8, 8, 8, 8, 8, 8, 8, 8, 8, 8, 8, 8, 8, 8, 8, 8, 8, 8, 8, 8, 8, 8, 8, 8, 8, 8, 8, 8, 8, 8, 8, 8, 8, 8, 8, 8, 8, 8, 8, 8, 8, 8, 8, 8, 8, 8, 8, 8, 8, 8, 8, 8, 8, 8, 8, 8, 8, 8, 8, 8, 8, 8, 8, 8, 8, 8, 8, 8]⟩ : ByteArray) (n : Int) = (bitsLen n : Int) := by
  have : ∀ m : Fin 256, bt (⟨#[0, 1, 2, 2, 3, 3, 3, 3, 4, 4, 4, 4, 4, 4, 4, 4, 5, 5, 5, 5, 5, 5, 5, 5, 5, 5, 5, 5, 5, 5, 5, 5, 6, 6, 6, 6, 6, 6, 6, 6, 6, 6, 6, 6, 6, 6, 6, 6, 6, 6, 6, 6, 6, 6, 6, 6, 6, 6, 6, 6, 6, 6, 6, 6, 7, 7, 7, 7, 7, 7, 7, 7, 7, 7, 7, 7, 7, 7, 7, 7, 7, 7, 7, 7, 7, 7, 7, 7, 7, 7, 7, 7, 7, 7, 7, 7, 7, 7, 7, 7, 7, 7, 7, 7, 7, 7, 7, 7, 7, 7, 7, 7, 7, 7, 7, 7, 7, 7, 7, 7, 7, 7, 7, 7, 7, 7, 7, 7, 8, 8, 8, 8, 8, 8, 8, 8, 8, 8, 8, 8, 8, 8, 8, 8, 8, 8, 8, 8, 8, 8, 8, 8, 8, 8, 8, 8, 8, 8, 8, 8, 8, 8, 8, 8, 8, 8, 8, 8, 8, 8, 8, 8, 8, 8, 8, 8, 8, 8, 8, 8, 8, 8, 8, 8, 8, 8, 8, 8, 8, 8, 8, 8, 8, 8, 8, 8, 8, 8, 8, 8, 8, 8, 8, 8, 8, 8, 8, 8, 8, 8, 8, 8, 8, 8, 8, 8, 8, 8, 8, 8, 8, 8, 8, 8, 8, 8, 8, 8, 8, 8, 8, 8, 8, 8, 8, 8, 8, 8, 8, 8, 8, 8, 8, 8, 8, 8, 8, 8, 8, 8, 8, 8, 8, 8, 8, 8]⟩ : ByteArray) (m.val : Int) = (bitsLen m.val : Int) := by decide +kernel
  exact this ⟨n, h⟩
theorem len_div {x j : Nat} (h : 2 ^ j ≤ x) : bitsLen x = bitsLen (x / 2 ^ j) + j := by
  have hx : 0 < x := Nat.lt_of_lt_of_le (Nat.two_pow_pos j) h
  apply Nat.le_antisymm
  · rw [bitsLen_le_iff, Nat.pow_add]
    exact (Nat.div_lt_iff_lt_mul (Nat.two_pow_pos j)).1 (lt_two_pow_bitsLen _)
  · have h1 : j ≤ bitsLen x := by
      have := lt_two_pow_bitsLen x
      exact Nat.le_of_lt ((Nat.pow_lt_pow_iff_right (by decide)).1 (Nat.lt_of_le_of_lt h this))
    have h2 : bitsLen (x / 2 ^ j) ≤ bitsLen x - j := by
      rw [bitsLen_le_iff, Nat.div_lt_iff_lt_mul (Nat.two_pow_pos j), ← Nat.pow_add, Nat.sub_add_cancel h1]
      exact lt_two_pow_bitsLen x
    omega
theorem len_small {x m : Nat} (h : x < 2 ^ m) : bitsLen x ≤ m := (bitsLen_le_iff x m).2 h
theorem wsum0 {c b n : Nat} (hc : c ≤ 200) (hb : b ≤ 8) (hn : c + b = n) : wrap64 ((c : Int) + wrap64 (b : Int)) = (n : Int) := by
  rw [w64' (x := (b : Int)) (n := b) rfl (by omega)]
  exact w64' (by omega) (by omega)
theorem wsum1 {c b n : Nat} (m : Nat) (hm : m ≤ 100) (hc : c ≤ 100) (hb : b ≤ 8) (hn : c + m + b = n) : wrap64 (wrap64 ((c : Int) + (m : Int)) + wrap64 (b : Int)) = (n : Int) := by
  rw [w64' (x := (c : Int) + (m : Int)) (n := c + m) (by omega) (by omega)]
  exact wsum0 (c := c + m) (by omega) hb hn
theorem wsum2 {c b n : Nat} (hc : c ≤ 32) (hb : b ≤ 8) (hn : c + 16 + 8 + b = n) : wrap64 (wrap64 (wrap64 ((c : Int) + 16) + 8) + wrap64 (b : Int)) = (n : Int) := by
  rw [w64' (x := (c : Int) + 16) (n := c + 16) (by omega) (by omega)]
  exact wsum1 8 (by omega) (by omega) hb hn
def byTab (T : ByteArray) (x c : Int) : Option Int :=
  if x ≥ 65536 then (if (x / 65536) ≥ 256 then (if 0 ≤ (((x / 65536) / 256) % 256) then (if (((x / 65536) / 256) % 256) < 256 then (some (wrap64 ((wrap64 ((wrap64 (c + 16)) + 8)) + (wrap64 (bt T (((x / 65536) / 256) % 256)))))) else (none)) else (none)) else (if 0 ≤ ((x / 65536) % 256) then (if ((x / 65536) % 256) < 256 then (some (wrap64 ((wrap64 (c + 16)) + (wrap64 (bt T ((x / 65536) % 256)))))) else (none)) else (none))) else (if x ≥ 256 then (if 0 ≤ ((x / 256) % 256) then (if ((x / 256) % 256) < 256 then (some (wrap64 ((wrap64 (c + 8)) + (wrap64 (bt T ((x / 256) % 256)))))) else (none)) else (none)) else (if 0 ≤ ((x) % 256) then (if ((x) % 256) < 256 then (some (wrap64 (c + (wrap64 (bt T ((x) % 256)))))) else (none)) else (none)))
theorem byTab_eq (T : ByteArray) (hT : ∀ n : Nat, n < 256 → bt T (n : Int) = (bitsLen n : Int)) (x c n : Nat) (hx : x < 4294967296) (hc : c ≤ 32) (hn : bitsLen x + c = n) : byTab T x c = some (n : Int) := by
  unfold byTab
  have q : ∀ y : Nat, y < 256 → (0 ≤ (((y : Int)) % 256)) ∧ (((y : Int)) % 256) < 256 ∧ ((y : Int)) % 256 = (y : Int) := fun y hy => by omega
  by_cases h1 : 65536 ≤ x
  · have e1 : (x : Int) / 65536 = ((x / 65536 : Nat) : Int) := by omega
    have d1 := len_div (x := x) (j := 16) h1
    rw [show (2 : Nat) ^ 16 = 65536 by decide] at d1
    have hy : x / 65536 < 65536 := by omega
    rw [if_pos (show (x : Int) ≥ 65536 by omega), e1]
    generalize x / 65536 = y at hy d1 ⊢
    by_cases h2 : 256 ≤ y
    · have e2 : (y : Int) / 256 = ((y / 256 : Nat) : Int) := by omega
      have d2 := len_div (x := y) (j := 8) h2
      rw [show (2 : Nat) ^ 8 = 256 by decide] at d2
      have hz : y / 256 < 256 := by omega
      rw [if_pos (show (y : Int) ≥ 256 by omega), e2]
      generalize y / 256 = z at hz d2 ⊢
      obtain ⟨q1, q2, q3⟩ := q z hz
      have hb := len_small (m := 8) hz
      rw [if_pos q1, if_pos q2, q3, hT z hz]
      have : wrap64 (wrap64 (wrap64 ((c : Int) + 16) + 8) + wrap64 ((bitsLen z : Nat) : Int)) = (n : Int) := wsum2 (by omega) hb (by omega)
      rw [this]
    · obtain ⟨q1, q2, q3⟩ := q y (by omega)
      have hb := len_small (x := y) (m := 8) (by omega)
      rw [if_neg (show ¬ (y : Int) ≥ 256 by omega), if_pos q1, if_pos q2, q3, hT y (by omega)]
      have : wrap64 (wrap64 ((c : Int) + 16) + wrap64 ((bitsLen y : Nat) : Int)) = (n : Int) := wsum1 16 (by omega) (by omega) hb (by omega)
      rw [this]
  · rw [if_neg (show ¬ (x : Int) ≥ 65536 by omega)]
    by_cases h2 : 256 ≤ x
    · have e2 : (x : Int) / 256 = ((x / 256 : Nat) : Int) := by omega
      have d2 := len_div (x := x) (j := 8) h2
      rw [show (2 : Nat) ^ 8 = 256 by decide] at d2
      have hz : x / 256 < 256 := by omega
      rw [if_pos (show (x : Int) ≥ 256 by omega), e2]
      generalize x / 256 = z at hz d2 ⊢
      obtain ⟨q1, q2, q3⟩ := q z hz
      have hb := len_small (m := 8) hz
      rw [if_pos q1, if_pos q2, q3, hT z hz]
      have : wrap64 (wrap64 ((c : Int) + 8) + wrap64 ((bitsLen z : Nat) : Int)) = (n : Int) := wsum1 8 (by omega) (by omega) hb (by omega)
      rw [this]
    · obtain ⟨q1, q2, q3⟩ := q x (by omega)
      have hb := len_small (x := x) (m := 8) (by omega)
      rw [if_neg (show ¬ (x : Int) ≥ 256 by omega), if_pos q1, if_pos q2, q3, hT x (by omega)]
      have : wrap64 ((c : Int) + wrap64 ((bitsLen x : Nat) : Int)) = (n : Int) := wsum0 (by omega) hb (by omega)
      rw [this]
theorem len_j0 (x c n : Nat) (hx : x < 4294967296) (hc : c ≤ 32) (hn : bitsLen x + c = n) : Ev (fun k => qbl6.j0 k x c) (n : Int) := by
  have h := byTab_eq (⟨#[0, 1, 2, 2, 3, 3, 3, 3, 4, 4, 4, 4, 4, 4, 4, 4, 5, 5, 5, 5, 5, 5, 5, 5, 5, 5, 5, 5, 5, 5, 5, 5, 6, 6, 6, 6, 6, 6, 6, 6, 6, 6, 6, 6, 6, 6, 6, 6, 6, 6, 6, 6, 6, 6, 6, 6, 6, 6, 6, 6, 6, 6, 6, 6, 7, 7, 7, 7, 7, 7, 7, 7, 7, 7, 7, 7, 7, 7, 7, 7, 7, 7, 7, 7, 7, 7, 7, 7, 7, 7, 7, 7, 7, 7, 7, 7, 7, 7, 7, 7, 7, 7, 7, 7, 7, 7, 7, 7, 7, 7, 7, 7, 7, 7, 7, 7, 7, 7, 7, 7, 7, 7, 7, 7, 7, 7, 7, 7, 8, 8, 8, 8, 8, 8, 8, 8, 8, 8, 8, 8, 8, 8, 8, 8, 8, 8, 8, 8, 8, 8, 8, 8, 8, 8, 8, 8, 8, 8, 8, 8, 8, 8, 8, 8, 8, 8, 8, 8, 8, 8, 8, 8, 8, 8, 8, 8, 8, 8, 8, 8, 8, 8, 8, 8, 8, 8, 8, 8, 8, 8, 8, 8, 8, 8, 8, 8, 8, 8, 8, 8, 8, 8, 8, 8, 8, 8, 8, 8, 8, 8, 8, 8, 8, 8, 8, 8, 8, 8, 8, 8, 8, 8, 8, 8, 8, 8, 8, 8, 8, 8, 8, 8, 8, 8, 8, 8, 8, 8, 8, 8, 8, 8, 8, 8, 8, 8, 8, 8, 8, 8, 8, 8, 8, 8, 8, 8]⟩ : ByteArray) tabL x c n hx hc hn
  exact Ev.step (f := fun _ => some (n : Int)) (fun k => h) (Ev.now _)
theorem len_f (x : Nat) (hx : x < 18446744073709551616) : Ev (fun k => qbl1.f k (x : Int)) ((bitsLen x : Nat) : Int) := by
  refine Ev.congr (f := fun k => (qbl6.f k (x : Int)).bind fun t => some t) (fun k => by rw [qbl1.f]) (Ev.bind (r := ((bitsLen x : Nat) : Int)) ?_ (Ev.now _))
  by_cases h : 4294967296 ≤ x
  · have d1 := len_div (x := x) (j := 32) h
    rw [show (2 : Nat) ^ 32 = 4294967296 by decide] at d1
    have e1 : (x : Int) / 4294967296 = ((x / 4294967296 : Nat) : Int) := by omega
    refine Ev.congr (fun k => ?_) (len_j0 (x / 4294967296) 32 _ (by omega) (by omega) d1.symm)
    rw [qbl6.f]
    rw [if_pos (by omega), e1]; rfl
  · refine Ev.congr (fun k => ?_) (len_j0 x 0 _ (by omega) (by omega) rfl)
    rw [qbl6.f]
    rw [if_neg (by omega)]; rfl
theorem len_le62 {n : Nat} (h : n ≤ 2305843009213693952) : bitsLen n ≤ 62 := (bitsLen_le_iff n 62).2 (by omega)
theorem wrapN {n : Nat} (h : n < 18446744073709551616) : IntKind.u64.wrap (n : Int) = (n : Int) := by rw [IntKind.wrap_u64]; omega
theorem shl_pow {k : Nat} (hk : k ≤ 62) : shl .u64 1 (k : Int) = ((1 <<< k : Nat) : Int) := by
  have h : (2 : Nat) ^ k ≤ 2 ^ 62 := Nat.pow_le_pow_right (by decide) hk
  have e : (2 : Int) ^ min ((k : Int)).toNat IntKind.u64.bits = ((2 ^ k : Nat) : Int) := by
    rw [Int.toNat_natCast, Nat.min_eq_left (show k ≤ IntKind.u64.bits from (show k ≤ 64 by omega))]; push_cast; rfl
  unfold shl
  rw [e, IntKind.wrap_u64, Nat.one_shiftLeft, Int.one_mul]
  generalize (2 : Nat) ^ k = p at h
  omega
theorem two_pow (n : Nat) (hm : n ≤ 2305843009213693952) : Ev (fun k => qsnpot.f k (n : Int)) (((1 <<< bitsLen n : Nat)) : Int) := by
  refine Ev.congr (f := fun k => (qbl1.f k (n : Int)).bind fun t => if 0 ≤ t then some (shl .u64 1 t) else none) (fun k => ?_) (Ev.bind (len_f n (by omega)) (Ev.congr (f := fun _ => some (((1 <<< bitsLen n : Nat)) : Int)) (fun k => ?_) (Ev.now _)))
  · simp only [qsnpot.f]
    rw [wrapN (by omega)]
  · show (if 0 ≤ ((bitsLen n : Nat) : Int) then some (shl .u64 1 ((bitsLen n : Nat) : Int)) else none) = _
    rw [if_pos (by omega), shl_pow (len_le62 hm)]

theorem o2 (d : Array Int) (a b s : Nat) (ha : a < d.size) (hb : b < d.size) (hs : s ≤ 1000) :
    qso2ou6.f d.toList a b s = some (((order2 ltInt d a b s).1 : Int), ((order2 ltInt d a b s).2.1 : Int), ((order2 ltInt d a b s).2.2 : Int)) := by
  have e : wrap64 ((s : Int) + 1) = ((s + 1 : Nat) : Int) := wadd (by omega)
  simp only [qso2ou6.f]
  rw [lenA, if_pos (by omega), if_pos (by omega), if_pos (by omega), if_pos (by omega), less, rdA, rdA, someBind, e]
  unfold order2
  cases hl : ltInt d[b]! d[a]! with
  | true => rfl
  | false => rfl
theorem o2_facts (d : Array Int) (a b s : Nat) : (order2 ltInt d a b s).2.2 ≤ s + 1 ∧ (((order2 ltInt d a b s).1 = a ∧ (order2 ltInt d a b s).2.1 = b) ∨ ((order2 ltInt d a b s).1 = b ∧ (order2 ltInt d a b s).2.1 = a)) := by
  refine ⟨?_, order2_mem ltInt d a b s⟩
  unfold order2
  split
  · exact Nat.le_refl _
  · exact Nat.le_succ _
theorem med_le (d : Array Int) (a b c s : Nat) : (median ltInt d a b c s).2 ≤ s + 3 := by
  unfold median
  simp only []
  have h1 := (o2_facts d a b s).1
  have h2 := (o2_facts d (order2 ltInt d a b s).2.1 c (order2 ltInt d a b s).2.2).1
  have h3 := (o2_facts d (order2 ltInt d a b s).1 (order2 ltInt d (order2 ltInt d a b s).2.1 c (order2 ltInt d a b s).2.2).1 (order2 ltInt d (order2 ltInt d a b s).2.1 c (order2 ltInt d a b s).2.2).2.2).1
  omega
theorem med (d : Array Int) (a b c s : Nat) (ha : a < d.size) (hb : b < d.size) (hc : c < d.size) (hs : s ≤ 100) :
    qsmou6.f d.toList a b c s = some (((median ltInt d a b c s).1 : Int), ((median ltInt d a b c s).2 : Int)) := by
  simp only [qsmou6.f]
  have h1 := o2_facts d a b s
  rw [o2 d a b s ha hb (by omega), someBind]
  unfold median
  simp only []
  generalize order2 ltInt d a b s = r1 at h1 ⊢
  have h2 := o2_facts d r1.2.1 c r1.2.2
  rw [o2 d r1.2.1 c r1.2.2 (by omega) hc (by omega), someBind]
  generalize order2 ltInt d r1.2.1 c r1.2.2 = r2 at h2 ⊢
  have h3 := o2_facts d r1.1 r2.1 r2.2.2
  rw [o2 d r1.1 r2.1 r2.2.2 (by omega) (by omega) (by omega), someBind]
theorem adj (d : Array Int) (a s : Nat) (ha : 1 ≤ a) (hb : a + 1 < d.size) (hm : d.size ≤ 2305843009213693952) (hs : s ≤ 100) :
    qsmaou6.f d.toList a s = some (((medianAdjacent ltInt d a s).1 : Int), ((medianAdjacent ltInt d a s).2 : Int)) := by
  have e1 : wrap64 ((a : Int) - 1) = ((a - 1 : Nat) : Int) := wsub ha (by omega)
  have e2 : wrap64 ((a : Int) + 1) = ((a + 1 : Nat) : Int) := wadd (by omega)
  simp only [qsmaou6.f]
  rw [e1, e2, med d (a - 1) a (a + 1) s (by omega) (by omega) hb hs, someBind]
  rfl
def hintN : Hint → Int
  | .unknown => 0
  | .increasing => 1
  | .decreasing => 2
theorem pv_j0 (p s : Nat) : Ev (fun k => qscpou6.j0 k p s) ((p : Int), hintN (if s = 0 then .increasing else if s = 12 then .decreasing else .unknown)) := by
  refine Ev.step (fun k => ?_) (Ev.now _)
  simp only [qscpou6.j0]
  by_cases h0 : s = 0
  · rw [if_pos (by omega), if_pos h0]; rfl
  · rw [if_neg (by omega), if_neg h0]
    by_cases h1 : s = 12
    · rw [if_pos (by omega), if_pos h1]; rfl
    · rw [if_neg (by omega), if_neg h1]; rfl
theorem wmul {x m : Nat} (h : x * m ≤ 4611686018427387904) : wrap64 ((x : Int) * (m : Int)) = ((x * m : Nat) : Int) := w64' (by push_cast; rfl) (by omega)
theorem waddn {x m : Nat} (h : x + m ≤ 4611686018427387904) : wrap64 ((x : Int) + (m : Int)) = ((x + m : Nat) : Int) := w64' (by omega) (by omega)
theorem wquo {x : Nat} (h : x ≤ 4611686018427387904) : wrap64 (Int.tdiv (x : Int) 4) = ((x / 4 : Nat) : Int) := by
  rw [Int.tdiv_eq_ediv_of_nonneg (by omega)]; exact w64' (by omega) (by omega)
def quarters (k : Nat) (l : List Int) (L : Nat) (i j m : Nat) : Option (Int × Int) :=
  if (L : Int) ≥ 8 then (if (L : Int) ≥ 50 then
      ((qsmaou6.f l (i : Int) ((0 : Nat) : Int)).bind fun t2 => (qsmaou6.f l (j : Int) t2.2).bind fun t4 =>
        (qsmaou6.f l (m : Int) t4.2).bind fun t6 => (qsmou6.f l t2.1 t4.1 t6.1 t6.2).bind fun t8 => qscpou6.j0 k t8.1 t8.2)
      else ((qsmou6.f l (i : Int) (j : Int) (m : Int) ((0 : Nat) : Int)).bind fun t => qscpou6.j0 k t.1 t.2))
      else qscpou6.j0 k (j : Int) ((0 : Nat) : Int)
theorem quarter {a b L q : Nat} (hL : L = b - a) (hab : a ≤ b) (hb : b ≤ 2305843009213693952) (hq : q = L / 4) : q ≤ 2305843009213693952 ∧ a + q * 3 ≤ 2305843009213693952 ∧ L ≤ 2305843009213693952 := by omega
theorem pv_q (k : Nat) (l : List Int) (a b L q : Nat) (hL : L = b - a) (hab : a ≤ b) (hb : b ≤ 2305843009213693952) (hq : q = L / 4) :
    qscpou6.f k l a b = quarters k l L (a + q * 1) (a + q * 2) (a + q * 3) := by
  have e1 : wrap64 ((b : Int) - (a : Int)) = (L : Int) := by rw [hL]; exact wdif hab (Nat.le_trans hb (by decide))
  obtain ⟨k1, k2, k3⟩ := quarter hL hab hb hq
  have t4 : wrap64 (Int.tdiv (L : Int) 4) = (q : Int) := by rw [hq]; exact wquo (Nat.le_trans k3 (by decide))
  clear hL hq hab hb
  have m1 : wrap64 ((q : Int) * 1) = ((q * 1 : Nat) : Int) := wmul (m := 1) (by omega)
  have m2 : wrap64 ((q : Int) * 2) = ((q * 2 : Nat) : Int) := wmul (m := 2) (by omega)
  have m3 : wrap64 ((q : Int) * 3) = ((q * 3 : Nat) : Int) := wmul (m := 3) (by omega)
  have p1 : wrap64 ((a : Int) + ((q * 1 : Nat) : Int)) = ((a + q * 1 : Nat) : Int) := waddn (by omega)
  have p2 : wrap64 ((a : Int) + ((q * 2 : Nat) : Int)) = ((a + q * 2 : Nat) : Int) := waddn (by omega)
  have p3 : wrap64 ((a : Int) + ((q * 3 : Nat) : Int)) = ((a + q * 3 : Nat) : Int) := waddn (by omega)
  unfold qscpou6.f quarters
  rw [e1, t4, m1, m2, m3, p1, p2, p3]
  rfl
theorem pv_long (d : Array Int) (i j m : Nat) (hi : 1 ≤ i) (hij : i < j) (hjm : j < m) (hm : m + 1 < d.size) (hz : d.size ≤ 2305843009213693952) {r : Int × Int}
    (h : Ev (fun k => qscpou6.j0 k
      ((median ltInt d (medianAdjacent ltInt d i 0).1 (medianAdjacent ltInt d j (medianAdjacent ltInt d i 0).2).1 (medianAdjacent ltInt d m (medianAdjacent ltInt d j (medianAdjacent ltInt d i 0).2).2).1 (medianAdjacent ltInt d m (medianAdjacent ltInt d j (medianAdjacent ltInt d i 0).2).2).2).1 : Int)
      ((median ltInt d (medianAdjacent ltInt d i 0).1 (medianAdjacent ltInt d j (medianAdjacent ltInt d i 0).2).1 (medianAdjacent ltInt d m (medianAdjacent ltInt d j (medianAdjacent ltInt d i 0).2).2).1 (medianAdjacent ltInt d m (medianAdjacent ltInt d j (medianAdjacent ltInt d i 0).2).2).2).2 : Int)) r) :
    Ev (fun k => (qsmaou6.f d.toList (i : Int) ((0 : Nat) : Int)).bind fun t2 => (qsmaou6.f d.toList (j : Int) t2.2).bind fun t4 =>
        (qsmaou6.f d.toList (m : Int) t4.2).bind fun t6 => (qsmou6.f d.toList t2.1 t4.1 t6.1 t6.2).bind fun t8 => qscpou6.j0 k t8.1 t8.2) r := by
  refine Ev.congr (fun k => ?_) h
  have A1 := adj d i 0 hi (by omega) hz (by omega)
  have B1 := medianAdjacent_mem ltInt d i 0
  have C1 : (medianAdjacent ltInt d i 0).2 ≤ 0 + 3 := med_le d (i - 1) i (i + 1) 0
  rw [A1, someBind]
  generalize medianAdjacent ltInt d i 0 = r1 at B1 C1 ⊢
  have A2 := adj d j r1.2 (by omega) (by omega) hz (by omega)
  have B2 := medianAdjacent_mem ltInt d j r1.2
  have C2 : (medianAdjacent ltInt d j r1.2).2 ≤ r1.2 + 3 := med_le d (j - 1) j (j + 1) r1.2
  rw [A2, someBind]
  generalize medianAdjacent ltInt d j r1.2 = r2 at B2 C2 ⊢
  have A3 := adj d m r2.2 (by omega) hm hz (by omega)
  have B3 := medianAdjacent_mem ltInt d m r2.2
  have C3 : (medianAdjacent ltInt d m r2.2).2 ≤ r2.2 + 3 := med_le d (m - 1) m (m + 1) r2.2
  rw [A3, someBind]
  generalize medianAdjacent ltInt d m r2.2 = r3 at B3 C3 ⊢
  have A4 := med d r1.1 r2.1 r3.1 r3.2 (by omega) (by omega) (by omega) (by omega)
  rw [A4, someBind]
theorem pv_f (d : Array Int) (a b : Nat) (hab : a < b) (hb : b ≤ d.size) (hm : d.size ≤ 2305843009213693952) :
    Ev (fun k => qscpou6.f k d.toList a b) (((choosePivot ltInt d a b).1 : Int), hintN (choosePivot ltInt d a b).2) := by
  obtain ⟨L, hL⟩ : ∃ L, L = b - a := ⟨_, rfl⟩
  obtain ⟨q, hq⟩ : ∃ q, q = L / 4 := ⟨_, rfl⟩
  refine Ev.congr (fun k => pv_q k d.toList a b L q hL (by omega) (by omega) hq) ?_
  unfold choosePivot quarters
  simp only []
  rw [← hL, ← hq]
  have g1 : L ≥ 8 → 2 ≤ q ∧ a + q * 3 + 1 < d.size := by clear hm; omega
  have g2 : a + q * 2 < d.size := by clear hm g1; omega
  clear hL hq hab hb
  by_cases h8 : L ≥ 8
  · have h8' : (L : Int) ≥ 8 := by omega
    simp only [if_pos h8, if_pos h8']
    by_cases h50 : L ≥ 50
    · have h50' : (L : Int) ≥ 50 := by omega
      simp only [if_pos h50, if_pos h50']
      have := g1 h8
      exact pv_long d (a + q * 1) (a + q * 2) (a + q * 3) (by omega) (by omega) (by omega) (by omega) hm (pv_j0 _ _)
    · have h50' : ¬ (L : Int) ≥ 50 := by omega
      simp only [if_neg h50, if_neg h50']
      have := g1 h8
      rw [med d (a + q * 1) (a + q * 2) (a + q * 3) 0 (by omega) (by omega) (by omega) (by omega)]
      exact pv_j0 _ _
  · have h8' : ¬ (L : Int) ≥ 8 := by omega
    simp only [if_neg h8, if_neg h8']
    exact pv_j0 _ 0

theorem nxt (r : UInt64) : qsxn.f ((r.toNat : Nat) : Int) = some (((xorNext r).toNat : Int), ((xorNext r).toNat : Int)) := by
  have hX := r.toNat_lt
  rw [xorNext_toNat]
  generalize r.toNat = X at hX
  obtain ⟨A, hA⟩ : ∃ A : Nat, A = X ^^^ (X * 8192 % 18446744073709551616) := ⟨_, rfl⟩
  obtain ⟨B, hB⟩ : ∃ B : Nat, B = A ^^^ (A / 128) := ⟨_, rfl⟩
  obtain ⟨C, hC⟩ : ∃ C : Nat, C = B ^^^ (B * 131072 % 18446744073709551616) := ⟨_, rfl⟩
  have lA : A < 18446744073709551616 := by rw [hA]; exact Nat.xor_lt_two_pow (n := 64) (by omega) (by omega)
  have lB : B < 18446744073709551616 := by rw [hB]; exact Nat.xor_lt_two_pow (n := 64) (by omega) (by omega)
  have e1 : bits .xor .u64 (X : Int) (IntKind.u64.wrap ((X : Int) * 8192)) = (A : Int) := by
    rw [IntKind.wrap_u64, show ((X : Int) * 8192 % 18446744073709551616) = ((X * 8192 % 18446744073709551616 : Nat) : Int) by omega, bits_xor_u64_nat _ _ hX (by omega), hA]
  have e2 : bits .xor .u64 (A : Int) ((A : Int) / 128) = (B : Int) := by
    rw [show ((A : Int) / 128) = ((A / 128 : Nat) : Int) by omega, bits_xor_u64_nat _ _ lA (by omega), hB]
  have e3 : bits .xor .u64 (B : Int) (IntKind.u64.wrap ((B : Int) * 131072)) = (C : Int) := by
    rw [IntKind.wrap_u64, show ((B : Int) * 131072 % 18446744073709551616) = ((B * 131072 % 18446744073709551616 : Nat) : Int) by omega, bits_xor_u64_nat _ _ lB (by omega), hC]
  have hv : xorNextN X = C := by unfold xorNextN; simp only []; rw [← hA, ← hB, ← hC]
  rw [hv]
  simp only [qsxn.f]
  rw [e1, e2, e3]
theorem bp_facts {a L M idx q o s : Nat} (hq : q = L / 4) (h8 : 8 ≤ L) (hM : M ≤ 2 * L) (hb : a + L ≤ s) (hm : s ≤ 2305843009213693952) (hi : idx ≤ a + q * 2 + 1) (ho : o ≤ M - 1) :
    L ≤ 4611686018427387904 ∧ q * 2 ≤ 4611686018427387904 ∧ a + q * 2 ≤ 4611686018427387904 ∧ idx < s ∧ idx ≤ 4611686018427387904 ∧ o ≤ 4611686018427387904 ∧ M ≤ 4611686018427387904 ∧ (o ≥ L → a + (o - L) < s) ∧ (¬ o ≥ L → a + o < s) := by omega
theorem bp_round (a L M idx q : Nat) (u : UInt64) (d : Array Int) (hq : q = L / 4) (h8 : 8 ≤ L) (hM1 : 1 ≤ M) (hM : M ≤ 2 * L) (hb : a + L ≤ d.size) (hm : d.size ≤ 2305843009213693952) (hi : idx ≤ a + q * 2 + 1) {r : List Int}
    (h : Ev (fun k => qsbpou6.l0 k (breakStep a L M (u, d) idx).2.toList a L M ((idx + 1 : Nat) : Int) (((breakStep a L M (u, d) idx).1.toNat : Nat) : Int)) r) :
    Ev (fun k => qsbpou6.l0 k d.toList a L M idx ((u.toNat : Nat) : Int)) r := by
  have hX := (xorNext u).toNat_lt
  obtain ⟨o, ho⟩ : ∃ o : Nat, o = (xorNext u).toNat &&& (M - 1) := ⟨_, rfl⟩
  have hoM : o ≤ M - 1 := by rw [ho]; exact Nat.and_le_right
  obtain ⟨g1, g2, g3, g4, g5, g6, g7, g8, g9⟩ := bp_facts hq h8 hM hb hm hi hoM
  have hst : breakStep a L M (u, d) idx = (xorNext u, swp d idx (a + (if o ≥ L then o - L else o))) := by rw [ho]; rfl
  rw [hst] at h
  have b1 : (idx : Int) ≤ ((a + q * 2 + 1 : Nat) : Int) := Int.ofNat_le.2 hi
  have b2 : (0 : Int) ≤ (idx : Int) := Int.natCast_nonneg _
  have b3 : (idx : Int) < (d.size : Int) := Int.ofNat_lt.2 g4
  have wM : IntKind.u64.wrap ((M : Int) - 1) = ((M - 1 : Nat) : Int) := by
    rw [show (M : Int) - 1 = ((M - 1 : Nat) : Int) by omega]; exact wrapN (by omega)
  have wA : bits .and .u64 (((xorNext u).toNat : Nat) : Int) ((M - 1 : Nat) : Int) = (o : Int) := by rw [bits_and_u64_nat _ _ hX (by omega), ho]
  clear ho hX
  by_cases hL : o ≥ L
  · rw [if_pos hL] at h
    have g8 := g8 hL
    have q1 : a + (o - L) ≤ 4611686018427387904 := by omega
    have q2 : o ≤ 9223372036854775807 := by omega
    have b4 : (0 : Int) ≤ ((a + (o - L) : Nat) : Int) := Int.natCast_nonneg _
    have b5 : ((a + (o - L) : Nat) : Int) < (d.size : Int) := Int.ofNat_lt.2 g8
    have b6 : (o : Int) ≥ (L : Int) := Int.ofNat_le.2 hL
    have t4 : wrap64 (Int.tdiv (L : Int) 4) = (q : Int) := by rw [hq]; exact wquo g1
    have m2 : wrap64 ((q : Int) * 2) = ((q * 2 : Nat) : Int) := wmul (m := 2) g2
    have p2 : wrap64 ((a : Int) + ((q * 2 : Nat) : Int)) = ((a + q * 2 : Nat) : Int) := waddn g3
    have p3 : wrap64 (((a + q * 2 : Nat) : Int) + 1) = ((a + q * 2 + 1 : Nat) : Int) := wadd g3
    have wO : wrap64 (o : Int) = (o : Int) := w64' rfl q2
    have wI : wrap64 ((idx : Int) + 1) = ((idx + 1 : Nat) : Int) := wadd g5
    have s1 : wrap64 ((o : Int) - (L : Int)) = ((o - L : Nat) : Int) := wdif hL g6
    have s2 : wrap64 ((a : Int) + ((o - L : Nat) : Int)) = ((a + (o - L) : Nat) : Int) := waddn q1
    refine Ev.step (fun k => ?_) h
    simp only [qsbpou6.l0]
    rw [t4, m2, p2, p3, if_pos b1, nxt, someBind]
    simp only []
    rw [wM, wA, wO, if_pos b6, s1, s2, lenA, if_pos b4, if_pos b5, if_pos b2, if_pos b3, wI, swpA]
  · rw [if_neg hL] at h
    have g9 := g9 hL
    have q1 : a + o ≤ 4611686018427387904 := by omega
    have q2 : o ≤ 9223372036854775807 := by omega
    have b4 : (0 : Int) ≤ ((a + o : Nat) : Int) := Int.natCast_nonneg _
    have b5 : ((a + o : Nat) : Int) < (d.size : Int) := Int.ofNat_lt.2 g9
    have b6 : ¬ (o : Int) ≥ (L : Int) := fun hh => hL (Int.ofNat_le.1 hh)
    have t4 : wrap64 (Int.tdiv (L : Int) 4) = (q : Int) := by rw [hq]; exact wquo g1
    have m2 : wrap64 ((q : Int) * 2) = ((q * 2 : Nat) : Int) := wmul (m := 2) g2
    have p2 : wrap64 ((a : Int) + ((q * 2 : Nat) : Int)) = ((a + q * 2 : Nat) : Int) := waddn g3
    have p3 : wrap64 (((a + q * 2 : Nat) : Int) + 1) = ((a + q * 2 + 1 : Nat) : Int) := wadd g3
    have wO : wrap64 (o : Int) = (o : Int) := w64' rfl q2
    have wI : wrap64 ((idx : Int) + 1) = ((idx + 1 : Nat) : Int) := wadd g5
    have s2 : wrap64 ((a : Int) + (o : Int)) = ((a + o : Nat) : Int) := waddn q1
    refine Ev.step (fun k => ?_) h
    simp only [qsbpou6.l0]
    rw [t4, m2, p2, p3, if_pos b1, nxt, someBind]
    simp only []
    rw [wM, wA, wO, if_neg b6, s2, lenA, if_pos b4, if_pos b5, if_pos b2, if_pos b3, wI, swpA]
theorem size_breakStep (a L M idx : Nat) (st : UInt64 × Array Int) : (breakStep a L M st idx).2.size = st.2.size := by
  unfold breakStep; simp only []; rw [size_swp']
theorem bp_f (d : Array Int) (a b : Nat) (hab : a ≤ b) (hb : b ≤ d.size) (hm : d.size ≤ 2305843009213693952) : Ev (fun k => qsbpou6.f k d.toList a b) (breakPatterns d a b).toList := by
  have hb2 : b ≤ 4611686018427387904 := by omega
  by_cases h8 : b - a ≥ 8
  · unfold breakPatterns
    simp only [if_pos h8]
    obtain ⟨L, hL⟩ : ∃ L, L = b - a := ⟨_, rfl⟩
    rw [← hL] at h8 ⊢
    have hLb : a + L ≤ d.size := by omega
    have hU : (UInt64.ofNat L).toNat = L := by rw [UInt64.toNat_ofNat_of_lt' (by show L < 18446744073709551616; omega)]
    have hM2 := two_pow_bitsLen_le (n := L) (by omega)
    have hM1 : 1 ≤ 2 ^ bitsLen L := Nat.two_pow_pos _
    rw [← Nat.one_shiftLeft] at hM2 hM1
    obtain ⟨q, hq⟩ : ∃ q, q = L / 4 := ⟨_, rfl⟩
    have k2 : 2 ≤ q := by omega
    have k3 : q * 2 ≤ 4611686018427387904 := by omega
    have k4 : a + q * 2 ≤ 4611686018427387904 := by omega
    have k5 : 1 ≤ a + q * 2 := by omega
    have k6 : L ≤ 2305843009213693952 := by omega
    have k7 : L ≤ 4611686018427387904 := by omega
    have k8 : L < 18446744073709551616 := by omega
    have R := fun u d idx h1 h2 h3 (r : List Int) => bp_round a L (1 <<< bitsLen L) idx q u d hq h8 hM1 hM2 h1 h2 h3 (r := r)
    rw [← hq]
    have j1 : a + q * 2 - 1 ≤ a + q * 2 + 1 := by omega
    have j2 : a + q * 2 - 1 + 1 ≤ a + q * 2 + 1 := by omega
    have j3 : a + q * 2 - 1 + 2 ≤ a + q * 2 + 1 := by omega
    have j4 : ¬ ((a + q * 2 - 1 + 2 + 1 : Nat) : Int) ≤ ((a + q * 2 + 1 : Nat) : Int) := by omega
    have l8 : (L : Int) ≥ 8 := by omega
    have lw : IntKind.u64.wrap (L : Int) = (L : Int) := wrapN k8
    have e1 : wrap64 ((b : Int) - (a : Int)) = (L : Int) := by rw [hL]; exact wdif hab hb2
    have t4 : wrap64 (Int.tdiv (L : Int) 4) = (q : Int) := by rw [hq]; exact wquo k7
    have m2 : wrap64 ((q : Int) * 2) = ((q * 2 : Nat) : Int) := wmul (m := 2) k3
    have p2 : wrap64 ((a : Int) + ((q * 2 : Nat) : Int)) = ((a + q * 2 : Nat) : Int) := waddn k4
    have p3 : wrap64 (((a + q * 2 : Nat) : Int) - 1) = ((a + q * 2 - 1 : Nat) : Int) := wsub k5 k4
    have p4 : wrap64 (((a + q * 2 : Nat) : Int) + 1) = ((a + q * 2 + 1 : Nat) : Int) := wadd k4
    refine Ev.congr (f := fun k => (qsnpot.f k (L : Int)).bind fun t => qsbpou6.l0 k d.toList a (L : Int) t ((a + q * 2 - 1 : Nat) : Int) (L : Int)) (fun k => ?_)
      (Ev.bind (two_pow L k6) ?_)
    · simp only [qsbpou6.f]
      rw [e1, if_pos l8, lw, t4, m2, p2, p3]
    · generalize 1 <<< bitsLen L = M at R ⊢
      generalize a + q * 2 - 1 = x at R j1 j2 j3 j4 ⊢
      have R1 := R (UInt64.ofNat L) d x hLb hm j1 (breakStep a L M (breakStep a L M (breakStep a L M (UInt64.ofNat L, d) x) (x + 1)) (x + 2)).2.toList
      rw [hU] at R1
      refine R1 ?_
      clear R1
      have z1 : (breakStep a L M (UInt64.ofNat L, d) x).2.size = d.size := size_breakStep a L M x (UInt64.ofNat L, d)
      generalize breakStep a L M (UInt64.ofNat L, d) x = s1 at z1 ⊢
      refine R s1.1 s1.2 (x + 1) (by rw [z1]; exact hLb) (by rw [z1]; exact hm) j2 _ ?_
      have z2 : (breakStep a L M s1 (x + 1)).2.size = d.size := (size_breakStep a L M (x + 1) s1).trans z1
      show Ev (fun k => qsbpou6.l0 k (breakStep a L M s1 (x + 1)).2.toList a L M ((x + 1 + 1 : Nat) : Int) (((breakStep a L M s1 (x + 1)).1.toNat : Nat) : Int)) _
      generalize breakStep a L M s1 (x + 1) = s2 at z2 ⊢
      refine R s2.1 s2.2 (x + 2) (by rw [z2]; exact hLb) (by rw [z2]; exact hm) j3 _ ?_
      refine Ev.step (fun k => ?_) (Ev.now _)
      simp only [qsbpou6.l0]
      rw [t4, m2, p2, p4, if_neg j4]
  · unfold breakPatterns
    simp only [if_neg h8]
    have l8 : ¬ ((b - a : Nat) : Int) ≥ 8 := by omega
    have e1 : wrap64 ((b : Int) - (a : Int)) = ((b - a : Nat) : Int) := wdif hab hb2
    refine Ev.congr (fun k => ?_) (Ev.now _)
    simp only [qsbpou6.f]
    rw [e1, if_neg l8]
end Go.Proofs.YtkmbgfhkdopigaaDoor.Pdq
