/- Texts that the statement's proof leans on, part 21. -/
import Ieee.Arith
namespace Go.Proofs.YtkmbgfhkdopigaaDoor.Fk
open Ieee
def mg (r : Nat) : Nat := if r < 2 ^ 52 then r else (2 ^ 52 + r % 2 ^ 52) * 2 ^ (r / 2 ^ 52 - 1)
def inf : Nat := 2047 * 2 ^ 52
def sg (w : Nat) : Bool := w / 2 ^ 63 % 2 == 1
def rg (w : Nat) : Nat := w % 2 ^ 63
def isNaN (w : Nat) : Bool := decide (inf < rg w)
def pl (w : Nat) : Int := if sg w then -(rg w : Int) else (rg w : Int)

theorem mg_step (r : Nat) : mg r < mg (r + 1) := by
  unfold mg
  by_cases h : r + 1 < 2 ^ 52
  · rw [if_pos (by omega), if_pos h]; omega
  · rw [if_neg h]
    by_cases h2 : r < 2 ^ 52
    · rw [if_pos h2]
      have : r + 1 = 2 ^ 52 := by omega
      rw [this]; simp; omega
    · rw [if_neg h2]
      by_cases h3 : (r + 1) % 2 ^ 52 = 0
      · have e1 : (r + 1) / 2 ^ 52 = r / 2 ^ 52 + 1 := by omega
        have e2 : r % 2 ^ 52 = 2 ^ 52 - 1 := by omega
        have e4 : 1 ≤ r / 2 ^ 52 := by omega
        rw [e1, h3, e2]
        have e3 : r / 2 ^ 52 + 1 - 1 = (r / 2 ^ 52 - 1) + 1 := by omega
        rw [e3, show 2 ^ (r / 2 ^ 52 - 1 + 1) = 2 ^ (r / 2 ^ 52 - 1) * 2 from Nat.pow_succ _ _]
        have hp : 0 < 2 ^ (r / 2 ^ 52 - 1) := Nat.two_pow_pos _
        generalize 2 ^ (r / 2 ^ 52 - 1) = p at *
        omega
      · have e1 : (r + 1) / 2 ^ 52 = r / 2 ^ 52 := by omega
        have e2 : (r + 1) % 2 ^ 52 = r % 2 ^ 52 + 1 := by omega
        rw [e1, e2]
        exact Nat.mul_lt_mul_of_pos_right (by omega) (Nat.two_pow_pos _)
theorem mg_mono {a b : Nat} (h : a < b) : mg a < mg b := by
  induction b with
  | zero => omega
  | succ b ih =>
    by_cases e : a = b
    · subst e; exact mg_step a
    · exact Nat.lt_trans (ih (by omega)) (mg_step b)
theorem mg_zero : mg 0 = 0 := rfl
theorem mg_inj {a b : Nat} (h : mg a = mg b) : a = b := by
  rcases Nat.lt_trichotomy a b with h1 | h1 | h1
  · have := mg_mono h1; omega
  · exact h1
  · have := mg_mono h1; omega

theorem sw : double.signWeight = 2 ^ 63 := rfl
theorem bn : double.binade = 2 ^ 52 := rfl
theorem ir : double.infRung = inf := rfl
theorem lp : double.leastPlace = -1074 := rfl

theorem read_num (w : Nat) (h : rg w < inf) : ∃ m i, double.read w = .number (sg w) m i ∧ -1074 ≤ i ∧ m * 2 ^ (i + 1074).toNat = mg (rg w) := by
  unfold Format.read
  rw [sw, bn, ir, lp]
  by_cases h1 : rg w < 2 ^ 52
  · refine ⟨rg w, -1074, ?_, by omega, ?_⟩
    · have h1' : w % 2 ^ 63 < 2 ^ 52 := h1
      simp only [if_pos h1']; rfl
    · unfold mg; rw [if_pos h1]; simp
  · refine ⟨2 ^ 52 + rg w % 2 ^ 52, -1074 + (rg w / 2 ^ 52 - 1 : Nat), ?_, by omega, ?_⟩
    · have h1' : ¬ w % 2 ^ 63 < 2 ^ 52 := h1
      have h2' : w % 2 ^ 63 < inf := h
      simp only [if_neg h1', if_pos h2']; rfl
    · unfold mg; rw [if_neg h1]
      congr 2
      omega
theorem read_inf (w : Nat) (h : rg w = inf) : double.read w = .infinity (sg w) := by
  unfold Format.read
  rw [sw, bn, ir, lp]
  have h' : w % 2 ^ 63 = inf := h
  have h1 : ¬ inf < 2 ^ 52 := by unfold inf; omega
  simp only [h', if_neg h1, if_neg (Nat.lt_irrefl _), if_true]; rfl
theorem read_nan (w : Nat) (h : inf < rg w) : double.read w = .nan (sg w) (rg w - inf) := by
  unfold Format.read
  rw [sw, bn, ir, lp]
  have h' : inf < w % 2 ^ 63 := h
  have h0 : 2 ^ 52 < inf := by unfold inf; omega
  rw [if_neg (by omega), if_neg (by omega), if_neg (by omega)]; rfl

theorem signed_le (s : Bool) (m k : Nat) : signed s m k = if s then -((m * 2 ^ k : Nat) : Int) else ((m * 2 ^ k : Nat) : Int) := by
  unfold signed; simp [Nat.shiftLeft_eq]

theorem compare_mul (a b : Int) (p : Nat) (hp : 0 < p) : compare (a * p) (b * p) = compare a b := by
  have hp' : (0 : Int) < p := by omega
  rcases Int.lt_trichotomy a b with h | h | h
  · have : a * p < b * p := Int.mul_lt_mul_of_pos_right h hp'
    rw [Int.compare_eq_lt.2 h, Int.compare_eq_lt.2 this]
  · subst h; rw [Int.compare_eq_eq.2 rfl, Int.compare_eq_eq.2 rfl]
  · have : b * p < a * p := Int.mul_lt_mul_of_pos_right h hp'
    rw [Int.compare_eq_gt.2 h, Int.compare_eq_gt.2 this]

def smg (s : Bool) (r : Nat) : Int := if s then -(mg r : Int) else (mg r : Int)
theorem cmp_smg (s t : Bool) (a b : Nat) : compare (smg s a) (smg t b) = compare (if s then -(a : Int) else (a : Int)) (if t then -(b : Int) else (b : Int)) := by
  have mz : ∀ r, (mg r = 0 ↔ r = 0) := fun r => ⟨fun h => mg_inj (h.trans mg_zero.symm), fun h => by rw [h, mg_zero]⟩
  have key : ∀ a b : Nat, (mg a < mg b ↔ a < b) := fun a b => ⟨fun h => by
    rcases Nat.lt_or_ge a b with h1 | h1
    · exact h1
    · rcases Nat.lt_or_eq_of_le h1 with h2 | h2
      · have := mg_mono h2; omega
      · subst h2; omega, mg_mono⟩
  have k1 := key a b; have k2 := key b a; have z1 := mz a; have z2 := mz b
  unfold smg
  generalize mg a = A at *
  generalize mg b = B at *
  have aux : ∀ x y x' y' : Int, (x < y ↔ x' < y') → (y < x ↔ y' < x') → compare x y = compare x' y' := by
    intro x y x' y' h1 h2
    rcases Int.lt_trichotomy x y with h | h | h
    · rw [Int.compare_eq_lt.2 h, Int.compare_eq_lt.2 (h1.1 h)]
    · have : x' = y' := by omega
      rw [Int.compare_eq_eq.2 h, Int.compare_eq_eq.2 this]
    · rw [Int.compare_eq_gt.2 h, Int.compare_eq_gt.2 (h2.1 h)]
  cases s <;> cases t <;> apply aux <;> simp <;> omega

theorem order_spec (x y : Nat) : double.order x y = if isNaN x || isNaN y then none else some (compare (pl x) (pl y)) := by
  unfold Format.order
  have tri : ∀ w, (isNaN w = true ∧ inf < rg w) ∨ (isNaN w = false ∧ rg w = inf) ∨ (isNaN w = false ∧ rg w < inf) := by
    intro w; unfold isNaN
    rcases Nat.lt_trichotomy (rg w) inf with h | h | h
    · exact .inr (.inr ⟨by simp; omega, h⟩)
    · exact .inr (.inl ⟨by simp; omega, h⟩)
    · exact .inl ⟨by simpa using h, h⟩
  have lt0 : ∀ {a b : Int}, a < b → compare a b = .lt := fun h => Int.compare_eq_lt.2 h
  have gt0 : ∀ {a b : Int}, b < a → compare a b = .gt := fun h => Int.compare_eq_gt.2 h
  have ip : 0 < inf := by unfold inf; omega
  rcases tri x with ⟨e1, h1⟩ | ⟨e1, h1⟩ | ⟨e1, h1⟩
  · rw [read_nan x h1, e1]; simp [Datum.order]
  · rcases tri y with ⟨e2, h2⟩ | ⟨e2, h2⟩ | ⟨e2, h2⟩
    · rw [read_inf x h1, read_nan y h2, e1, e2]; simp [Datum.order]
    · rw [read_inf x h1, read_inf y h2, e1, e2]
      simp only [Datum.order, Bool.or_self, Bool.false_eq_true, if_false, pl, h1, h2]
      cases sg x <;> cases sg y <;> decide +kernel
    · obtain ⟨m, i, hr, _, _⟩ := read_num y h2
      rw [read_inf x h1, hr, e1, e2]
      simp only [Datum.order, Bool.or_self, Bool.false_eq_true, if_false, pl, h1]
      cases sg x <;> cases sg y <;> simp
      · exact (gt0 (by omega)).symm
      · exact (gt0 (by omega)).symm
      · exact (lt0 (by omega)).symm
      · exact (lt0 (by omega)).symm
  · rcases tri y with ⟨e2, h2⟩ | ⟨e2, h2⟩ | ⟨e2, h2⟩
    · rw [read_nan y h2, e1, e2]; obtain ⟨m, i, hr, _, _⟩ := read_num x h1; rw [hr]; simp [Datum.order]
    · obtain ⟨m, i, hr, _, _⟩ := read_num x h1
      rw [read_inf y h2, hr, e1, e2]
      simp only [Datum.order, Bool.or_self, Bool.false_eq_true, if_false, pl, h2]
      cases sg x <;> cases sg y <;> simp
      · exact (lt0 (by omega)).symm
      · exact (gt0 (by omega)).symm
      · exact (lt0 (by omega)).symm
      · exact (gt0 (by omega)).symm
    · obtain ⟨m, i, hr, hi, hm⟩ := read_num x h1
      obtain ⟨n, j, hs, hj, hn⟩ := read_num y h2
      rw [hr, hs, e1, e2]
      simp only [Datum.order, Bool.or_self, Bool.false_eq_true, if_false, pl]
      rw [← cmp_smg]
      congr 1
      have hb : -1074 ≤ min i j := by omega
      rw [← compare_mul _ _ (2 ^ (min i j + 1074).toNat) (Nat.two_pow_pos _)]
      have e : ∀ (s : Bool) (m : Nat) (i : Int), min (i) (min i j) = min i j → min i j ≤ i → True := fun _ _ _ _ _ => trivial
      have part : ∀ (s : Bool) (m r : Nat) (i b : Int), -1074 ≤ b → b ≤ i → m * 2 ^ (i + 1074).toNat = mg r → signed s m (i - b).toNat * ((2 ^ (b + 1074).toNat : Nat) : Int) = smg s r := by
        intro s m r i b h1 h2 h3
        have h4 : (i + 1074).toNat = (i - b).toNat + (b + 1074).toNat := by omega
        rw [signed_le]; unfold smg
        rw [← h3, h4, Nat.pow_add, ← Nat.mul_assoc]
        cases s <;> simp [Int.neg_mul]
      rw [part _ _ _ _ _ hb (by omega) hm, part _ _ _ _ _ hb (by omega) hn]
end Go.Proofs.YtkmbgfhkdopigaaDoor.Fk
