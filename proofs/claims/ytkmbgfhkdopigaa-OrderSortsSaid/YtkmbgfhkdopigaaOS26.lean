/- Texts that the statement's proof leans on, part 26. -/
import Derived.Test.YtkmbgfhkdopigaaOS4
import Derived.Test.YtkmbgfhkdopigaaOS7
import Derived.Test.YtkmbgfhkdopigaaOS22
import Derived.Test.YtkmbgfhkdopigaaOS23
import Derived.Test.YtkmbgfhkdopigaaOS24
import Derived.Test.YtkmbgfhkdopigaaOS25
import Derived.Laws.BitsAllLaws
namespace Go.Proofs.Ytkmbgfhkdopigaa.Stab
set_option linter.unusedSimpArgs false
open Go.RowKit Go.Proofs.Ytkmbgfhkdopigaa.P Go.Proofs.YtkmbgfhkdopigaaW.PrintWords
theorem andNot63 (x : Nat) (hx : x < 18446744073709551616) : Go.bits .andNot .u64 (x : Int) 9223372036854775808 = ((x % 9223372036854775808 : Nat) : Int) := by
  rw [show (9223372036854775808 : Int) = ((9223372036854775808 : Nat) : Int) from rfl, u64_andNot_nat x 9223372036854775808 hx (by decide)]
  rw [show 18446744073709551615 - 9223372036854775808 = 2 ^ 63 - 1 from rfl, Nat.and_two_pow_sub_one_eq_mod]
theorem or63 (y : Nat) (hy : y < 9223372036854775808) : Go.bits .or .u64 9223372036854775808 (y : Int) = ((9223372036854775808 + y : Nat) : Int) := by
  rw [show (9223372036854775808 : Int) = ((9223372036854775808 : Nat) : Int) from rfl, u64_or_nat 9223372036854775808 y (by decide) (by omega)]
  have := Nat.two_pow_add_eq_or_of_lt (i := 63) (b := y) (by omega) 1
  simp only [Nat.mul_one] at this
  rw [show 9223372036854775808 = 2 ^ 63 from rfl, this]
abbrev nan (x : Nat) : Bool := Fk.isNaN x
theorem nan_iff (x : Nat) : nan x = true ↔ 9218868437227405312 < x % 9223372036854775808 := by
  unfold nan Fk.isNaN Fk.inf Fk.rg
  rw [decide_eq_true_iff]
theorem pl_eq (x : Nat) (hx : x < 18446744073709551616) : Fk.pl x = if x / 9223372036854775808 = 0 then (x : Int) else -((x % 9223372036854775808 : Nat) : Int) := by
  unfold Fk.pl Fk.sg Fk.rg
  by_cases h : x / 9223372036854775808 = 0
  · rw [if_pos h, if_neg]
    · have : x % 2 ^ 63 = x := by omega
      rw [this]
    · have : x / 2 ^ 63 = 0 := h
      rw [this]; simp
  · rw [if_neg h, if_pos]
    have : x / 2 ^ 63 = 1 := by omega
    rw [this]; rfl
theorem flo_ne (x : Nat) : ((FloatKind.format .f64).order x x != some .eq) = nan x := by
  rw [show FloatKind.format .f64 = Ieee.double from rfl, Fk.order_spec]
  cases h : Fk.isNaN x
  · simp [nan, h, Int.compare_eq_eq.2 rfl]
  · simp [nan, h]
theorem flo_eq (x y : Nat) : ((FloatKind.format .f64).order x y == some .eq) = (!nan x && !nan y && decide (Fk.pl x = Fk.pl y)) := by
  rw [show FloatKind.format .f64 = Ieee.double from rfl, Fk.order_spec]
  cases h : Fk.isNaN x <;> cases h2 : Fk.isNaN y <;> simp [nan, h, h2]
  by_cases e : Fk.pl x = Fk.pl y
  · rw [Int.compare_eq_eq.2 e]; simp [e]
  · have : compare (Fk.pl x) (Fk.pl y) ≠ .eq := fun hh => e (Int.compare_eq_eq.1 hh)
    simp [e, this]
theorem kf_spec (x : Nat) (hx : x < 18446744073709551616) : kf x = if nan x then 18437736874454810625 else 9218868437227405312 + Fk.pl x := by
  unfold kf qok.f
  rw [flo_ne]
  cases hn : nan x with
  | true => rfl
  | false =>
    rw [if_neg Bool.false_ne_true, if_neg Bool.false_ne_true]
    have hr : ¬ 9218868437227405312 < x % 9223372036854775808 := fun h => by rw [(nan_iff x).2 h] at hn; cases hn
    rw [andNot63 x hx, pl_eq x hx]
    by_cases h : x / 9223372036854775808 = 0
    · rw [if_pos h, if_pos (by omega), Option.getD_some, IntKind.wrap_u64]; omega
    · rw [if_neg h, if_neg (by omega), Option.getD_some, IntKind.wrap_u64]; omega
theorem kf_nan {x : Nat} (hx : x < 18446744073709551616) (h : nan x = true) : kf x = 18437736874454810625 := by rw [kf_spec x hx, h]; rfl
theorem kf_num {x : Nat} (hx : x < 18446744073709551616) (h : nan x = false) : kf x = 9218868437227405312 + Fk.pl x ∧ 0 ≤ kf x ∧ kf x ≤ 18437736874454810624 := by
  have e : kf x = 9218868437227405312 + Fk.pl x := by rw [kf_spec x hx, h]; rfl
  have hr : ¬ 9218868437227405312 < x % 9223372036854775808 := fun hh => by rw [(nan_iff x).2 hh] at h; cases h
  have hp := pl_eq x hx
  refine ⟨e, ?_⟩
  by_cases h2 : x / 9223372036854775808 = 0
  · rw [if_pos h2] at hp; omega
  · rw [if_neg h2] at hp; omega
theorem flo_eq_kf {x y : Nat} (hx : x < 18446744073709551616) (hy : y < 18446744073709551616) : ((FloatKind.format .f64).order x y == some .eq) = (!nan x && decide (kf x = kf y)) := by
  rw [flo_eq]
  cases h : nan x with
  | true => rfl
  | false =>
    have h1 := kf_num hx h
    cases h2 : nan y with
    | true => rw [kf_nan hy h2, decide_eq_false (show ¬ kf x = 18437736874454810625 by omega)]; simp
    | false =>
      have h3 := kf_num hy h2
      rw [h1.1, h3.1]
      simp

def atN (k : Int) : Nat := if k ≥ 9218868437227405312 then (k - 9218868437227405312).toNat else (9223372036854775808 + (9218868437227405312 - k)).toNat
theorem at_num {k : Int} (h0 : 0 ≤ k) (h1 : k ≤ 18437736874454810624) : qoa.f k = some (atN k, 0) := by
  unfold qoa.f atN
  rw [if_neg (by omega), if_neg (by omega)]
  by_cases h : k ≥ 9218868437227405312
  · rw [if_pos h, if_pos h, IntKind.wrap_u64]
    congr 3 <;> omega
  · rw [if_neg h, if_neg h, IntKind.wrap_u64]
    obtain ⟨n, hn⟩ := Int.eq_ofNat_of_zero_le (show 0 ≤ 9218868437227405312 - k by omega)
    rw [hn, show (n : Int) % 18446744073709551616 = n by omega, or63 n (by omega)]
    congr 2 <;> omega
theorem atN_lt {k : Int} (h0 : 0 ≤ k) (h1 : k ≤ 18437736874454810624) : atN k < 18446744073709551616 := by
  unfold atN; split <;> omega
theorem atN_nan {k : Int} (h0 : 0 ≤ k) (h1 : k ≤ 18437736874454810624) : nan (atN k) = false := by
  rw [Bool.eq_false_iff, Ne, nan_iff]
  unfold atN; split <;> omega
theorem kf_at {k : Int} (h0 : 0 ≤ k) (h1 : k ≤ 18437736874454810624) : kf (atN k) = k := by
  rw [(kf_num (atN_lt h0 h1) (atN_nan h0 h1)).1, pl_eq _ (atN_lt h0 h1)]
  unfold atN
  split <;> split <;> omega

def cnt (l : List Nat) (v : Nat) : Nat := (l.filter (fun x => decide (kf x < kf v))).length
theorem cnt_le (l : List Nat) (v : Nat) : cnt l v ≤ l.length := List.length_filter_le _ _
theorem below_l0 {v : Nat} : ∀ (q p l : List Nat) (i n c : Nat), l = p ++ q → i = p.length → n = l.length → c = cnt p v → n ≤ 4611686018427387904 → Ev (fun k => qob.l0 k v c l n i) ((cnt l v : Nat) : Int) := by
  intro q
  induction q with
  | nil =>
    intro p l i n c e hi hn hc hb
    rw [List.append_nil] at e
    subst e
    refine Ev.step (fun k => ?_) (Ev.now _)
    simp only [qob.l0]
    rw [if_neg (by omega), hc]
  | cons x q ih =>
    intro p l i n c e hi hn hc hb
    have hll : l.length = p.length + 1 + q.length := by rw [e]; simp <;> omega
    have rx : Zs (rdOf (0 : Nat) l (i : Int) = x) := ⟨rd_at e hi⟩
    have hcp := cnt_le p v
    have ecnt : cnt (p ++ [x]) v = if kf x < kf v then cnt p v + 1 else cnt p v := by
      unfold cnt
      rw [List.filter_append, List.length_append, List.filter_cons]
      by_cases h : kf x < kf v
      · rw [if_pos h, if_pos (by simpa using h)]; rfl
      · rw [if_neg h, if_neg (by simpa using h)]; rfl
    have b1 : (i : Int) < (n : Int) := by omega
    have b2 : (0 : Int) ≤ (i : Int) := by omega
    have b3 : (i : Int) < (l.length : Int) := by omega
    by_cases h : kf x < kf v
    · rw [if_pos h] at ecnt
      refine Ev.step (fun k => ?_) (ih (p ++ [x]) l (i + 1) n (c + 1) (by rw [e]; simp) (by simp <;> omega) hn (by omega) hb)
      simp only [qob.l0]
      rw [if_pos b1, if_pos b2, if_pos b3, rx.out, key_some, key_some, someBind, someBind, if_pos h, wadd (by omega), wadd (by omega)]
    · rw [if_neg h] at ecnt
      refine Ev.step (fun k => ?_) (ih (p ++ [x]) l (i + 1) n c (by rw [e]; simp) (by simp <;> omega) hn (by omega) hb)
      simp only [qob.l0]
      rw [if_pos b1, if_pos b2, if_pos b3, rx.out, key_some, key_some, someBind, someBind, if_neg h, wadd (by omega)]
theorem below (l : List Nat) (v : Nat) (hl : l.length ≤ 4611686018427387904) : Ev (fun k => qob.f k l v) ((cnt l v : Nat) : Int) :=
  Ev.congr (fun k => rfl) (below_l0 (v := v) l [] l 0 l.length 0 rfl rfl rfl rfl hl)
def Wd (x : Int) : Prop := 0 ≤ x ∧ x < 18446744073709551616
theorem Wd.of {x : Int} (h : (Lit.int .u64 x).wf = true) : Wd x := by
  simp only [Lit.wf, IntKind.min, IntKind.max, IntKind.signed, IntKind.bits, Bool.and_eq_true, decide_eq_true_eq, if_false, Bool.false_eq_true] at h
  unfold Wd
  omega
def nats (l : List Int) : List Nat := l.map Int.toNat
theorem nats_lt {l : List Int} (hw : ∀ x ∈ l, Wd x) : ∀ x ∈ nats l, x < 18446744073709551616 := by
  intro x hx
  obtain ⟨y, hy, rfl⟩ := List.mem_map.1 hx
  have := hw y hy
  unfold Wd at this
  omega
theorem rd_atI {l p s : List Int} {x : Int} {i : Nat} (e : l = p ++ x :: s) (hi : i = p.length) : rd l (i : Int) = x := by
  subst e; subst hi
  unfold rd
  rw [Int.toNat_natCast, List.getD_eq_getElem?_getD]; simp
theorem list_l0 : ∀ (q p l : List Int) (i : Nat), l = p ++ q → i = p.length → l.length < 17592186044416 → Ev (fun k => qt0l.l0 k l (nats p) i) (nats l) := by
  intro q
  induction q with
  | nil =>
    intro p l i e hi hb
    rw [List.append_nil] at e
    subst e
    refine Ev.step (fun k => ?_) (Ev.now _)
    simp only [qt0l.l0]
    rw [if_neg (by omega)]
  | cons x q ih =>
    intro p l i e hi hb
    have hll : l.length = p.length + 1 + q.length := by rw [e]; simp <;> omega
    have rx : Zs (rd l (i : Int) = x) := ⟨rd_atI e hi⟩
    have hpl : (nats p).length = p.length := List.length_map _
    refine Ev.step (fun k => ?_) (ih (p ++ [x]) l (i + 1) (by rw [e]; simp) (by simp <;> omega) hb)
    simp only [qt0l.l0]
    rw [if_pos (by omega), if_pos (by omega), if_pos (by omega), rx.out, wadd (by omega)]
    unfold nats
    rw [List.map_append]; rfl
theorem list_ev (l : List Int) (hl : l.length < 17592186044416) : Ev (fun k => qt0l.f k l) (nats l) :=
  Ev.congr (fun k => rfl) (list_l0 l [] l 0 rfl rfl hl)
theorem split_at (l : List Nat) (i : Nat) (h : i ≤ l.length) : ∃ c d, l = c ++ d ∧ c.length = i := ⟨l.take i, l.drop i, (List.take_append_drop i l).symm, by rw [List.length_take]; omega⟩
theorem split_mid (l : List Nat) (i : Nat) (h : i < l.length) : ∃ c z d, l = c ++ z :: d ∧ c.length = i := by
  obtain ⟨c, d, e, hc⟩ := split_at l i (by omega)
  cases d with
  | nil => rw [e] at h; simp at h; omega
  | cons z d => exact ⟨c, z, d, e, hc⟩
theorem split_last (l : List Nat) (h : 0 < l.length) : ∃ c z, l = c ++ [z] := by
  rcases List.eq_nil_or_concat l with h0 | ⟨c, z, h0⟩
  · rw [h0] at h; simp at h
  · exact ⟨c, z, by rw [h0, List.concat_eq_append]⟩

theorem sm_l1 {x : Nat} {w : List Nat} : ∀ (v A l : List Nat) (j i : Nat), l = A ++ x :: (v ++ w) → j = A.length → i = A.length + v.length + 1 → l.length ≤ 1152921504606846976 →
    Ev (fun k => qssmcff6.l1 k l i j) (A ++ v ++ x :: w) := by
  intro v
  induction v with
  | nil =>
    intro A l j i e hj hi hl
    have hll : l.length = A.length + 1 + w.length := by rw [e]; simp <;> omega
    refine Ev.step (fun k => ?_) (Ev.now _)
    simp only [qssmcff6.l1]
    rw [hi, wpre (by simp <;> omega), if_neg (by simp <;> omega), e]; simp
  | cons y v ih =>
    intro A l j i e hj hi hl
    have hll : l.length = A.length + 2 + v.length + w.length := by rw [e]; simp <;> omega
    have e1 : l = A ++ x :: ([] ++ y :: (v ++ w)) := by rw [e]; simp
    have IH := ih (A ++ [y]) (A ++ y :: ([] ++ x :: (v ++ w))) (j + 1) i (by simp) (by simp <;> omega) (by simp at hi ⊢; omega) (by simp at hll ⊢; omega)
    obtain ⟨i', rfl⟩ : ∃ i', i = i' + 1 := ⟨i - 1, by omega⟩
    have hi' : i' = A.length + v.length + 1 := by simp at hi; omega
    have e2 := Zs.mk (wpre (i := i') (by omega))
    have e3 := Zs.mk (wadd (i := j) (by omega))
    have b1 : (j : Int) < (i' : Int) := by omega
    have b2 : (0 : Int) ≤ ((j + 1 : Nat) : Int) := by omega
    have b3 : ((j + 1 : Nat) : Int) < (l.length : Int) := by omega
    have b4 : (0 : Int) ≤ (j : Int) := by omega
    have b5 : (j : Int) < (l.length : Int) := by omega
    have sw := swap_at (i := j) (j := j + 1) e1 hj (by simp <;> omega)
    refine evTo (by simp) (Ev.step (fun k => ?_) IH)
    simp only [qssmcff6.l1]
    rw [e2.out, e3.out, if_pos b1, if_pos b2, if_pos b3, if_pos b4, if_pos b5, Int.toNat_natCast, Int.toNat_natCast, sw]
theorem sm_l0 {x : Nat} {p s l : List Nat} {a : Nat} (ha : a = p.length) (hl : l.length ≤ 1152921504606846976) : ∀ (n : Nat) (v1 vm v2 : List Nat) (i j : Nat), vm.length ≤ n → l = p ++ x :: (v1 ++ vm ++ v2) ++ s → i = p.length + 1 + v1.length → j = i + vm.length →
    Rises kf (v1 ++ vm ++ v2) → (∀ z ∈ v1, kf z < kf x) → (∀ z ∈ v2, kf x ≤ kf z) →
    Ev (fun k => qssmcff6.l0 k l a i j) (p ++ msort kf (x :: (v1 ++ vm ++ v2)) ++ s) := by
  intro n
  induction n with
  | zero =>
    intro v1 vm v2 i j hn e hi hj hr h1 h2
    have hvm : vm = [] := List.length_eq_zero_iff.1 (by omega)
    subst hvm
    have em : msort kf (x :: (v1 ++ [] ++ v2)) = v1 ++ x :: v2 := by
      rw [List.append_nil] at hr ⊢
      refine (msort_eq ?_ ?_).symm
      · rw [show x :: (v1 ++ v2) = ([x] ++ v1) ++ v2 by simp, show v1 ++ x :: v2 = (v1 ++ [x]) ++ v2 by simp]
        exact Stab.append (Stab.swap fun z hz y hy hk => by
          rw [List.mem_singleton.1 hz] at hk
          have := h1 y hy; omega) (Stab.refl _)
      · refine hr.left.append (List.pairwise_cons.2 ⟨h2, hr.right⟩) fun z hz y hy => ?_
        have := h1 z hz
        rcases List.mem_cons.1 hy with rfl | hy
        · omega
        · have := h2 y hy; omega
    have hll : l.length = p.length + 1 + v1.length + v2.length + s.length := by rw [e]; simp <;> omega
    rw [em]
    refine evTo (r' := p ++ v1 ++ x :: (v2 ++ s)) (by simp) (Ev.step (fun k => ?_) (sm_l1 (x := x) (w := v2 ++ s) v1 p l a i (by rw [e]; simp) ha (by omega) hl))
    simp only [qssmcff6.l0]
    rw [if_neg (by simp at hj; omega)]
  | succ n ih =>
    intro v1 vm v2 i j hn e hi hj hr h1 h2
    by_cases h0 : vm.length = 0
    · exact ih v1 vm v2 i j (by omega) e hi hj hr h1 h2
    · have hll : l.length = p.length + 1 + v1.length + vm.length + v2.length + s.length := by rw [e]; simp <;> omega
      obtain ⟨c, z, d, rfl, hc⟩ := split_mid vm ((i + j) / 2 - i) (by omega)
      have hvm : c.length + d.length + 1 ≤ n + 1 := by simp at hn; omega
      have hj' : j = i + c.length + d.length + 1 := by simp at hj; omega
      have hll' : l.length = p.length + 1 + v1.length + c.length + 1 + d.length + v2.length + s.length := by rw [e]; simp <;> omega
      have hh : (i + j) / 2 = i + c.length := by omega
      have rz : Zs (rdOf (0 : Nat) l ((i + c.length : Nat) : Int) = z) := ⟨rd_at (p := p ++ x :: (v1 ++ c)) (s := d ++ v2 ++ s) (by rw [e]; simp) (by simp <;> omega)⟩
      have rx : Zs (rdOf (0 : Nat) l (a : Int) = x) := ⟨rd_at (p := p) (s := v1 ++ (c ++ z :: d) ++ v2 ++ s) (by rw [e]; simp) ha⟩
      have ew := Zs.mk (whalf (a := i) (b := j) (by omega))
      replace ew := Zs.mk (by have h_ := ew.out; rw [hh] at h_; exact h_)
      have b1 : (i : Int) < (j : Int) := by omega
      have b2 : (0 : Int) ≤ ((i + c.length : Nat) : Int) := by omega
      have b3 : ((i + c.length : Nat) : Int) < (l.length : Int) := by omega
      have b4 : (0 : Int) ≤ (a : Int) := by omega
      have b5 : (a : Int) < (l.length : Int) := by omega
      have hcz : ∀ y ∈ c, kf y ≤ kf z := fun y hy => by
        have := hr.left.right (a := v1) (b := c ++ z :: d)
        exact this.across y hy z (by simp)
      have hzd : ∀ y ∈ d, kf z ≤ kf y := fun y hy => by
        have := (hr.left.right (a := v1) (b := c ++ z :: d)).right
        exact this.head y hy
      by_cases hlt : kf z < kf x
      · have IH := ih (v1 ++ c ++ [z]) d v2 (i + c.length + 1) j (by omega) (by rw [e]; simp) (by simp <;> omega) (by omega) (by simpa using hr)
          (fun y hy => by
            rcases List.mem_append.1 hy with hy | hy
            · rcases List.mem_append.1 hy with hy | hy
              · exact h1 y hy
              · have := hcz y hy; omega
            · rw [List.mem_singleton.1 hy]; exact hlt) h2
        clear ih
        refine evTo (by simp) (Ev.step (fun k => ?_) IH)
        simp only [qssmcff6.l0]
        rw [if_pos b1, ew.out, if_pos b2, if_pos b3, if_pos b4, if_pos b5, rz.out, rx.out, compare_lt hlt, someBind, if_pos (by decide), wadd (by omega)]
      · obtain ⟨t, ht, ht0⟩ := compare_ge (a := z) (b := x) (by omega)
        have IH := ih v1 c (z :: d ++ v2) i (i + c.length) (by omega) (by rw [e]; simp) hi rfl (by simpa using hr) h1
          (fun y hy => by
            rcases List.mem_append.1 hy with hy | hy
            · rcases List.mem_cons.1 hy with rfl | hy
              · omega
              · have := hzd y hy; omega
            · exact h2 y hy)
        clear ih
        refine evTo (by simp) (Ev.step (fun k => ?_) IH)
        simp only [qssmcff6.l0]
        rw [if_pos b1, ew.out, if_pos b2, if_pos b3, if_pos b4, if_pos b5, rz.out, rx.out, ht, someBind, if_neg (by omega)]

theorem sm_l3 {y : Nat} {A : List Nat} {i : Nat} (hi : i = A.length) : ∀ (n : Nat) (u w l : List Nat) (j : Nat), u.length = n → l = A ++ (u ++ y :: w) → j = A.length + u.length → l.length ≤ 1152921504606846976 →
    Ev (fun k => qssmcff6.l3 k l i j) (A ++ y :: (u ++ w)) := by
  intro n
  induction n with
  | zero =>
    intro u w l j hu e hj hl
    have hu0 : u = [] := List.length_eq_zero_iff.1 hu
    subst hu0
    refine Ev.step (fun k => ?_) (Ev.now _)
    simp only [qssmcff6.l3]
    rw [if_neg (by simp at hj; omega), e]; simp
  | succ n ih =>
    intro u w l j hu e hj hl
    obtain ⟨u', z, rfl⟩ := split_last u (by omega)
    have hu' : u'.length = n := by simpa using hu
    have hll : l.length = A.length + u'.length + 2 + w.length := by rw [e]; simp <;> omega
    obtain ⟨j', rfl⟩ : ∃ j', j = j' + 1 := ⟨j - 1, by rw [hj]; simp <;> omega⟩
    have hj' : j' = A.length + u'.length := by simp at hj; omega
    have e1 : l = (A ++ u') ++ z :: ([] ++ y :: w) := by rw [e]; simp
    have IH := ih u' (z :: w) ((A ++ u') ++ y :: ([] ++ z :: w)) j' hu' (by simp) hj' (by simp at hll ⊢; omega)
    clear ih
    have e2 := Zs.mk (wpre (i := j') (by omega))
    have b1 : ((j' + 1 : Nat) : Int) > (i : Int) := by omega
    have b2 : (0 : Int) ≤ (j' : Int) := by omega
    have b3 : (j' : Int) < (l.length : Int) := by omega
    have b4 : (0 : Int) ≤ ((j' + 1 : Nat) : Int) := by omega
    have b5 : ((j' + 1 : Nat) : Int) < (l.length : Int) := by omega
    have sw := swap_at' (i := j') (j := j' + 1) e1 (by simp <;> omega) (by simp <;> omega)
    refine evTo (by simp) (Ev.step (fun k => ?_) IH)
    simp only [qssmcff6.l3]
    rw [if_pos b1, e2.out, if_pos b2, if_pos b3, if_pos b4, if_pos b5, Int.toNat_natCast, Int.toNat_natCast, sw]
theorem sm_l2 {y : Nat} {p s l : List Nat} {m : Nat} (hl : l.length ≤ 1152921504606846976) : ∀ (n : Nat) (u1 um u2 : List Nat) (i j : Nat), um.length ≤ n → l = p ++ (u1 ++ um ++ u2) ++ y :: s → m = p.length + (u1.length + um.length + u2.length) → i = p.length + u1.length → j = i + um.length →
    Rises kf (u1 ++ um ++ u2) → (∀ z ∈ u1, kf z ≤ kf y) → (∀ z ∈ u2, kf y < kf z) →
    Ev (fun k => qssmcff6.l2 k l m i j) (p ++ msort kf ((u1 ++ um ++ u2) ++ [y]) ++ s) := by
  intro n
  induction n with
  | zero =>
    intro u1 um u2 i j hn e hm hi hj hr h1 h2
    have hum : um = [] := List.length_eq_zero_iff.1 (by omega)
    subst hum
    have em : msort kf ((u1 ++ [] ++ u2) ++ [y]) = u1 ++ y :: u2 := by
      rw [List.append_nil] at hr ⊢
      refine (msort_eq ?_ ?_).symm
      · rw [List.append_assoc]
        exact (Stab.refl _).append (Stab.swap (v := [y]) fun z hz x hx hk => by
          rw [List.mem_singleton.1 hx] at hk
          have := h2 z hz; omega)
      · refine hr.left.append (List.pairwise_cons.2 ⟨fun z hz => Int.le_of_lt (h2 z hz), hr.right⟩) fun z hz x hx => ?_
        have := h1 z hz
        rcases List.mem_cons.1 hx with rfl | hx
        · omega
        · have := h2 x hx; omega
    have hll : l.length = p.length + u1.length + u2.length + 1 + s.length := by rw [e]; simp <;> omega
    rw [em]
    refine evTo (r' := (p ++ u1) ++ y :: (u2 ++ s)) (by simp) (Ev.step (fun k => ?_) (sm_l3 (y := y) (A := p ++ u1) (i := i) (by simp <;> omega) u2.length u2 s l m rfl (by rw [e]; simp) (by simp at hm ⊢; omega) hl))
    simp only [qssmcff6.l2]
    rw [if_neg (by simp at hj; omega)]
  | succ n ih =>
    intro u1 um u2 i j hn e hm hi hj hr h1 h2
    by_cases h0 : um.length = 0
    · exact ih u1 um u2 i j (by omega) e hm hi hj hr h1 h2
    · obtain ⟨c, z, d, rfl, hc⟩ := split_mid um ((i + j) / 2 - i) (by omega)
      have hum : c.length + d.length + 1 ≤ n + 1 := by simp at hn; omega
      have hj' : j = i + c.length + d.length + 1 := by simp at hj; omega
      have hm' : m = p.length + (u1.length + c.length + 1 + d.length + u2.length) := by simp at hm; omega
      have hll' : l.length = m + 1 + s.length := by rw [e]; simp <;> omega
      have hh : (i + j) / 2 = i + c.length := by omega
      have rz : Zs (rdOf (0 : Nat) l ((i + c.length : Nat) : Int) = z) := ⟨rd_at (p := p ++ (u1 ++ c)) (s := d ++ u2 ++ y :: s) (by rw [e]; simp) (by simp <;> omega)⟩
      have ry : Zs (rdOf (0 : Nat) l (m : Int) = y) := ⟨rd_at (p := p ++ (u1 ++ (c ++ z :: d) ++ u2)) (s := s) e (by simp <;> omega)⟩
      have ew := Zs.mk (whalf (a := i) (b := j) (by omega))
      replace ew := Zs.mk (by have h_ := ew.out; rw [hh] at h_; exact h_)
      have b1 : (i : Int) < (j : Int) := by omega
      have b2 : (0 : Int) ≤ ((i + c.length : Nat) : Int) := by omega
      have b3 : ((i + c.length : Nat) : Int) < (l.length : Int) := by omega
      have b4 : (0 : Int) ≤ (m : Int) := by omega
      have b5 : (m : Int) < (l.length : Int) := by omega
      have hcz : ∀ x ∈ c, kf x ≤ kf z := fun x hx => by
        have := hr.left.right (a := u1) (b := c ++ z :: d)
        exact this.across x hx z (by simp)
      have hzd : ∀ x ∈ d, kf z ≤ kf x := fun x hx => by
        have := (hr.left.right (a := u1) (b := c ++ z :: d)).right
        exact this.head x hx
      by_cases hlt : kf y < kf z
      · have IH := ih u1 c (z :: d ++ u2) i (i + c.length) (by omega) (by rw [e]; simp) (by simp <;> omega) hi rfl (by simpa using hr) h1
          (fun x hx => by
            rcases List.mem_append.1 hx with hx | hx
            · rcases List.mem_cons.1 hx with rfl | hx
              · exact hlt
              · have := hzd x hx; omega
            · exact h2 x hx)
        clear ih
        refine evTo (by simp) (Ev.step (fun k => ?_) IH)
        simp only [qssmcff6.l2]
        rw [if_pos b1, if_pos b4, if_pos b5, ew.out, if_pos b2, if_pos b3, rz.out, ry.out, compare_lt hlt, someBind, if_pos (by decide)]
      · obtain ⟨t, ht, ht0⟩ := compare_ge (a := y) (b := z) (by omega)
        have IH := ih (u1 ++ c ++ [z]) d u2 (i + c.length + 1) j (by omega) (by rw [e]; simp) (by simp <;> omega) (by simp <;> omega) (by omega) (by simpa using hr)
          (fun x hx => by
            rcases List.mem_append.1 hx with hx | hx
            · rcases List.mem_append.1 hx with hx | hx
              · exact h1 x hx
              · have := hcz x hx; omega
            · rw [List.mem_singleton.1 hx]; omega) h2
        clear ih
        refine evTo (by simp) (Ev.step (fun k => ?_) IH)
        simp only [qssmcff6.l2]
        rw [if_pos b1, if_pos b4, if_pos b5, ew.out, if_pos b2, if_pos b3, rz.out, ry.out, ht, someBind, if_neg (by omega), wadd (by omega)]

def gk (l : List Nat) (i : Nat) : Int := kf (l.getD i 0)
theorem sm_l4 {l : List Nat} {a m b mid n s0 r0 : Nat} {res : List Nat} (hr : r0 ≤ n) (hrl : r0 ≤ l.length) (hn : n ≤ s0 + l.length) (hl : l.length ≤ 1152921504606846976) (hn1 : 1 ≤ n) (hnn : n ≤ 2305843009213693952)
    (fin : ∀ st : Nat, s0 ≤ st → st ≤ r0 → (st = s0 ∨ gk l (st - 1) ≤ gk l (n - st)) → (st = r0 ∨ gk l (n - 1 - st) < gk l st) →
      Ev (fun k => if (st : Int) < (m : Int) then qssmcff6.j6 k l a m b mid st (wrap64 ((n : Int) - (st : Int))) (decide ((m : Int) < wrap64 ((n : Int) - (st : Int)))) else qssmcff6.j6 k l a m b mid st (wrap64 ((n : Int) - (st : Int))) false) res) :
    ∀ (d st r : Nat), r - st ≤ d → s0 ≤ st → st ≤ r → r ≤ r0 → (st = s0 ∨ gk l (st - 1) ≤ gk l (n - st)) → (r = r0 ∨ gk l (n - 1 - r) < gk l r) →
      Ev (fun k => qssmcff6.l4 k l a m b mid n st r ((n - 1 : Nat) : Int)) res := by
  intro d
  induction d with
  | zero =>
    intro st r hd h0 h1 h2 h3 h4
    have : st = r := by omega
    subst this
    refine Ev.step (fun k => ?_) (fin st h0 h2 h3 h4)
    simp only [qssmcff6.l4]
    rw [if_neg (Int.lt_irrefl _)]
  | succ d ih =>
    intro st r hd h0 h1 h2 h3 h4
    by_cases hs : st = r
    · exact ih st r (by omega) h0 h1 h2 h3 h4
    · obtain ⟨c, hc⟩ : ∃ c, (st + r) / 2 = c := ⟨_, rfl⟩
      have hc1 : st ≤ c := by omega
      have hc2 : c < r := by omega
      have ew := Zs.mk (whalf (a := st) (b := r) (by omega))
      replace ew := Zs.mk (by have h_ := ew.out; rw [hc] at h_; exact h_)
      have ed := Zs.mk (wdif (a := n - 1) (b := c) (by omega) (by omega))
      have b1 : (st : Int) < (r : Int) := by omega
      have b2 : (0 : Int) ≤ ((n - 1 - c : Nat) : Int) := by omega
      have b3 : ((n - 1 - c : Nat) : Int) < (l.length : Int) := by omega
      have b4 : (0 : Int) ≤ (c : Int) := by omega
      have b5 : (c : Int) < (l.length : Int) := by omega
      by_cases hlt : gk l (n - 1 - c) < gk l c
      · have IH := ih st c (by omega) h0 hc1 (by omega) h3 (.inr hlt)
        clear ih
        refine Ev.step (fun k => ?_) IH
        simp only [qssmcff6.l4]
        rw [if_pos b1, ew.out, ed.out, if_pos b2, if_pos b3, if_pos b4, if_pos b5, rdN, rdN, compare_lt hlt, someBind, if_pos (by decide)]
      · obtain ⟨t, ht, ht0⟩ := compare_ge (a := l.getD (n - 1 - c) 0) (b := l.getD c 0) (by unfold gk at hlt; omega)
        have IH := ih (c + 1) r (by omega) (by omega) (by omega) h2 (.inr (by
          rw [Nat.add_sub_cancel, show n - (c + 1) = n - 1 - c by omega]; omega)) h4
        clear ih
        refine Ev.step (fun k => ?_) IH
        simp only [qssmcff6.l4]
        rw [if_pos b1, ew.out, ed.out, if_pos b2, if_pos b3, if_pos b4, if_pos b5, rdN, rdN, ht, someBind, if_neg (by omega), wadd (by omega)]

theorem gk_at {l p s : List Nat} {x i : Nat} (e : l = p ++ x :: s) (hi : i = p.length) : gk l i = kf x := by
  unfold gk
  rw [← rdN, rd_at e hi]
theorem cut_parts {p u1 u2 v1 v2 s l : List Nat} {st e : Nat} (hl : l = p ++ (u1 ++ u2) ++ (v1 ++ v2) ++ s) (hst : st = p.length + u1.length) (he : e = p.length + (u1.length + u2.length) + v1.length)
    (hu : Rises kf (u1 ++ u2)) (hv : Rises kf (v1 ++ v2)) (h3 : u1 = [] ∨ v2 = [] ∨ gk l (st - 1) ≤ gk l e) (h4 : u2 = [] ∨ v1 = [] ∨ gk l (e - 1) < gk l st) :
    (∀ x ∈ u1, ∀ y ∈ v2, kf x ≤ kf y) ∧ (∀ x ∈ u2, ∀ y ∈ v1, kf y < kf x) := by
  constructor
  · intro x hx y hy
    rcases h3 with h | h | h
    · rw [h] at hx; cases hx
    · rw [h] at hy; cases hy
    · obtain ⟨c, x0, rfl⟩ := split_last u1 (List.length_pos_of_mem hx)
      obtain ⟨y0, d, rfl⟩ := List.exists_cons_of_ne_nil (List.ne_nil_of_mem hy)
      rw [gk_at (i := st - 1) (p := p ++ c) (x := x0) (s := u2 ++ (v1 ++ y0 :: d) ++ s) (by rw [hl]; simp) (by rw [hst]; simp <;> omega), gk_at (i := e) (p := p ++ (c ++ [x0] ++ u2) ++ v1) (x := y0) (s := d ++ s) (by rw [hl]; simp) (by rw [he]; simp <;> omega)] at h
      have hx0 : kf x ≤ kf x0 := by
        rcases List.mem_append.1 hx with hx | hx
        · exact hu.left.across x hx x0 (by simp)
        · rw [List.mem_singleton.1 hx]; omega
      have hy0 : kf y0 ≤ kf y := by
        rcases List.mem_cons.1 hy with rfl | hy
        · omega
        · exact hv.right.head y hy
      omega
  · intro x hx y hy
    rcases h4 with h | h | h
    · rw [h] at hx; cases hx
    · rw [h] at hy; cases hy
    · obtain ⟨c, y0, rfl⟩ := split_last v1 (List.length_pos_of_mem hy)
      obtain ⟨x0, d, rfl⟩ := List.exists_cons_of_ne_nil (List.ne_nil_of_mem hx)
      rw [gk_at (i := st) (p := p ++ u1) (x := x0) (s := d ++ (c ++ [y0] ++ v2) ++ s) (by rw [hl]; simp) (by rw [hst]; simp), gk_at (i := e - 1) (p := p ++ (u1 ++ x0 :: d) ++ c) (x := y0) (s := v2 ++ s) (by rw [hl]; simp) (by rw [he]; simp <;> omega)] at h
      have hy0 : kf y ≤ kf y0 := by
        rcases List.mem_append.1 hy with hy | hy
        · exact hv.left.across y hy y0 (by simp)
        · rw [List.mem_singleton.1 hy]; omega
      have hx0 : kf x0 ≤ kf x := by
        rcases List.mem_cons.1 hx with rfl | hx
        · omega
        · exact hu.right.head x hx
      omega

def Merges (N : Nat) : Prop := ∀ (u v p s l : List Nat) (a m b : Nat), u.length + v.length ≤ N → l = p ++ u ++ v ++ s → a = p.length → m = p.length + u.length → b = p.length + u.length + v.length → Rises kf u → Rises kf v → 0 < u.length → 0 < v.length → l.length ≤ 288230376151711744 →
  Ev (fun k => qssmcff6.f k l a m b) (p ++ msort kf (u ++ v) ++ s)
theorem sm_right {N : Nat} (ih : Merges N) {X u2 v2 s l : List Nat} {mid e b : Nat} (hl : l = X ++ (u2 ++ v2) ++ s) (hX : mid = X.length) (he : e = mid + u2.length) (hb : b = e + v2.length) (hu : Rises kf u2) (hv : Rises kf v2) (hN : u2.length + v2.length ≤ N) (hll : l.length ≤ 288230376151711744) :
    Ev (fun k => if (mid : Int) < (e : Int) then (if (e : Int) < (b : Int) then ((qssmcff6.f k l mid e b).bind fun t => (some t)) else (some l)) else (some l)) (X ++ msort kf (u2 ++ v2) ++ s) := by
  by_cases h1 : mid < e
  · by_cases h2 : e < b
    · refine Ev.congr (fun k => ?_) (Ev.bind (f := fun _ t => some t) (ih u2 v2 X s l mid e b hN (by rw [hl]; simp) hX (by omega) (by omega) hu hv (by omega) (by omega) hll) (Ev.now _))
      rw [if_pos (by omega), if_pos (by omega)]
    · have : v2 = [] := List.length_eq_zero_iff.1 (by omega)
      subst this
      refine evTo (r' := l) (by rw [hl, List.append_nil, msort_of_rises hu]) (Ev.congr (fun k => ?_) (Ev.now _))
      rw [if_pos (by omega), if_neg (by omega)]
  · have : u2 = [] := List.length_eq_zero_iff.1 (by omega)
    subst this
    refine evTo (r' := l) (by rw [hl, List.nil_append, msort_of_rises hv]) (Ev.congr (fun k => ?_) (Ev.now _))
    rw [if_neg (by omega)]
theorem sm_j7 {N : Nat} (ih : Merges N) {p u1 u2 v1 v2 s l : List Nat} {a mid st e b : Nat} (hl : l = p ++ (u1 ++ v1) ++ (u2 ++ v2) ++ s) (ha : a = p.length) (hst : st = a + u1.length) (hmid : mid = st + v1.length) (he : e = mid + u2.length) (hb : b = e + v2.length)
    (hu : Rises kf (u1 ++ u2)) (hv : Rises kf (v1 ++ v2)) (hc : (∀ x ∈ u1, ∀ y ∈ v2, kf x ≤ kf y) ∧ (∀ x ∈ u2, ∀ y ∈ v1, kf y < kf x)) (hN1 : u1.length + v1.length ≤ N) (hN2 : u2.length + v2.length ≤ N) (hll : l.length ≤ 288230376151711744) :
    Ev (fun k => qssmcff6.j7 k l a b mid st e) (p ++ msort kf ((u1 ++ u2) ++ (v1 ++ v2)) ++ s) := by
  have hlen : l.length = p.length + u1.length + v1.length + u2.length + v2.length + s.length := by rw [hl]; simp <;> omega
  have hm1 := length_msort (key := kf) (u1 ++ v1)
  obtain ⟨L2, hL2⟩ : ∃ L2, L2 = (p ++ msort kf (u1 ++ v1)) ++ (u2 ++ v2) ++ s := ⟨_, rfl⟩
  have R := sm_right ih (X := p ++ msort kf (u1 ++ v1)) (l := L2) (mid := mid) (e := e) (b := b) hL2 (by rw [List.length_append, hm1, List.length_append]; omega) he hb hu.right hv.right hN2 (by
    rw [hL2]; simp only [List.length_append, hm1]; omega)
  have em := merge_parts hu hv hc.1 hc.2
  have R2 := evTo (r := p ++ msort kf ((u1 ++ u2) ++ (v1 ++ v2)) ++ s) (by rw [← em]; simp) R
  by_cases h : a < st ∧ st < mid
  · refine Ev.step (f := fun k => qssmcff6.j8 k l a b mid st e true) (fun k => ?_) (Ev.step (fun k => ?_) (Ev.bind
      (f := fun k t => if (mid : Int) < (e : Int) then (if (e : Int) < (b : Int) then ((qssmcff6.f k t mid e b).bind fun t => (some t)) else (some t)) else (some t))
      (ih u1 v1 p (u2 ++ v2 ++ s) l a st mid hN1 (by rw [hl]; simp) ha (by omega) (by omega) hu.left hv.left (by omega) (by omega) hll) ?_))
    · simp only [qssmcff6.j7]
      rw [if_pos (by omega), decide_eq_true (by omega)]
    · simp only [qssmcff6.j8]
      rw [if_pos (by simp)]
    · rw [show p ++ msort kf (u1 ++ v1) ++ (u2 ++ v2 ++ s) = L2 by rw [hL2]; simp]
      exact R2
  · have hl2 : l = L2 := by
      rw [hl, hL2]
      have : msort kf (u1 ++ v1) = u1 ++ v1 := by
        by_cases h1 : a < st
        · have hv1 : v1 = [] := List.length_eq_zero_iff.1 (by omega)
          rw [hv1, List.append_nil]; exact msort_of_rises hu.left
        · have hu1 : u1 = [] := List.length_eq_zero_iff.1 (by omega)
          rw [hu1, List.nil_append]; exact msort_of_rises hv.left
      rw [this]
    rw [← hl2] at R2
    refine Ev.step (f := fun k => qssmcff6.j8 k l a b mid st e false) (fun k => ?_) (Ev.step (fun k => ?_) R2)
    · simp only [qssmcff6.j7]
      by_cases h1 : a < st
      · rw [if_pos (by omega), decide_eq_false (by omega)]
      · rw [if_neg (by omega)]
    · simp only [qssmcff6.j8]
      rw [if_neg (by simp)]
theorem sm_j6 {N : Nat} (ih : Merges N) {p u1 u2 v1 v2 s l : List Nat} {a m mid st e b : Nat} (hl : l = p ++ (u1 ++ u2) ++ (v1 ++ v2) ++ s) (ha : a = p.length) (hst : st = a + u1.length) (hm : m = st + u2.length) (hmid : mid = st + v1.length) (he : e = mid + u2.length) (hb : b = e + v2.length)
    (hu : Rises kf (u1 ++ u2)) (hv : Rises kf (v1 ++ v2)) (hc : (∀ x ∈ u1, ∀ y ∈ v2, kf x ≤ kf y) ∧ (∀ x ∈ u2, ∀ y ∈ v1, kf y < kf x)) (hN1 : u1.length + v1.length ≤ N) (hN2 : u2.length + v2.length ≤ N) (hll : l.length ≤ 288230376151711744) :
    Ev (fun k => if (st : Int) < (m : Int) then qssmcff6.j6 k l a m b mid st e (decide ((m : Int) < (e : Int))) else qssmcff6.j6 k l a m b mid st e false) (p ++ msort kf ((u1 ++ u2) ++ (v1 ++ v2)) ++ s) := by
  have hlen : l.length = p.length + u1.length + v1.length + u2.length + v2.length + s.length := by rw [hl]; simp <;> omega
  obtain ⟨L1, hL1⟩ : ∃ L1, L1 = p ++ (u1 ++ v1) ++ (u2 ++ v2) ++ s := ⟨_, rfl⟩
  have R := sm_j7 ih (l := L1) hL1 ha hst hmid he hb hu hv hc hN1 hN2 (by rw [hL1]; simp <;> omega)
  by_cases h : st < m ∧ m < e
  · have X := rot (P := p ++ u1) (u := u2) (v := v1) (Q := v2 ++ s) (l := l) (a := st) (m := m) (b := e) (by rw [hl]; simp) (by simp <;> omega) (by simp <;> omega) (by simp <;> omega) (by omega) (by omega) (by omega)
    rw [show p ++ u1 ++ v1 ++ u2 ++ (v2 ++ s) = L1 by rw [hL1]; simp] at X
    refine Ev.congr (g := fun k => _) (f := fun k => qssmcff6.j6 k l a m b mid st e true) (fun k => ?_) (Ev.step (fun k => ?_) (Ev.bind (f := fun k t => qssmcff6.j7 k t a b mid st e) X R))
    · rw [if_pos (by omega), decide_eq_true (by omega)]
    · simp only [qssmcff6.j6]
      rw [if_pos (by simp)]
  · have hl1 : l = L1 := by
      rw [hl, hL1]
      by_cases h1 : st < m
      · have hv1 : v1 = [] := List.length_eq_zero_iff.1 (by omega)
        rw [hv1]; simp
      · have hu2 : u2 = [] := List.length_eq_zero_iff.1 (by omega)
        rw [hu2]; simp
    rw [← hl1] at R
    refine Ev.congr (g := fun k => _) (f := fun k => qssmcff6.j6 k l a m b mid st e false) (fun k => ?_) (Ev.step (fun k => ?_) R)
    · by_cases h1 : st < m
      · rw [if_pos (by omega), decide_eq_false (by omega)]
      · rw [if_neg (by omega)]
    · simp only [qssmcff6.j6]
      rw [if_neg (by simp)]
theorem merges : ∀ N, Merges N := by
  intro N
  induction N with
  | zero => intro u v p s l a m b hN hl ha hm hb hu hv h0 h1 hll; omega
  | succ N ih =>
    intro u v p s l a m b hN hl ha hm hb hu hv h0 h1 hll
    have hlen : l.length = p.length + u.length + v.length + s.length := by rw [hl]; simp <;> omega
    have e1 := Zs.mk (wdif (a := m) (b := a) (by omega) (by omega))
    have e2 := Zs.mk (wdif (a := b) (b := m) (by omega) (by omega))
    by_cases hnu : u.length = 1
    · obtain ⟨x, rfl⟩ := List.length_eq_one_iff.1 hnu
      refine Ev.step (fun k => ?_) (sm_l0 (x := x) (p := p) (s := s) (l := l) (a := a) ha (by omega) v.length [] v [] m b (Nat.le_refl _) (by rw [hl]; simp) (by simp <;> omega) (by simp at hm; omega) (by simpa using hv) (by simp) (by simp)) |> evTo (by simp)
      simp only [qssmcff6.f]
      rw [e1.out, if_pos (by omega)]
    · by_cases hnv : v.length = 1
      · obtain ⟨y, rfl⟩ := List.length_eq_one_iff.1 hnv
        refine Ev.step (fun k => ?_) (sm_l2 (y := y) (p := p) (s := s) (l := l) (m := m) (by omega) u.length [] u [] a m (Nat.le_refl _) (by rw [hl]; simp) (by simp <;> omega) (by simp <;> omega) (by omega) (by simpa using hu) (by simp) (by simp)) |> evTo (by simp)
        simp only [qssmcff6.f]
        rw [e1.out, if_neg (by omega), e2.out, if_pos (by omega)]
      · obtain ⟨mid, hmid⟩ : ∃ mid, (a + b) / 2 = mid := ⟨_, rfl⟩
        have ew := Zs.mk (whalf (a := a) (b := b) (by omega))
        replace ew := Zs.mk (by have h_ := ew.out; rw [hmid] at h_; exact h_)
        have en := Zs.mk (wsum (a := mid) (b := m) (by omega))
        have key : ∀ s0 r0 : Nat, ((m > mid ∧ s0 = mid + m - b ∧ r0 = mid) ∨ (¬ m > mid ∧ s0 = a ∧ r0 = m)) →
            Ev (fun k => qssmcff6.l4 k l a m b mid ((mid + m : Nat) : Int) s0 r0 ((mid + m - 1 : Nat) : Int)) (p ++ msort kf (u ++ v) ++ s) := by
          intro s0 r0 hsr
          refine sm_l4 (s0 := s0) (r0 := r0) (by omega) (by omega) (by omega) (by omega) (by omega) (by omega) ?_ (r0 - s0) s0 r0 (Nat.le_refl _) (Nat.le_refl _) (by omega) (Nat.le_refl _) (.inl rfl) (.inl rfl)
          intro st hs0 hsr0 h3 h4
          rw [wdif (a := mid + m) (b := st) (by omega) (by omega)]
          obtain ⟨u1, u2, rfl, hu1⟩ := split_at u (st - a) (by omega)
          obtain ⟨v1, v2, rfl, hv1⟩ := split_at v (mid + m - st - m) (by omega)
          simp only [List.length_append] at hm hb hN hlen h0 h1 hnu hnv
          refine sm_j6 ih hl ha (by omega) (by omega) (by omega) (by omega) (by omega) hu hv ?_ (by omega) (by omega) hll
          refine cut_parts (st := st) (e := mid + m - st) hl (by omega) (by omega) hu hv ?_ ?_
          · rcases h3 with h3 | h3
            · rcases hsr with ⟨hm1, hs, hr⟩ | ⟨hm1, hs, hr⟩
              · exact .inr (.inl (List.length_eq_zero_iff.1 (by omega)))
              · exact .inl (List.length_eq_zero_iff.1 (by omega))
            · exact .inr (.inr h3)
          · rcases h4 with h4 | h4
            · rcases hsr with ⟨hm1, hs, hr⟩ | ⟨hm1, hs, hr⟩
              · exact .inr (.inl (List.length_eq_zero_iff.1 (by omega)))
              · exact .inl (List.length_eq_zero_iff.1 (by omega))
            · exact .inr (.inr (by rw [show mid + m - st - 1 = mid + m - 1 - st by omega]; exact h4))
        have ep := Zs.mk (wdif (a := mid + m) (b := 1) (by omega) (by omega))
        by_cases hgt : m > mid
        · have es := wdif (a := mid + m) (b := b) (by omega) (by omega)
          refine Ev.step (f := fun k => qssmcff6.j4 k l a m b mid ((mid + m : Nat) : Int) ((mid + m - b : Nat) : Int) mid) (fun k => ?_) (Ev.step (fun k => ?_) (key _ _ (.inl ⟨hgt, rfl, rfl⟩)))
          · simp only [qssmcff6.f]
            rw [e1.out, if_neg (by omega), e2.out, if_neg (by omega), ew.out, if_pos (by omega), en.out, es]
          · simp only [qssmcff6.j4]
            rw [show (1 : Int) = ((1 : Nat) : Int) from rfl, ep.out]
        · refine Ev.step (f := fun k => qssmcff6.j4 k l a m b mid ((mid + m : Nat) : Int) a m) (fun k => ?_) (Ev.step (fun k => ?_) (key _ _ (.inr ⟨hgt, rfl, rfl⟩)))
          · simp only [qssmcff6.f]
            rw [e1.out, if_neg (by omega), e2.out, if_neg (by omega), ew.out, if_neg (by omega), en.out]
          · simp only [qssmcff6.j4]
            rw [show (1 : Int) = ((1 : Nat) : Int) from rfl, ep.out]
theorem st_l2 {n bs : Nat} {l0 res : List Nat} (hbs : 1 ≤ bs) (hbn : bs < n) (hn : n ≤ 72057594037927936)
    (fin : ∀ l : List Nat, Stab kf l0 l → l.length = n → Runs kf (2 * bs) l → Ev (fun k => qsscff6.l1 k l n ((bs * 2 : Nat) : Int)) res) :
    ∀ (d : Nat) (p q l : List Nat) (c a b : Nat), q.length ≤ d → l = p ++ q → l.length = n → Stab kf l0 l → Runs kf (2 * bs) p → p.length = c * (2 * bs) → Runs kf bs q → a = p.length → b = a + 2 * bs →
      Ev (fun k => qsscff6.l2 k l n bs a b) res := by
  have last : ∀ (p q l : List Nat) (c a b : Nat), l = p ++ q → l.length = n → Stab kf l0 l → Runs kf (2 * bs) p → p.length = c * (2 * bs) → Runs kf bs q → a = p.length → b = a + 2 * bs → ¬ b ≤ n →
      Ev (fun k => qsscff6.l2 k l n bs a b) res := by
    intro p q l c a b e hl hs hp hpc hq ha hb hbn'
    have hlen : l.length = p.length + q.length := by rw [e]; simp
    have ew := Zs.mk (wsum (a := a) (b := bs) (by omega))
    have e2 : Zs (wrap64 ((bs : Int) * 2) = ((bs * 2 : Nat) : Int)) := ⟨w64' (by omega) (by omega)⟩
    by_cases h : a + bs < n
    · obtain ⟨u, v, rfl, hu⟩ := split_at q bs (by omega)
      simp only [List.length_append] at hlen
      rw [Runs.cons hu] at hq
      have M := merges (u.length + v.length) u v p [] l a (a + bs) n (Nat.le_refl _) (by rw [e]; simp) ha (by omega) (by omega) hq.1 (hq.2.all (by omega)) (by omega) (by omega) (by omega)
      have hm := length_msort (key := kf) (u ++ v)
      have F := fin (p ++ msort kf (u ++ v) ++ []) (by rw [List.append_nil]; exact (e ▸ hs).trans ((Stab.refl p).append (stab_msort _))) (by rw [List.append_nil, List.length_append, hm, List.length_append]; omega) (by
        rw [List.append_nil]
        exact hp.snoc hpc (rises_msort _) (by rw [hm, List.length_append]; omega))
      refine Ev.step (fun k => ?_) (Ev.bind (f := fun k t => qsscff6.l1 k t n ((bs * 2 : Nat) : Int)) M F)
      simp only [qsscff6.l2]
      rw [if_neg (by omega), ew.out, if_pos (by omega), e2.out]
    · have F := fin l hs hl (by rw [e]; exact hp.snoc hpc (hq.all (by omega)) (by omega))
      refine Ev.step (fun k => ?_) F
      simp only [qsscff6.l2]
      rw [if_neg (by omega), ew.out, if_neg (by omega), e2.out]
  intro d
  induction d with
  | zero =>
    intro p q l c a b hd e hl hs hp hpc hq ha hb
    have hlen : l.length = p.length + q.length := by rw [e]; simp
    exact last p q l c a b e hl hs hp hpc hq ha hb (by omega)
  | succ d ih =>
    intro p q l c a b hd e hl hs hp hpc hq ha hb
    have hlen : l.length = p.length + q.length := by rw [e]; simp
    by_cases h : b ≤ n
    · obtain ⟨u, q1, rfl, hu⟩ := split_at q bs (by omega)
      simp only [List.length_append] at hlen hd
      obtain ⟨v, q2, rfl, hv⟩ := split_at q1 bs (by omega)
      simp only [List.length_append] at hlen hd
      rw [Runs.cons hu, Runs.cons hv] at hq
      have M := merges (u.length + v.length) u v p q2 l a (a + bs) b (Nat.le_refl _) (by rw [e]; simp) ha (by omega) (by omega) hq.1 hq.2.1 (by omega) (by omega) (by omega)
      have hm := length_msort (key := kf) (u ++ v)
      have IH := ih (p ++ msort kf (u ++ v)) q2 (p ++ msort kf (u ++ v) ++ q2) (c + 1) b (b + 2 * bs) (by omega) rfl (by simp only [List.length_append, hm]; omega)
        ((e ▸ hs).trans (by
          rw [show p ++ (u ++ (v ++ q2)) = p ++ (u ++ v) ++ q2 by simp]
          exact ((Stab.refl p).append (stab_msort _)).append (Stab.refl q2)))
        (hp.snoc hpc (rises_msort _) (by rw [hm, List.length_append]; omega)) (by rw [List.length_append, hm, hpc, List.length_append, Nat.add_mul c 1 (2 * bs), Nat.one_mul]; omega) hq.2.2 (by rw [List.length_append, hm, List.length_append]; omega) rfl
      have ew := Zs.mk (wsum (a := a) (b := bs) (by omega))
      have e2 : Zs (wrap64 (2 * (bs : Int)) = ((2 * bs : Nat) : Int)) := ⟨w64' (by omega) (by omega)⟩
      have e3 := Zs.mk (wsum (a := b) (b := 2 * bs) (by omega))
      refine Ev.step (fun k => ?_) (Ev.bind (f := fun k t => qsscff6.l2 k t n bs b ((b + 2 * bs : Nat) : Int)) M IH)
      simp only [qsscff6.l2]
      rw [if_pos (by omega), ew.out, e2.out, e3.out]
    · exact last p q l c a b e hl hs hp hpc hq ha hb h
theorem st_l1 {n : Nat} {l0 : List Nat} (hn : n ≤ 72057594037927936) : ∀ (d bs : Nat) (l : List Nat), n - bs ≤ d → 1 ≤ bs → Stab kf l0 l → l.length = n → Runs kf bs l → bs ≤ 144115188075855872 →
    Ev (fun k => qsscff6.l1 k l n bs) (msort kf l0) := by
  intro d
  induction d with
  | zero =>
    intro bs l hd hbs hs hl hr hb
    rw [← msort_eq hs (hr.all (by omega))]
    refine Ev.step (fun k => ?_) (Ev.now _)
    simp only [qsscff6.l1]
    rw [if_neg (by omega)]
  | succ d ih =>
    intro bs l hd hbs hs hl hr hb
    by_cases h : bs < n
    · have e2 : wrap64 (2 * (bs : Int)) = ((2 * bs : Nat) : Int) := w64' (by omega) (by omega)
      refine Ev.step (fun k => ?_) (st_l2 (n := n) (bs := bs) (l0 := l0) hbs h hn (fun l' h1 h2 h3 => ih (bs * 2) l' (by omega) (by omega) h1 h2 (by rw [Nat.mul_comm]; exact h3) (by omega)) l.length [] l l 0 0 (2 * bs) (Nat.le_refl _) rfl hl hs (Runs.nil _) (by simp) hr rfl (by omega))
      simp only [qsscff6.l1]
      rw [if_pos (by omega), e2]; rfl
    · rw [← msort_eq hs (hr.all (by omega))]
      refine Ev.step (fun k => ?_) (Ev.now _)
      simp only [qsscff6.l1]
      rw [if_neg (by omega)]
theorem st_l0 {n : Nat} {l0 : List Nat} (hn : n ≤ 72057594037927936) : ∀ (d : Nat) (p q l : List Nat) (c a b : Nat), q.length ≤ d → l = p ++ q → l.length = n → Stab kf l0 l → Runs kf 20 p → p.length = c * 20 → a = p.length → b = a + 20 →
    Ev (fun k => qsscff6.l0 k l n 20 a b) (msort kf l0) := by
  have last : ∀ (p q l : List Nat) (c a b : Nat), l = p ++ q → l.length = n → Stab kf l0 l → Runs kf 20 p → p.length = c * 20 → a = p.length → b = a + 20 → ¬ b ≤ n →
      Ev (fun k => qsscff6.l0 k l n 20 a b) (msort kf l0) := by
    intro p q l c a b e hl hs hp hpc ha hb hbn
    have hlen : l.length = p.length + q.length := by rw [e]; simp
    have I := ins (p := p) (u := q) (s := []) (l := l) (a := a) (b := n) (by rw [e]; simp) ha (by omega) (by omega)
    have hm := length_msort (key := kf) q
    have F := st_l1 (n := n) (l0 := l0) hn n 20 (p ++ msort kf q ++ []) (by omega) (by omega) (by rw [List.append_nil]; exact (e ▸ hs).trans ((Stab.refl p).append (stab_msort q))) (by rw [List.append_nil, List.length_append, hm]; omega)
      (by rw [List.append_nil]; exact hp.snoc hpc (rises_msort _) (by omega)) (by omega)
    refine Ev.step (fun k => ?_) (Ev.bind (f := fun k t => qsscff6.l1 k t n 20) I F)
    simp only [qsscff6.l0]
    rw [if_neg (by omega)]
  intro d
  induction d with
  | zero =>
    intro p q l c a b hd e hl hs hp hpc ha hb
    have hlen : l.length = p.length + q.length := by rw [e]; simp
    exact last p q l c a b e hl hs hp hpc ha hb (by omega)
  | succ d ih =>
    intro p q l c a b hd e hl hs hp hpc ha hb
    have hlen : l.length = p.length + q.length := by rw [e]; simp
    by_cases h : b ≤ n
    · obtain ⟨u, q2, rfl, hu⟩ := split_at q 20 (by omega)
      simp only [List.length_append] at hlen hd
      have I := ins (p := p) (u := u) (s := q2) (l := l) (a := a) (b := b) (by rw [e]; simp) ha (by omega) (by omega)
      have hm := length_msort (key := kf) u
      have IH := ih (p ++ msort kf u) q2 (p ++ msort kf u ++ q2) (c + 1) b (b + 20) (by omega) rfl (by simp only [List.length_append, hm]; omega)
        ((e ▸ hs).trans (by
          rw [show p ++ (u ++ q2) = p ++ u ++ q2 by simp]
          exact ((Stab.refl p).append (stab_msort _)).append (Stab.refl q2)))
        (hp.snoc hpc (rises_msort _) (by omega)) (by rw [List.length_append, hm, hpc]; omega) (by rw [List.length_append, hm]; omega) rfl
      have e3 := Zs.mk (wsum (a := b) (b := 20) (by omega))
      refine Ev.step (fun k => ?_) (Ev.bind (f := fun k t => qsscff6.l0 k t n 20 b ((b + 20 : Nat) : Int)) I IH)
      simp only [qsscff6.l0]
      rw [if_pos (by omega), show (20 : Int) = ((20 : Nat) : Int) from rfl, e3.out]
    · exact last p q l c a b e hl hs hp hpc ha hb h
theorem stable {l : List Nat} (hl : l.length ≤ 72057594037927936) : Ev (fun k => qsscff6.f k l l.length) (msort kf l) := by
  exact Ev.congr (fun k => rfl) (st_l0 (n := l.length) (l0 := l) hl l.length [] l l 0 0 20 (Nat.le_refl _) rfl rfl (Stab.refl l) (Runs.nil _) rfl rfl rfl)
end Go.Proofs.Ytkmbgfhkdopigaa.Stab
namespace Go.Proofs.Ytkmbgfhkdopigaa.P
open Go.RowKit Go.Proofs.YtkmbgfhkdopigaaW.PrintWords Go.Proofs.YtkmbgfhkdopigaaW.PrintLast Go.Proofs.YtkmbgfhkdopigaaW.PrintMore
attribute [local go_sem] max2_int min2_int max_two min_two max_three min_three max_four min_four
attribute [local go_sem] Go.Proofs.Ytkmbgfhkdopigaa.Fl.store_float Go.Proofs.Ytkmbgfhkdopigaa.Fl.call54 Go.Proofs.Ytkmbgfhkdopigaa.Fl.call22 Go.Proofs.Ytkmbgfhkdopigaa.Fl.call14 Go.Proofs.Ytkmbgfhkdopigaa.Fl.call28
set_option linter.unusedVariables false
set_option linter.unusedSimpArgs false


end Go.Proofs.Ytkmbgfhkdopigaa.P
namespace Go.Proofs.Ytkmbgfhkdopigaa.Stab
set_option linter.unusedSimpArgs false
open Go.RowKit Go.Proofs.Ytkmbgfhkdopigaa.P Go.Proofs.YtkmbgfhkdopigaaW.PrintWords
def kI (x : Int) : Int := kf x.toNat
theorem nats_msort (l : List Int) : nats (msort kI l) = msort kf (nats l) := by
  refine msort_eq ⟨(stab_msort (key := kI) l).perm.map _, fun k => ?_⟩ ?_
  · unfold nats
    rw [List.filter_map, List.filter_map]
    exact congrArg _ ((stab_msort (key := kI) l).filt k)
  · unfold nats Rises
    rw [List.pairwise_map]
    exact rises_msort (key := kI) l
def dk : List Int → List Int → List Int
  | o, [] => o
  | o, x :: q => if nan x.toNat then dk o q else if o.getLast? = some (kI x) then dk o q else dk (o ++ [kI x]) q
def Ks (o : List Int) : Prop := ∀ k ∈ o, 0 ≤ k ∧ k ≤ 18437736874454810624
theorem kI_num {x : Int} (hx : Wd x) (h : nan x.toNat = false) : 0 ≤ kI x ∧ kI x ≤ 18437736874454810624 := (kf_num (by have := hx.2; have := hx.1; omega) h).2
theorem ks_dk : ∀ (q o : List Int), Ks o → (∀ x ∈ q, Wd x) → Ks (dk o q) := by
  intro q
  induction q with
  | nil => intro o ho _; exact ho
  | cons x q ih =>
    intro o ho hw
    rw [dk]
    have hq : ∀ y ∈ q, Wd y := fun y hy => hw y (List.mem_cons_of_mem _ hy)
    split
    · exact ih o ho hq
    · rename_i h
      split
      · exact ih o ho hq
      · refine ih _ (fun k hk => ?_) hq
        rcases List.mem_append.1 hk with hk | hk
        · exact ho k hk
        · rw [List.mem_singleton.1 hk]; exact kI_num (hw x List.mem_cons_self) (by simpa using h)
theorem length_dk : ∀ (q o : List Int), (dk o q).length ≤ o.length + q.length := by
  intro q
  induction q with
  | nil => intro o; simp [dk]
  | cons x q ih =>
    intro o
    rw [dk]
    have h1 := ih o
    have h2 := ih (o ++ [kI x])
    simp only [List.length_append, List.length_cons, List.length_nil] at h2 ⊢
    split
    · omega
    · split <;> omega
theorem dk_spec : ∀ (q o : List Int), o.Pairwise (· < ·) → Rises kI q → (∀ k ∈ o, ∀ x ∈ q, k ≤ kI x) →
    (dk o q).Pairwise (· < ·) ∧ ∀ k, k ∈ dk o q ↔ k ∈ o ∨ ∃ x ∈ q, nan x.toNat = false ∧ kI x = k := by
  intro q
  induction q with
  | nil => intro o ho _ _; exact ⟨ho, fun k => by simp [dk]⟩
  | cons x q ih =>
    intro o ho hr hoq
    have hq : ∀ k ∈ o, ∀ y ∈ q, k ≤ kI y := fun k hk y hy => hoq k hk y (List.mem_cons_of_mem _ hy)
    rw [dk]
    by_cases hn : nan x.toNat = true
    · rw [if_pos hn]
      obtain ⟨h1, h2⟩ := ih o ho hr.tail hq
      refine ⟨h1, fun k => ?_⟩
      rw [h2]
      simp [hn]
    · rw [if_neg hn]
      have hn' : nan x.toNat = false := by simpa using hn
      by_cases hl : o.getLast? = some (kI x)
      · rw [if_pos hl]
        obtain ⟨h1, h2⟩ := ih o ho hr.tail hq
        refine ⟨h1, fun k => ?_⟩
        rw [h2]
        have hm : kI x ∈ o := List.mem_of_getLast? hl
        constructor
        · rintro (h | ⟨y, hy, h⟩)
          · exact .inl h
          · exact .inr ⟨y, List.mem_cons_of_mem _ hy, h⟩
        · rintro (h | ⟨y, hy, h, e⟩)
          · exact .inl h
          · rcases List.mem_cons.1 hy with rfl | hy
            · rw [← e]; exact .inl hm
            · exact .inr ⟨y, hy, h, e⟩
      · rw [if_neg hl]
        have hlt : ∀ k ∈ o, k < kI x := by
          intro k hk
          rcases List.eq_nil_or_concat o with h0 | ⟨o', c, h0⟩
          · rw [h0] at hk; cases hk
          · rw [List.concat_eq_append] at h0
            have hc : c < kI x := by
              have h1 := hoq c (by rw [h0]; simp) x List.mem_cons_self
              have h2 : c ≠ kI x := fun e => hl (by rw [h0, e]; simp)
              omega
            rw [h0] at hk ho
            rcases List.mem_append.1 hk with hk | hk
            · have := (List.pairwise_append.1 ho).2.2 k hk c (by simp)
              omega
            · rw [List.mem_singleton.1 hk]; exact hc
        obtain ⟨h1, h2⟩ := ih (o ++ [kI x]) (List.pairwise_append.2 ⟨ho, List.pairwise_singleton _ _, fun a ha b hb => by rw [List.mem_singleton.1 hb]; exact hlt a ha⟩) hr.tail
          (fun k hk y hy => by
            rcases List.mem_append.1 hk with hk | hk
            · exact hq k hk y hy
            · rw [List.mem_singleton.1 hk]; exact hr.head y hy)
        refine ⟨h1, fun k => ?_⟩
        rw [h2, List.mem_append, List.mem_singleton]
        constructor
        · rintro ((h | h) | ⟨y, hy, h⟩)
          · exact .inl h
          · exact .inr ⟨x, List.mem_cons_self, hn', h.symm⟩
          · exact .inr ⟨y, List.mem_cons_of_mem _ hy, h⟩
        · rintro (h | ⟨y, hy, h, e⟩)
          · exact .inl (.inl h)
          · rcases List.mem_cons.1 hy with rfl | hy
            · exact .inl (.inr e.symm)
            · exact .inr ⟨y, hy, h, e⟩
theorem rising_unique {a b : List Int} (ha : a.Pairwise (· < ·)) (hb : b.Pairwise (· < ·)) (h : ∀ k, k ∈ a ↔ k ∈ b) : a = b := by
  have na : a.Nodup := ha.imp (fun h e => by omega)
  have nb : b.Nodup := hb.imp (fun h e => by omega)
  exact List.Perm.eq_of_pairwise (le := fun a b => a < b) (fun x y _ _ h1 h2 => by omega) ha hb ((List.perm_ext_iff_of_nodup na nb).2 h)
def dkeys (l : List Nat) : List Int := (qod.ded (qod.keys l)).mergeSort (fun x y => decide (x ≤ y))
theorem mem_dkeys (l : List Nat) (k : Int) : k ∈ dkeys l ↔ ∃ x ∈ l, nan x = false ∧ kf x = k := by
  unfold dkeys
  rw [(List.mergeSort_perm _ _).mem_iff, qod.mem_ded]
  unfold qod.keys
  rw [List.mem_map]
  have e : ∀ x, qod.num x = true ↔ nan x = false := fun x => by
    have := flo_ne x
    unfold qod.num
    rw [← this]
    simp [bne]
  constructor
  · rintro ⟨x, hx, rfl⟩
    rw [List.mem_filter] at hx
    exact ⟨x, hx.1, (e x).1 hx.2, rfl⟩
  · rintro ⟨x, hx, hn, rfl⟩
    exact ⟨x, List.mem_filter.2 ⟨hx, (e x).2 hn⟩, rfl⟩
theorem dkeys_rising (l : List Nat) : (dkeys l).Pairwise (· < ·) := by
  have hn : (dkeys l).Nodup := (List.mergeSort_perm _ _).nodup_iff.2 (qod.nodup_ded _)
  have hs := List.pairwise_mergeSort (le := fun x y : Int => decide (x ≤ y)) (fun a b c h1 h2 => by simp at *; omega) (fun a b => by simp <;> omega) (qod.ded (qod.keys l))
  have : (dkeys l).Pairwise (fun x y => decide (x ≤ y) = true ∧ x ≠ y) := hs.and hn
  exact this.imp (fun h => by have := of_decide_eq_true h.1; have := h.2; omega)
theorem dkeys_eq (l : List Int) : dkeys (nats l) = dk [] (msort kI l) := by
  obtain ⟨h1, h2⟩ := dk_spec (msort kI l) [] List.Pairwise.nil (rises_msort _) (by simp)
  refine rising_unique (dkeys_rising _) h1 fun k => ?_
  rw [mem_dkeys, h2]
  constructor
  · rintro ⟨x, hx, hn, e⟩
    obtain ⟨y, hy, rfl⟩ := List.mem_map.1 hx
    exact .inr ⟨y, ((stab_msort l).mem y).2 hy, hn, e⟩
  · rintro (h | ⟨y, hy, hn, e⟩)
    · cases h
    · exact ⟨y.toNat, List.mem_map.2 ⟨y, ((stab_msort l).mem y).1 hy, rfl⟩, hn, e⟩
theorem ks_dkeys {l : List Nat} (hl : ∀ x ∈ l, x < 18446744073709551616) : Ks (dkeys l) := by
  intro k hk
  obtain ⟨x, hx, hn, rfl⟩ := (mem_dkeys l k).1 hk
  exact (kf_num (hl x hx) hn).2
theorem distinct_some (l : List Nat) (hw : ∀ x ∈ l, x < 18446744073709551616) (hl : l.length < 17592186044416) : qod.f l = some ((dkeys l).map atN) := by
  unfold qod.f
  rw [if_pos hl]
  refine congrArg some (List.map_congr_left fun k hk => ?_)
  have h := ks_dkeys hw k hk
  unfold qod.at_
  rw [at_num h.1 h.2]; rfl
end Go.Proofs.Ytkmbgfhkdopigaa.Stab
namespace Go.Proofs.Ytkmbgfhkdopigaa.Stab
open Go.RowKit Go.Proofs.Ytkmbgfhkdopigaa.P Go.Proofs.YtkmbgfhkdopigaaW.PrintWords
theorem sorted_ev (l : List Nat) (hl : l.length < 17592186044416) : Ev (fun k => qos.f k l) (msort kf l) := by
  refine Ev.congr (fun k => ?_) (Ev.bind (f := fun _ t => some t) (Ev.bind (f := fun _ t => some t) (stable (l := l) (by omega)) (Ev.now _)) (Ev.now _))
  unfold qos.f qsssff6f6.f
  rw [if_pos (by simpa using hl), List.nil_append]
end Go.Proofs.Ytkmbgfhkdopigaa.Stab
namespace Go.Proofs.Ytkmbgfhkdopigaa.Stab
set_option linter.unusedSimpArgs false
open Go.RowKit Go.Proofs.Ytkmbgfhkdopigaa.P Go.Proofs.YtkmbgfhkdopigaaW.PrintWords

theorem kf_one : kf 4607182418800017408 = 13826050856027422720 := by rw [kf_spec _ (by decide), show nan 4607182418800017408 = false by decide, pl_eq _ (by decide)]; rfl
theorem kf_two : kf 4611686018427387904 = 13830554455654793216 := by rw [kf_spec _ (by decide), show nan 4611686018427387904 = false by decide, pl_eq _ (by decide)]; rfl
theorem kf_zero : kf 0 = 9218868437227405312 := by rw [kf_spec _ (by decide), show nan 0 = false by decide, pl_eq _ (by decide)]; rfl
theorem begins_true : qt0b.f = some true := by
  have e1 : qoa.f (IntKind.u64.wrap (13826050856027422720 + 1)) = some (4607182418800017409, 0) := by rw [IntKind.wrap_u64]; exact at_num (k := 13826050856027422721) (by decide) (by decide)
  have e2 := compare_lt (a := 4607182418800017408) (b := 4611686018427387904) (by rw [kf_one, kf_two]; decide)
  unfold qt0b.f qon.f qos1.f
  rw [flo_ne, show nan 4607182418800017408 = false by decide, if_neg Bool.false_ne_true, key_some, someBind, kf_one, if_neg (by decide), someBind, e1, e2]
  simp only [someBind, key_some, kf_zero]
  decide +kernel

def rep (x : Nat) : Nat := if nan x then 18446744073709551616 else x
theorem rep_eq {x y : Nat} (hx : x < 18446744073709551616) (hy : y < 18446744073709551616) : rep x = rep y ↔ x = y ∨ (nan x = true ∧ nan y = true) := by
  unfold rep
  cases h : nan x <;> cases h2 : nan y <;> simp
  · constructor
    · intro e; omega
    · intro e; subst e; rw [h] at h2; cases h2
  · constructor
    · intro e; omega
    · intro e; subst e; rw [h] at h2; cases h2
def fr : List Bool → List Nat → List Nat
  | f :: u, y :: b => if f then fr u b else rep y :: fr u b
  | _, _ => []
theorem fr_append : ∀ (u1 : List Bool) (b1 : List Nat) (u2 : List Bool) (b2 : List Nat), u1.length = b1.length → fr (u1 ++ u2) (b1 ++ b2) = fr u1 b1 ++ fr u2 b2
  | [], [], u2, b2, _ => by simp [fr]
  | f :: u1, y :: b1, u2, b2, h => by
    have ih := fr_append u1 b1 u2 b2 (by simpa using h)
    simp only [List.cons_append, fr]
    cases f
    · simp [ih]
    · simp [ih]
  | [], _ :: _, _, _, h => by simp at h
  | _ :: _, [], _, _, h => by simp at h
theorem fr_fresh : ∀ b : List Nat, fr (List.replicate b.length false) b = b.map rep
  | [] => rfl
  | y :: b => by
    have ih := fr_fresh b
    simp only [List.length_cons, List.replicate_succ, fr, List.map_cons, Bool.false_eq_true, if_false, ih]
theorem rdB {u p s : List Bool} {f : Bool} {i : Nat} (e : u = p ++ f :: s) (hi : i = p.length) : rdOf false u (i : Int) = f := by
  subst e; subst hi
  unfold rdOf
  rw [Int.toNat_natCast, List.getD_eq_getElem?_getD]; simp
theorem counts_l1 {a b : List Nat} {x i : Nat} (hx : rdOf (0 : Nat) a (i : Int) = x) (hi : i < a.length) (hwx : x < 18446744073709551616) (hwb : ∀ y ∈ b, y < 18446744073709551616) (hbl : b.length ≤ 2305843009213693952) (hal : a.length ≤ 2305843009213693952) :
    ∀ (u2 : List Bool) (b2 : List Nat) (u1 : List Bool) (b1 : List Nat) (used : List Bool) (j : Nat), used = u1 ++ u2 → b = b1 ++ b2 → u1.length = j → b1.length = j → u2.length = b2.length → rep x ∈ fr u2 b2 →
    (∀ u' : List Bool, u'.length = b.length → (rep x :: fr u' b).Perm (fr used b) → Ev (fun k => qt0c.l0 k a b u' ((i + 1 : Nat) : Int)) true) →
    Ev (fun k => qt0c.l1 k a b used i false j) true := by
  intro u2
  induction u2 with
  | nil => intro b2 u1 b1 used j eu eb h1 h2 h3 hm fin; simp [fr] at hm
  | cons f u2 ih =>
    intro b2 u1 b1 used j eu eb h1 h2 h3 hm fin
    cases b2 with
    | nil => simp at h3
    | cons y b2 =>
      have h3' : u2.length = b2.length := by simpa using h3
      have hbb : b.length = j + 1 + b2.length := by rw [eb]; simp <;> omega
      have huu : used.length = j + 1 + u2.length := by rw [eu]; simp <;> omega
      have rf : Zs (rdOf false used (j : Int) = f) := ⟨rdB eu h1.symm⟩
      have ry : Zs (rdOf (0 : Nat) b (j : Int) = y) := ⟨rd_at eb h2.symm⟩
      have hwy : y < 18446744073709551616 := hwb y (by rw [eb]; simp)
      have b1' : (j : Int) < (b.length : Int) := by omega
      have b2' : (0 : Int) ≤ (j : Int) := by omega
      have b3' : (j : Int) < (used.length : Int) := by omega
      have b4' : (0 : Int) ≤ (i : Int) := by omega
      have b5' : (i : Int) < (a.length : Int) := by omega
      have first : ∀ k, qt0c.l1 (k + 1) a b used i false j = qt0c.j2 k a b used i false j true := by
        intro k
        simp only [qt0c.l1]
        rw [if_pos b1']; rfl
      have skip : rep x ∈ fr u2 b2 → (∀ k, qt0c.j2 (k + 1) a b used i false j true = qt0c.l1 k a b used i false ((j + 1 : Nat) : Int)) → Ev (fun k => qt0c.l1 k a b used i false j) true := by
        intro hm' e
        exact Ev.step first (Ev.step e (ih b2 (u1 ++ [f]) (b1 ++ [y]) used (j + 1) (by rw [eu]; simp) (by rw [eb]; simp) (by simp <;> omega) (by simp <;> omega) h3' hm' fin))
      cases f with
      | true =>
        refine skip (by simpa [fr] using hm) fun k => ?_
        simp only [qt0c.j2]
        rw [if_pos (by simp), if_pos b2', if_pos b3', rf.out, if_pos (by simp), wadd (by omega)]
      | false =>
        by_cases he : rep x = rep y
        · have F := fin (u1 ++ true :: u2) (by simp <;> omega) (by
            rw [eu, eb, fr_append _ _ _ _ (by omega), fr_append _ _ _ _ (by omega), he]
            simp only [fr, if_true, Bool.false_eq_true, if_false]
            exact List.perm_middle.symm)
          have es : used.set j true = u1 ++ true :: u2 := by
            rw [eu, ← h1]; simp
          have out : ∀ (c : Int), c = ((j + 1 : Nat) : Int) → Ev (fun k => qt0c.l1 k a b (used.set (j : Int).toNat true) i true c) true := by
            intro c hc
            rw [Int.toNat_natCast, es]
            have nx : ∀ k, qt0c.j2 (k + 1) a b (u1 ++ true :: u2) i true c false = qt0c.l0 k a b (u1 ++ true :: u2) ((i + 1 : Nat) : Int) := by
              intro k
              simp only [qt0c.j2]
              rw [if_neg (by simp), if_pos (by simp), wadd (by omega)]
            refine Ev.step (f := fun k => qt0c.j2 k a b (u1 ++ true :: u2) i true c false) (fun k => ?_) (Ev.step nx F)
            simp only [qt0c.l1]
            by_cases hlt : c < (b.length : Int)
            · rw [if_pos hlt]; rfl
            · rw [if_neg hlt]
          refine Ev.step first (Ev.step (fun k => ?_) (out _ rfl))
          simp only [qt0c.j2]
          rw [if_pos (by simp), if_pos b2', if_pos b3', rf.out, if_neg (by simp), if_pos b4', if_pos b5', if_pos b1', hx, ry.out, flo_ne, flo_ne, wadd (by omega)]
          rcases (rep_eq hwx hwy).1 he with h | ⟨h, h'⟩
          · rw [if_pos (by rw [h])]
          · by_cases hxy : (x : Int) = (y : Int)
            · rw [if_pos hxy]
            · rw [if_neg hxy, if_pos h, if_pos h']
        · refine skip (by
            simp only [fr, Bool.false_eq_true, if_false] at hm
            rcases List.mem_cons.1 hm with h | h
            · exact absurd h he
            · exact h) fun k => ?_
          have hne : ¬ ((x : Int) = (y : Int)) := fun h => he (by rw [show x = y by omega])
          simp only [qt0c.j2]
          rw [if_pos (by simp), if_pos b2', if_pos b3', rf.out, if_neg (by simp), if_pos b4', if_pos b5', if_pos b1', hx, ry.out, if_neg hne, flo_ne, flo_ne, wadd (by omega)]
          by_cases hn : nan x = true
          · rw [if_pos hn, if_neg (fun h => he ((rep_eq hwx hwy).2 (.inr ⟨hn, h⟩)))]
          · rw [if_neg hn]
theorem counts_l0 {a b : List Nat} (hwa : ∀ y ∈ a, y < 18446744073709551616) (hwb : ∀ y ∈ b, y < 18446744073709551616) (hbl : b.length ≤ 2305843009213693952) (hal : a.length ≤ 2305843009213693952) :
    ∀ (q p : List Nat) (used : List Bool) (i : Nat), a = p ++ q → i = p.length → used.length = b.length → (fr used b).Perm (q.map rep) → Ev (fun k => qt0c.l0 k a b used i) true := by
  intro q
  induction q with
  | nil =>
    intro p used i e hi hu hp
    rw [List.append_nil] at e
    subst e
    refine Ev.step (fun k => ?_) (Ev.now _)
    simp only [qt0c.l0]
    rw [if_neg (by omega)]
  | cons x q ih =>
    intro p used i e hi hu hp
    have hll : a.length = p.length + 1 + q.length := by rw [e]; simp <;> omega
    refine Ev.step (fun k => ?_) (counts_l1 (x := x) (i := i) (rd_at e hi) (by omega) (hwa x (by rw [e]; simp)) hwb hbl hal used b [] [] used 0 rfl rfl rfl rfl hu (hp.mem_iff.2 (by simp)) (fun u' hu' hpu => ih (p ++ [x]) u' (i + 1) (by rw [e]; simp) (by simp <;> omega) hu'
      ((List.perm_cons _).1 (hpu.trans (by simpa using hp)))))
    simp only [qt0c.l0]
    rw [if_pos (by omega)]; rfl
theorem counts_ev {a b : List Nat} (hp : b.Perm a) (hwa : ∀ y ∈ a, y < 18446744073709551616) (hal : a.length ≤ 281474976710656) : Ev (fun k => qt0c.f k a b) true := by
  have hl := hp.length_eq
  refine Ev.congr (fun k => ?_) (counts_l0 hwa (fun y hy => hwa y (hp.mem_iff.1 hy)) (by omega) (by omega) a [] (List.replicate b.length false) 0 rfl rfl (by simp) (by rw [fr_fresh]; exact hp.map rep))
  unfold qt0c.f
  rw [if_pos (by omega), if_pos (by omega), if_pos (by omega)]; rfl

theorem cnt_at {s p q : List Nat} {x v : Nat} (e : s = p ++ x :: q) (hr : Rises kf s) : kf x < kf v ↔ p.length < cnt s v := by
  subst e
  have e1 : cnt (p ++ x :: q) v = cnt p v + cnt (x :: q) v := by unfold cnt; rw [List.filter_append, List.length_append]
  constructor
  · intro h
    have e2 : cnt p v = p.length := by
      unfold cnt
      rw [List.filter_eq_self.2]
      intro y hy
      have := hr.across y hy x List.mem_cons_self
      exact decide_eq_true (by omega)
    have e3 : 1 ≤ cnt (x :: q) v := by
      unfold cnt
      rw [List.filter_cons_of_pos (by simpa using h)]
      simp
    omega
  · intro h
    by_cases hlt : kf x < kf v
    · exact hlt
    · have e3 : cnt (x :: q) v = 0 := by
        unfold cnt
        rw [List.filter_eq_nil_iff.2]
        · rfl
        · intro y hy
          have : kf x ≤ kf y := by
            rcases List.mem_cons.1 hy with rfl | hy
            · omega
            · exact hr.right.head y hy
          simp <;> omega
      have := cnt_le p v
      omega
theorem cnt_perm {a b : List Nat} (h : a.Perm b) (v : Nat) : cnt a v = cnt b v := (h.filter _).length_eq
theorem sorts_l2 {s : List Nat} {v n : Nat} (hr : Rises kf s) (hn : n = cnt s v) (hl : s.length ≤ 2305843009213693952) : ∀ (q p : List Nat) (i : Nat), s = p ++ q → i = p.length → Ev (fun k => qt0os.l2 k s v n i) true := by
  intro q
  induction q with
  | nil =>
    intro p i e hi
    rw [List.append_nil] at e
    subst e
    refine Ev.step (fun k => ?_) (Ev.now _)
    simp only [qt0os.l2]
    rw [if_neg (by omega)]
  | cons x q ih =>
    intro p i e hi
    have hll : s.length = p.length + 1 + q.length := by rw [e]; simp <;> omega
    have rx : Zs (rdOf (0 : Nat) s (i : Int) = x) := ⟨rd_at e hi⟩
    have hc := cnt_at (v := v) e hr
    refine Ev.step (fun k => ?_) (ih (p ++ [x]) (i + 1) (by rw [e]; simp) (by simp <;> omega))
    simp only [qt0os.l2]
    rw [if_pos (by omega), if_pos (by omega), rx.out, wadd (by omega)]
    by_cases h : kf x < kf v
    · rw [compare_lt h, someBind, decide_eq_true (show (-1 : Int) < 0 by omega), decide_eq_true (show (i : Int) < (n : Int) by have := hc.1 h; omega), if_neg (by simp)]
    · obtain ⟨c, h1, h2⟩ := compare_ge (a := x) (b := v) (by omega)
      rw [h1, someBind, decide_eq_false (show ¬ c < 0 by omega), decide_eq_false (show ¬ (i : Int) < (n : Int) by
        intro hh; exact h (hc.2 (by omega))), if_neg (by simp)]

theorem dk_prefix : ∀ (q o : List Int), ∃ t, dk o q = o ++ t := by
  intro q
  induction q with
  | nil => intro o; exact ⟨[], by simp [dk]⟩
  | cons x q ih =>
    intro o
    rw [dk]
    split
    · exact ih o
    · split
      · exact ih o
      · obtain ⟨t, ht⟩ := ih (o ++ [kI x])
        exact ⟨kI x :: t, by rw [ht]; simp⟩
theorem dk_append : ∀ (p q o : List Int), dk o (p ++ q) = dk (dk o p) q := by
  intro p
  induction p with
  | nil => intro q o; rfl
  | cons x p ih =>
    intro q o
    rw [List.cons_append, dk, dk]
    split
    · exact ih q o
    · split
      · exact ih q o
      · exact ih q _
theorem dk_last (p : List Int) (z : Int) (o : List Int) (hz : nan z.toNat = false) : (dk o (p ++ [z])).getLast? = some (kI z) := by
  rw [dk_append, dk, if_neg (by rw [hz]; exact Bool.false_ne_true)]
  split
  · rename_i h; rw [dk]; exact h
  · rw [dk]; simp
theorem sign_zero : qms.f 0 = some false := by unfold qms.f wrap64; rfl
theorem pl_zero_at {k : Int} (h0 : 0 ≤ k) (h1 : k ≤ 18437736874454810624) (h : Fk.pl (atN k) = Fk.pl 0) : atN k = 0 := by
  have e := kf_num (atN_lt h0 h1) (atN_nan h0 h1)
  rw [kf_at h0 h1, h, show Fk.pl 0 = 0 from rfl] at e
  unfold atN
  rw [if_pos (by omega)]
  omega
theorem sorts_l1 {g : List Nat} {sI : List Int} {b : Int} {s d : List Nat} (hs : s = nats sI) (hd : d = (dk [] sI).map atN) (hw : ∀ x ∈ sI, Wd x) (hr : Rises kI sI) (hp : s.Perm g) (hl : s.length ≤ 1152921504606846976) :
    ∀ (q p : List Int) (i c : Nat), sI = p ++ q → i = p.length → c = (dk [] p).length → Ev (fun k => qt0os.l1 k b g s d c i) true := by
  have hsl : s.length = sI.length := by rw [hs]; exact List.length_map _
  have hgl : g.length = s.length := hp.length_eq.symm
  have hks : Ks (dk [] sI) := ks_dk _ _ (fun k hk => by cases hk) hw
  have hrs : Rises kf s := by
    rw [hs]; unfold nats Rises; rw [List.pairwise_map]; exact hr
  intro q
  induction q with
  | nil =>
    intro p i c e hi hc
    rw [List.append_nil] at e
    subst e
    have hdl : d.length = c := by rw [hd, hc]; exact List.length_map _
    obtain ⟨K1, h1⟩ := below s b.toNat (by omega)
    obtain ⟨K2, h2⟩ := below g b.toNat (by omega)
    rw [cnt_perm hp.symm] at h2
    have hcn := cnt_le s b.toNat
    have L := sorts_l2 (v := b.toNat) hrs rfl (by omega) s [] 0 rfl rfl
    obtain ⟨K3, h3⟩ := L
    refine ⟨K1 + K2 + K3 + 2, fun k hk => ?_⟩
    obtain ⟨m, rfl⟩ : ∃ m, k = m + 1 + 1 := ⟨k - 2, by omega⟩
    simp only [qt0os.l1]
    have g1 : qob.f (m + 1) s b.toNat = _ := h1 (m + 1) (by omega)
    have g2 : qob.f (m + 1) g b.toNat = _ := h2 (m + 1) (by omega)
    rw [if_neg (by omega), g1, someBind, if_pos (by omega), if_neg (by omega), if_neg (by omega), g2, someBind]
    simp only [qt0os.j3]
    rw [if_neg (by simp)]
    exact h3 m (by omega)
  | cons x q ih =>
    intro p i c e hi hc
    have hll : s.length = p.length + 1 + q.length := by rw [hsl, e]; simp <;> omega
    have hwx : Wd x := hw x (by rw [e]; simp)
    have hx64 : x.toNat < 18446744073709551616 := by have := hwx.1; have := hwx.2; omega
    have es : s = nats p ++ x.toNat :: nats q := by rw [hs, e]; unfold nats; simp
    have hnp : (nats p).length = p.length := List.length_map _
    have rx : Zs (rdOf (0 : Nat) s (i : Int) = x.toNat) := ⟨rd_at es (by omega)⟩
    have b1 : (i : Int) < (s.length : Int) := by omega
    have b2 : (0 : Int) ≤ (i : Int) := by omega
    have hcl : c ≤ p.length := by
      have := length_dk p []
      rw [hc]; simpa using this
    have skip : dk [] (p ++ [x]) = dk [] p → (∀ k, qt0os.l1 (k + 1) b g s d c i = qt0os.j2 k b g s d c i true) → Ev (fun k => qt0os.l1 k b g s d c i) true := by
      intro e1 e2
      refine Ev.step e2 (Ev.step (fun k => ?_) (ih (p ++ [x]) (i + 1) c (by rw [e]; simp) (by simp <;> omega) (by rw [e1]; exact hc)))
      simp only [qt0os.j2]
      rw [if_pos (by simp), wadd (by omega)]
    have take : nan x.toNat = false → dk [] (p ++ [x]) = dk [] p ++ [kI x] → (∀ k, qt0os.l1 (k + 1) b g s d c i = qt0os.j2 k b g s d c i false) → Ev (fun k => qt0os.l1 k b g s d c i) true := by
      intro hn e1 e2
      have hk := kI_num hwx hn
      obtain ⟨t, ht⟩ := dk_prefix q (dk [] (p ++ [x]))
      have eD : d = (dk [] p).map atN ++ atN (kI x) :: t.map atN := by
        rw [hd, e, show p ++ x :: q = (p ++ [x]) ++ q by simp, dk_append, ht, e1]; simp
      have rd' : rdOf (0 : Nat) d (c : Int) = atN (kI x) := rd_at eD (by rw [hc, List.length_map])
      have hdl : d.length = c + 1 + t.length := by rw [eD, hc]; simp <;> omega
      have heq : ((FloatKind.format .f64).order (atN (kI x)) x.toNat == some .eq) = true := by
        rw [flo_eq_kf (atN_lt hk.1 hk.2) hx64, atN_nan hk.1 hk.2, kf_at hk.1 hk.2]
        simp [kI]
      have hne : ((FloatKind.format .f64).order (atN (kI x)) x.toNat != some .eq) = false := by rw [bne, heq]; rfl
      refine Ev.step e2 (Ev.step (fun k => ?_) (ih (p ++ [x]) (i + 1) (c + 1) (by rw [e]; simp) (by simp <;> omega) (by rw [e1, hc]; simp)))
      simp only [qt0os.j2]
      rw [if_neg (by simp), if_neg (by omega), if_pos (by omega), if_pos (by omega), if_pos b2, if_pos b1, rd', rx.out, hne, if_neg (by simp), wadd (by omega), wadd (by omega)]
      by_cases hz : ((FloatKind.format .f64).order (atN (kI x)) 0 == some .eq) = true
      · have h0 : atN (kI x) = 0 := by
          rw [flo_eq] at hz
          simp only [Bool.and_eq_true, decide_eq_true_eq] at hz
          exact pl_zero_at hk.1 hk.2 hz.2
        rw [if_pos hz, h0, sign_zero, someBind, if_neg Bool.false_ne_true]
      · rw [if_neg hz]
    have ec : dk [] (p ++ [x]) = if nan x.toNat then dk [] p else if (dk [] p).getLast? = some (kI x) then dk [] p else dk [] p ++ [kI x] := by
      rw [dk_append, dk, dk, dk]
    cases hn : nan x.toNat with
    | true =>
      refine skip (by rw [ec, if_pos hn]) fun k => ?_
      simp only [qt0os.l1]
      rw [if_pos b1, if_pos b2, rx.out, flo_ne, if_pos hn]
    | false =>
      have hn' : ¬ nan x.toNat = true := by rw [hn]; exact Bool.false_ne_true
      rcases List.eq_nil_or_concat p with h0 | ⟨p', z, h0⟩
      · subst h0
        refine take hn (by rw [ec, if_neg hn', if_neg (by simp [dk])]) fun k => ?_
        simp only [qt0os.l1]
        rw [if_pos b1, if_pos b2, rx.out, flo_ne, if_neg hn', if_neg (by simp at hi; omega)]
      · rw [List.concat_eq_append] at h0
        have hwz : Wd z := hw z (by rw [e, h0]; simp)
        have hz64 : z.toNat < 18446744073709551616 := by have := hwz.1; have := hwz.2; omega
        have hzx : kI z ≤ kI x := by
          rw [e] at hr
          exact hr.across z (by rw [h0]; simp) x List.mem_cons_self
        have hkx := kI_num hwx hn
        have hnz : nan z.toNat = false := by
          cases h : nan z.toNat with
          | false => rfl
          | true => have := kf_nan hz64 h; unfold kI at hzx hkx; omega
        have hlast : (dk [] p).getLast? = some (kI z) := by rw [h0]; exact dk_last p' z [] hnz
        obtain ⟨i', rfl⟩ : ∃ i', i = i' + 1 := ⟨i - 1, by rw [hi, h0]; simp⟩
        have hi' : i' = p'.length := by rw [h0] at hi; simp at hi; omega
        have rz : Zs (rdOf (0 : Nat) s (i' : Int) = z.toNat) := ⟨rd_at (p := nats p') (s := x.toNat :: nats q) (by rw [es, h0]; unfold nats; simp) (by rw [hi']; exact (List.length_map _).symm)⟩
        have e3 : ∀ k, qt0os.l1 (k + 1) b g s d c ((i' + 1 : Nat) : Int) = qt0os.j2 k b g s d c ((i' + 1 : Nat) : Int) (decide (kI x = kI z)) := by
          intro k
          simp only [qt0os.l1]
          rw [if_pos b1, if_pos b2, rx.out, flo_ne, if_neg hn', if_pos (by omega), wpre (by omega), if_pos (by omega), if_pos (by omega), rz.out, flo_eq_kf hx64 hz64, hn]; rfl
        by_cases hk : kI x = kI z
        · refine skip (by rw [ec, if_neg hn', if_pos (by rw [hlast, hk])]) fun k => ?_
          rw [e3, decide_eq_true hk]
        · refine take hn (by rw [ec, if_neg hn', if_neg (by rw [hlast]; exact fun h => hk (Option.some.inj h).symm)]) fun k => ?_
          rw [e3, decide_eq_false hk]
theorem sorts_l0 {g : List Nat} {b : Int} {s : List Nat} (hr : Rises kf s) (hl : s.length ≤ 1152921504606846976) {d : List Nat} (hd : qod.f g = some d) (fin : Ev (fun k => qt0os.l1 k b g s d 0 0) true) :
    ∀ (q p : List Nat) (z : Nat) (i : Nat), s = p ++ z :: q → i = p.length + 1 → Ev (fun k => qt0os.l0 k b g s i) true := by
  intro q
  induction q with
  | nil =>
    intro p z i e hi
    have hll : s.length = p.length + 1 := by rw [e]; simp
    refine Ev.step (fun k => ?_) fin
    simp only [qt0os.l0]
    rw [if_neg (by omega), hd, someBind]
  | cons x q ih =>
    intro p z i e hi
    have hll : s.length = p.length + 2 + q.length := by rw [e]; simp <;> omega
    subst hi
    have rz : Zs (rdOf (0 : Nat) s ((p.length : Nat) : Int) = z) := ⟨rd_at e rfl⟩
    have rx : Zs (rdOf (0 : Nat) s ((p.length + 1 : Nat) : Int) = x) := ⟨rd_at (p := p ++ [z]) (s := q) (by rw [e]; simp) (by simp)⟩
    have hzx : kf z ≤ kf x := by
      have h2 := (e ▸ hr : Rises kf (p ++ z :: x :: q)).right
      exact h2.head x List.mem_cons_self
    refine Ev.step (fun k => ?_) (ih (p ++ [z]) x (p.length + 1 + 1) (by rw [e]; simp) (by simp))
    simp only [qt0os.l0]
    rw [if_pos (by omega), wpre (by omega), if_pos (by omega), if_pos (by omega), if_pos (by omega), rz.out, rx.out, wadd (by omega)]
    by_cases h : kf z = kf x
    · rw [compare_eq h, someBind, if_neg (by omega)]
    · rw [compare_lt (by omega), someBind, if_neg (by omega)]
end Go.Proofs.Ytkmbgfhkdopigaa.Stab
namespace Go.Proofs.Ytkmbgfhkdopigaa.Pure
open Go.RowKit Go.Proofs.Ytkmbgfhkdopigaa.P Go.Proofs.YtkmbgfhkdopigaaW.PrintWords Go.Proofs.YtkmbgfhkdopigaaW.PrintLast Go.Proofs.Ytkmbgfhkdopigaa.Stab

theorem OrderSorts : qt0os.Pure := by
  intro l b hl1 hl8 hw hb
  have hW : ∀ x ∈ l, Wd x := fun x hx => Wd.of (hw x hx)
  have hnl : (nats l).length = l.length := List.length_map _
  have hm := length_msort (key := kf) (nats l)
  have hp : (msort kf (nats l)).Perm (nats l) := (stab_msort _).perm
  obtain ⟨K1, h1⟩ := list_ev l (by omega)
  obtain ⟨K2, h2⟩ := sorted_ev (nats l) (by omega)
  obtain ⟨K3, h3⟩ := counts_ev hp (nats_lt hW) (by omega)
  have hd := distinct_some (nats l) (nats_lt hW) (by omega)
  have F := sorts_l1 (g := nats l) (sI := msort kI l) (b := b) (s := msort kf (nats l)) (d := (dkeys (nats l)).map atN) (nats_msort l).symm (by rw [dkeys_eq]) (fun x hx => hW x (((stab_msort l).mem x).1 hx)) (rises_msort _) hp (by omega) (msort kI l) [] 0 0 rfl rfl rfl
  have L : Ev (fun k => qt0os.l0 k b (nats l) (msort kf (nats l)) 1) true := by
    cases hs : msort kf (nats l) with
    | nil =>
      rw [hs] at F
      refine Ev.step (fun k => ?_) F
      simp only [qt0os.l0]
      rw [if_neg (by simp), hd, someBind]; rfl
    | cons z q =>
      rw [hs] at F
      have hr := rises_msort (key := kf) (nats l)
      rw [hs] at hr
      have := sorts_l0 (g := nats l) (b := b) (s := z :: q) hr (by rw [← hs]; omega) hd F q [] z 1 rfl rfl
      exact this
  obtain ⟨K4, h4⟩ := L
  refine ⟨K1 + K2 + K3 + K4, ?_⟩
  have g1 := h1 (K1 + K2 + K3 + K4) (by omega)
  have g2 := h2 (K1 + K2 + K3 + K4) (by omega)
  have g3 := h3 (K1 + K2 + K3 + K4) (by omega)
  have g4 := h4 (K1 + K2 + K3 + K4) (by omega)
  dsimp only at g1 g2 g3 g4
  unfold qt0os.f
  rw [begins_true, someBind, if_pos rfl, g1, someBind, g2, someBind, g3, someBind, if_pos rfl, g4]
end Go.Proofs.Ytkmbgfhkdopigaa.Pure
