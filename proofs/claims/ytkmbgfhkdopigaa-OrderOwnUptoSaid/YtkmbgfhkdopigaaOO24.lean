/- Texts that the statement's proof leans on, part 24. -/
import Derived.Test.YtkmbgfhkdopigaaOO4
import Derived.Test.YtkmbgfhkdopigaaOO7
import Derived.Test.YtkmbgfhkdopigaaOO20
import Derived.Test.YtkmbgfhkdopigaaOO21
import Derived.Test.YtkmbgfhkdopigaaOO22
import Derived.Test.YtkmbgfhkdopigaaOO23
import Derived.Laws.BitsAllLaws
namespace Go.Proofs.Ytkmbgfhkdopigaa.Stab
set_option linter.unusedSimpArgs false
open Go.RowKit Go.Proofs.Ytkmbgfhkdopigaa.P Go.Proofs.YtkmbgfhkdopigaaW.PrintWords
theorem andNot63 (x : Nat) (hx : x < 18446744073709551616) : Go.bits .andNot .u64 (x : Int) 9223372036854775808 = ((x % 9223372036854775808 : Nat) : Int) := by
  rw [show (9223372036854775808 : Int) = ((9223372036854775808 : Nat) : Int) from rfl, u64_andNot_nat x 9223372036854775808 hx (by decide)]
  rw [show 18446744073709551615 - 9223372036854775808 = 2 ^ 63 - 1 from rfl, Nat.and_two_pow_sub_one_eq_mod]
theorem or63 (y : Nat) (hy : y < 9223372036854775808) : Go.bits .or .u64 9223372036854775808 (y : Int) = ((9223372036854775808 + y : Nat) : Int) := by
  rw [show (9223372036854775808 : Int) = ((9223372036854775808 : Nat) : Int) from rfl, u64_or_nat 9223372036854775808 y (by decide) (by omega)]
  have := Nat.two_pow_add_eq_or_of_lt (i := 63) (b := y) (by omega) 1
  simp only [Nat.mul_one] at this
  rw [show 9223372036854775808 = 2 ^ 63 from rfl, this]
abbrev nan (x : Nat) : Bool := Fk.isNaN x
theorem nan_iff (x : Nat) : nan x = true ↔ 9218868437227405312 < x % 9223372036854775808 := by
  unfold nan Fk.isNaN Fk.inf Fk.rg
  rw [decide_eq_true_iff]
theorem pl_eq (x : Nat) (hx : x < 18446744073709551616) : Fk.pl x = if x / 9223372036854775808 = 0 then (x : Int) else -((x % 9223372036854775808 : Nat) : Int) := by
  unfold Fk.pl Fk.sg Fk.rg
  by_cases h : x / 9223372036854775808 = 0
  · rw [if_pos h, if_neg]
    · have : x % 2 ^ 63 = x := by omega
      rw [this]
    · have : x / 2 ^ 63 = 0 := h
      rw [this]; simp
  · rw [if_neg h, if_pos]
    have : x / 2 ^ 63 = 1 := by omega
    rw [this]; rfl
theorem flo_ne (x : Nat) : ((FloatKind.format .f64).order x x != some .eq) = nan x := by
  rw [show FloatKind.format .f64 = Ieee.double from rfl, Fk.order_spec]
  cases h : Fk.isNaN x
  · simp [nan, h, Int.compare_eq_eq.2 rfl]
  · simp [nan, h]
theorem flo_eq (x y : Nat) : ((FloatKind.format .f64).order x y == some .eq) = (!nan x && !nan y && decide (Fk.pl x = Fk.pl y)) := by
  rw [show FloatKind.format .f64 = Ieee.double from rfl, Fk.order_spec]
  cases h : Fk.isNaN x <;> cases h2 : Fk.isNaN y <;> simp [nan, h, h2]
  by_cases e : Fk.pl x = Fk.pl y
  · rw [Int.compare_eq_eq.2 e]; simp [e]
  · have : compare (Fk.pl x) (Fk.pl y) ≠ .eq := fun hh => e (Int.compare_eq_eq.1 hh)
    simp [e, this]
theorem kf_spec (x : Nat) (hx : x < 18446744073709551616) : kf x = if nan x then 18437736874454810625 else 9218868437227405312 + Fk.pl x := by
  unfold kf qok.f
  rw [flo_ne]
  cases hn : nan x with
  | true => rfl
  | false =>
    rw [if_neg Bool.false_ne_true, if_neg Bool.false_ne_true]
    have hr : ¬ 9218868437227405312 < x % 9223372036854775808 := fun h => by rw [(nan_iff x).2 h] at hn; cases hn
    rw [andNot63 x hx, pl_eq x hx]
    by_cases h : x / 9223372036854775808 = 0
    · rw [if_pos h, if_pos (by omega), Option.getD_some, IntKind.wrap_u64]; omega
    · rw [if_neg h, if_neg (by omega), Option.getD_some, IntKind.wrap_u64]; omega
theorem kf_num {x : Nat} (hx : x < 18446744073709551616) (h : nan x = false) : kf x = 9218868437227405312 + Fk.pl x ∧ 0 ≤ kf x ∧ kf x ≤ 18437736874454810624 := by
  have e : kf x = 9218868437227405312 + Fk.pl x := by rw [kf_spec x hx, h]; rfl
  have hr : ¬ 9218868437227405312 < x % 9223372036854775808 := fun hh => by rw [(nan_iff x).2 hh] at h; cases h
  have hp := pl_eq x hx
  refine ⟨e, ?_⟩
  by_cases h2 : x / 9223372036854775808 = 0
  · rw [if_pos h2] at hp; omega
  · rw [if_neg h2] at hp; omega
def atN (k : Int) : Nat := if k ≥ 9218868437227405312 then (k - 9218868437227405312).toNat else (9223372036854775808 + (9218868437227405312 - k)).toNat
theorem at_num {k : Int} (h0 : 0 ≤ k) (h1 : k ≤ 18437736874454810624) : qoa.f k = some (atN k, 0) := by
  unfold qoa.f atN
  rw [if_neg (by omega), if_neg (by omega)]
  by_cases h : k ≥ 9218868437227405312
  · rw [if_pos h, if_pos h, IntKind.wrap_u64]
    congr 3 <;> omega
  · rw [if_neg h, if_neg h, IntKind.wrap_u64]
    obtain ⟨n, hn⟩ := Int.eq_ofNat_of_zero_le (show 0 ≤ 9218868437227405312 - k by omega)
    rw [hn, show (n : Int) % 18446744073709551616 = n by omega, or63 n (by omega)]
    congr 2 <;> omega
def cnt (l : List Nat) (v : Nat) : Nat := (l.filter (fun x => decide (kf x < kf v))).length
theorem cnt_le (l : List Nat) (v : Nat) : cnt l v ≤ l.length := List.length_filter_le _ _
theorem below_l0 {v : Nat} : ∀ (q p l : List Nat) (i n c : Nat), l = p ++ q → i = p.length → n = l.length → c = cnt p v → n ≤ 4611686018427387904 → Ev (fun k => qob.l0 k v c l n i) ((cnt l v : Nat) : Int) := by
  intro q
  induction q with
  | nil =>
    intro p l i n c e hi hn hc hb
    rw [List.append_nil] at e
    subst e
    refine Ev.step (fun k => ?_) (Ev.now _)
    simp only [qob.l0]
    rw [if_neg (by omega), hc]
  | cons x q ih =>
    intro p l i n c e hi hn hc hb
    have hll : l.length = p.length + 1 + q.length := by rw [e]; simp <;> omega
    have rx : Zs (rdOf (0 : Nat) l (i : Int) = x) := ⟨rd_at e hi⟩
    have hcp := cnt_le p v
    have ecnt : cnt (p ++ [x]) v = if kf x < kf v then cnt p v + 1 else cnt p v := by
      unfold cnt
      rw [List.filter_append, List.length_append, List.filter_cons]
      by_cases h : kf x < kf v
      · rw [if_pos h, if_pos (by simpa using h)]; rfl
      · rw [if_neg h, if_neg (by simpa using h)]; rfl
    have b1 : (i : Int) < (n : Int) := by omega
    have b2 : (0 : Int) ≤ (i : Int) := by omega
    have b3 : (i : Int) < (l.length : Int) := by omega
    by_cases h : kf x < kf v
    · rw [if_pos h] at ecnt
      refine Ev.step (fun k => ?_) (ih (p ++ [x]) l (i + 1) n (c + 1) (by rw [e]; simp) (by simp <;> omega) hn (by omega) hb)
      simp only [qob.l0]
      rw [if_pos b1, if_pos b2, if_pos b3, rx.out, key_some, key_some, someBind, someBind, if_pos h, wadd (by omega), wadd (by omega)]
    · rw [if_neg h] at ecnt
      refine Ev.step (fun k => ?_) (ih (p ++ [x]) l (i + 1) n c (by rw [e]; simp) (by simp <;> omega) hn (by omega) hb)
      simp only [qob.l0]
      rw [if_pos b1, if_pos b2, if_pos b3, rx.out, key_some, key_some, someBind, someBind, if_neg h, wadd (by omega)]
theorem below (l : List Nat) (v : Nat) (hl : l.length ≤ 4611686018427387904) : Ev (fun k => qob.f k l v) ((cnt l v : Nat) : Int) :=
  Ev.congr (fun k => rfl) (below_l0 (v := v) l [] l 0 l.length 0 rfl rfl rfl rfl hl)
def Wd (x : Int) : Prop := 0 ≤ x ∧ x < 18446744073709551616
theorem Wd.of {x : Int} (h : (Lit.int .u64 x).wf = true) : Wd x := by
  simp only [Lit.wf, IntKind.min, IntKind.max, IntKind.signed, IntKind.bits, Bool.and_eq_true, decide_eq_true_eq, if_false, Bool.false_eq_true] at h
  unfold Wd
  omega
def nats (l : List Int) : List Nat := l.map Int.toNat
theorem nats_lt {l : List Int} (hw : ∀ x ∈ l, Wd x) : ∀ x ∈ nats l, x < 18446744073709551616 := by
  intro x hx
  obtain ⟨y, hy, rfl⟩ := List.mem_map.1 hx
  have := hw y hy
  unfold Wd at this
  omega
theorem rd_atI {l p s : List Int} {x : Int} {i : Nat} (e : l = p ++ x :: s) (hi : i = p.length) : rd l (i : Int) = x := by
  subst e; subst hi
  unfold rd
  rw [Int.toNat_natCast, List.getD_eq_getElem?_getD]; simp
theorem list_l0 : ∀ (q p l : List Int) (i : Nat), l = p ++ q → i = p.length → l.length < 17592186044416 → Ev (fun k => qt0l.l0 k l (nats p) i) (nats l) := by
  intro q
  induction q with
  | nil =>
    intro p l i e hi hb
    rw [List.append_nil] at e
    subst e
    refine Ev.step (fun k => ?_) (Ev.now _)
    simp only [qt0l.l0]
    rw [if_neg (by omega)]
  | cons x q ih =>
    intro p l i e hi hb
    have hll : l.length = p.length + 1 + q.length := by rw [e]; simp <;> omega
    have rx : Zs (rd l (i : Int) = x) := ⟨rd_atI e hi⟩
    have hpl : (nats p).length = p.length := List.length_map _
    refine Ev.step (fun k => ?_) (ih (p ++ [x]) l (i + 1) (by rw [e]; simp) (by simp <;> omega) hb)
    simp only [qt0l.l0]
    rw [if_pos (by omega), if_pos (by omega), if_pos (by omega), rx.out, wadd (by omega)]
    unfold nats
    rw [List.map_append]; rfl
theorem list_ev (l : List Int) (hl : l.length < 17592186044416) : Ev (fun k => qt0l.f k l) (nats l) :=
  Ev.congr (fun k => rfl) (list_l0 l [] l 0 rfl rfl hl)
theorem split_at (l : List Nat) (i : Nat) (h : i ≤ l.length) : ∃ c d, l = c ++ d ∧ c.length = i := ⟨l.take i, l.drop i, (List.take_append_drop i l).symm, by rw [List.length_take]; omega⟩
theorem split_mid (l : List Nat) (i : Nat) (h : i < l.length) : ∃ c z d, l = c ++ z :: d ∧ c.length = i := by
  obtain ⟨c, d, e, hc⟩ := split_at l i (by omega)
  cases d with
  | nil => rw [e] at h; simp at h; omega
  | cons z d => exact ⟨c, z, d, e, hc⟩
theorem split_last (l : List Nat) (h : 0 < l.length) : ∃ c z, l = c ++ [z] := by
  rcases List.eq_nil_or_concat l with h0 | ⟨c, z, h0⟩
  · rw [h0] at h; simp at h
  · exact ⟨c, z, by rw [h0, List.concat_eq_append]⟩

theorem sm_l1 {x : Nat} {w : List Nat} : ∀ (v A l : List Nat) (j i : Nat), l = A ++ x :: (v ++ w) → j = A.length → i = A.length + v.length + 1 → l.length ≤ 1152921504606846976 →
    Ev (fun k => qssmcff6.l1 k l i j) (A ++ v ++ x :: w) := by
  intro v
  induction v with
  | nil =>
    intro A l j i e hj hi hl
    have hll : l.length = A.length + 1 + w.length := by rw [e]; simp <;> omega
    refine Ev.step (fun k => ?_) (Ev.now _)
    simp only [qssmcff6.l1]
    rw [hi, wpre (by simp <;> omega), if_neg (by simp <;> omega), e]; simp
  | cons y v ih =>
    intro A l j i e hj hi hl
    have hll : l.length = A.length + 2 + v.length + w.length := by rw [e]; simp <;> omega
    have e1 : l = A ++ x :: ([] ++ y :: (v ++ w)) := by rw [e]; simp
    have IH := ih (A ++ [y]) (A ++ y :: ([] ++ x :: (v ++ w))) (j + 1) i (by simp) (by simp <;> omega) (by simp at hi ⊢; omega) (by simp at hll ⊢; omega)
    obtain ⟨i', rfl⟩ : ∃ i', i = i' + 1 := ⟨i - 1, by omega⟩
    have hi' : i' = A.length + v.length + 1 := by simp at hi; omega
    have e2 := Zs.mk (wpre (i := i') (by omega))
    have e3 := Zs.mk (wadd (i := j) (by omega))
    have b1 : (j : Int) < (i' : Int) := by omega
    have b2 : (0 : Int) ≤ ((j + 1 : Nat) : Int) := by omega
    have b3 : ((j + 1 : Nat) : Int) < (l.length : Int) := by omega
    have b4 : (0 : Int) ≤ (j : Int) := by omega
    have b5 : (j : Int) < (l.length : Int) := by omega
    have sw := swap_at (i := j) (j := j + 1) e1 hj (by simp <;> omega)
    refine evTo (by simp) (Ev.step (fun k => ?_) IH)
    simp only [qssmcff6.l1]
    rw [e2.out, e3.out, if_pos b1, if_pos b2, if_pos b3, if_pos b4, if_pos b5, Int.toNat_natCast, Int.toNat_natCast, sw]
theorem sm_l0 {x : Nat} {p s l : List Nat} {a : Nat} (ha : a = p.length) (hl : l.length ≤ 1152921504606846976) : ∀ (n : Nat) (v1 vm v2 : List Nat) (i j : Nat), vm.length ≤ n → l = p ++ x :: (v1 ++ vm ++ v2) ++ s → i = p.length + 1 + v1.length → j = i + vm.length →
    Rises kf (v1 ++ vm ++ v2) → (∀ z ∈ v1, kf z < kf x) → (∀ z ∈ v2, kf x ≤ kf z) →
    Ev (fun k => qssmcff6.l0 k l a i j) (p ++ msort kf (x :: (v1 ++ vm ++ v2)) ++ s) := by
  intro n
  induction n with
  | zero =>
    intro v1 vm v2 i j hn e hi hj hr h1 h2
    have hvm : vm = [] := List.length_eq_zero_iff.1 (by omega)
    subst hvm
    have em : msort kf (x :: (v1 ++ [] ++ v2)) = v1 ++ x :: v2 := by
      rw [List.append_nil] at hr ⊢
      refine (msort_eq ?_ ?_).symm
      · rw [show x :: (v1 ++ v2) = ([x] ++ v1) ++ v2 by simp, show v1 ++ x :: v2 = (v1 ++ [x]) ++ v2 by simp]
        exact Stab.append (Stab.swap fun z hz y hy hk => by
          rw [List.mem_singleton.1 hz] at hk
          have := h1 y hy; omega) (Stab.refl _)
      · refine hr.left.append (List.pairwise_cons.2 ⟨h2, hr.right⟩) fun z hz y hy => ?_
        have := h1 z hz
        rcases List.mem_cons.1 hy with rfl | hy
        · omega
        · have := h2 y hy; omega
    have hll : l.length = p.length + 1 + v1.length + v2.length + s.length := by rw [e]; simp <;> omega
    rw [em]
    refine evTo (r' := p ++ v1 ++ x :: (v2 ++ s)) (by simp) (Ev.step (fun k => ?_) (sm_l1 (x := x) (w := v2 ++ s) v1 p l a i (by rw [e]; simp) ha (by omega) hl))
    simp only [qssmcff6.l0]
    rw [if_neg (by simp at hj; omega)]
  | succ n ih =>
    intro v1 vm v2 i j hn e hi hj hr h1 h2
    by_cases h0 : vm.length = 0
    · exact ih v1 vm v2 i j (by omega) e hi hj hr h1 h2
    · have hll : l.length = p.length + 1 + v1.length + vm.length + v2.length + s.length := by rw [e]; simp <;> omega
      obtain ⟨c, z, d, rfl, hc⟩ := split_mid vm ((i + j) / 2 - i) (by omega)
      have hvm : c.length + d.length + 1 ≤ n + 1 := by simp at hn; omega
      have hj' : j = i + c.length + d.length + 1 := by simp at hj; omega
      have hll' : l.length = p.length + 1 + v1.length + c.length + 1 + d.length + v2.length + s.length := by rw [e]; simp <;> omega
      have hh : (i + j) / 2 = i + c.length := by omega
      have rz : Zs (rdOf (0 : Nat) l ((i + c.length : Nat) : Int) = z) := ⟨rd_at (p := p ++ x :: (v1 ++ c)) (s := d ++ v2 ++ s) (by rw [e]; simp) (by simp <;> omega)⟩
      have rx : Zs (rdOf (0 : Nat) l (a : Int) = x) := ⟨rd_at (p := p) (s := v1 ++ (c ++ z :: d) ++ v2 ++ s) (by rw [e]; simp) ha⟩
      have ew := Zs.mk (whalf (a := i) (b := j) (by omega))
      replace ew := Zs.mk (by have h_ := ew.out; rw [hh] at h_; exact h_)
      have b1 : (i : Int) < (j : Int) := by omega
      have b2 : (0 : Int) ≤ ((i + c.length : Nat) : Int) := by omega
      have b3 : ((i + c.length : Nat) : Int) < (l.length : Int) := by omega
      have b4 : (0 : Int) ≤ (a : Int) := by omega
      have b5 : (a : Int) < (l.length : Int) := by omega
      have hcz : ∀ y ∈ c, kf y ≤ kf z := fun y hy => by
        have := hr.left.right (a := v1) (b := c ++ z :: d)
        exact this.across y hy z (by simp)
      have hzd : ∀ y ∈ d, kf z ≤ kf y := fun y hy => by
        have := (hr.left.right (a := v1) (b := c ++ z :: d)).right
        exact this.head y hy
      by_cases hlt : kf z < kf x
      · have IH := ih (v1 ++ c ++ [z]) d v2 (i + c.length + 1) j (by omega) (by rw [e]; simp) (by simp <;> omega) (by omega) (by simpa using hr)
          (fun y hy => by
            rcases List.mem_append.1 hy with hy | hy
            · rcases List.mem_append.1 hy with hy | hy
              · exact h1 y hy
              · have := hcz y hy; omega
            · rw [List.mem_singleton.1 hy]; exact hlt) h2
        clear ih
        refine evTo (by simp) (Ev.step (fun k => ?_) IH)
        simp only [qssmcff6.l0]
        rw [if_pos b1, ew.out, if_pos b2, if_pos b3, if_pos b4, if_pos b5, rz.out, rx.out, compare_lt hlt, someBind, if_pos (by decide), wadd (by omega)]
      · obtain ⟨t, ht, ht0⟩ := compare_ge (a := z) (b := x) (by omega)
        have IH := ih v1 c (z :: d ++ v2) i (i + c.length) (by omega) (by rw [e]; simp) hi rfl (by simpa using hr) h1
          (fun y hy => by
            rcases List.mem_append.1 hy with hy | hy
            · rcases List.mem_cons.1 hy with rfl | hy
              · omega
              · have := hzd y hy; omega
            · exact h2 y hy)
        clear ih
        refine evTo (by simp) (Ev.step (fun k => ?_) IH)
        simp only [qssmcff6.l0]
        rw [if_pos b1, ew.out, if_pos b2, if_pos b3, if_pos b4, if_pos b5, rz.out, rx.out, ht, someBind, if_neg (by omega)]

theorem sm_l3 {y : Nat} {A : List Nat} {i : Nat} (hi : i = A.length) : ∀ (n : Nat) (u w l : List Nat) (j : Nat), u.length = n → l = A ++ (u ++ y :: w) → j = A.length + u.length → l.length ≤ 1152921504606846976 →
    Ev (fun k => qssmcff6.l3 k l i j) (A ++ y :: (u ++ w)) := by
  intro n
  induction n with
  | zero =>
    intro u w l j hu e hj hl
    have hu0 : u = [] := List.length_eq_zero_iff.1 hu
    subst hu0
    refine Ev.step (fun k => ?_) (Ev.now _)
    simp only [qssmcff6.l3]
    rw [if_neg (by simp at hj; omega), e]; simp
  | succ n ih =>
    intro u w l j hu e hj hl
    obtain ⟨u', z, rfl⟩ := split_last u (by omega)
    have hu' : u'.length = n := by simpa using hu
    have hll : l.length = A.length + u'.length + 2 + w.length := by rw [e]; simp <;> omega
    obtain ⟨j', rfl⟩ : ∃ j', j = j' + 1 := ⟨j - 1, by rw [hj]; simp <;> omega⟩
    have hj' : j' = A.length + u'.length := by simp at hj; omega
    have e1 : l = (A ++ u') ++ z :: ([] ++ y :: w) := by rw [e]; simp
    have IH := ih u' (z :: w) ((A ++ u') ++ y :: ([] ++ z :: w)) j' hu' (by simp) hj' (by simp at hll ⊢; omega)
    clear ih
    have e2 := Zs.mk (wpre (i := j') (by omega))
    have b1 : ((j' + 1 : Nat) : Int) > (i : Int) := by omega
    have b2 : (0 : Int) ≤ (j' : Int) := by omega
    have b3 : (j' : Int) < (l.length : Int) := by omega
    have b4 : (0 : Int) ≤ ((j' + 1 : Nat) : Int) := by omega
    have b5 : ((j' + 1 : Nat) : Int) < (l.length : Int) := by omega
    have sw := swap_at' (i := j') (j := j' + 1) e1 (by simp <;> omega) (by simp <;> omega)
    refine evTo (by simp) (Ev.step (fun k => ?_) IH)
    simp only [qssmcff6.l3]
    rw [if_pos b1, e2.out, if_pos b2, if_pos b3, if_pos b4, if_pos b5, Int.toNat_natCast, Int.toNat_natCast, sw]
theorem sm_l2 {y : Nat} {p s l : List Nat} {m : Nat} (hl : l.length ≤ 1152921504606846976) : ∀ (n : Nat) (u1 um u2 : List Nat) (i j : Nat), um.length ≤ n → l = p ++ (u1 ++ um ++ u2) ++ y :: s → m = p.length + (u1.length + um.length + u2.length) → i = p.length + u1.length → j = i + um.length →
    Rises kf (u1 ++ um ++ u2) → (∀ z ∈ u1, kf z ≤ kf y) → (∀ z ∈ u2, kf y < kf z) →
    Ev (fun k => qssmcff6.l2 k l m i j) (p ++ msort kf ((u1 ++ um ++ u2) ++ [y]) ++ s) := by
  intro n
  induction n with
  | zero =>
    intro u1 um u2 i j hn e hm hi hj hr h1 h2
    have hum : um = [] := List.length_eq_zero_iff.1 (by omega)
    subst hum
    have em : msort kf ((u1 ++ [] ++ u2) ++ [y]) = u1 ++ y :: u2 := by
      rw [List.append_nil] at hr ⊢
      refine (msort_eq ?_ ?_).symm
      · rw [List.append_assoc]
        exact (Stab.refl _).append (Stab.swap (v := [y]) fun z hz x hx hk => by
          rw [List.mem_singleton.1 hx] at hk
          have := h2 z hz; omega)
      · refine hr.left.append (List.pairwise_cons.2 ⟨fun z hz => Int.le_of_lt (h2 z hz), hr.right⟩) fun z hz x hx => ?_
        have := h1 z hz
        rcases List.mem_cons.1 hx with rfl | hx
        · omega
        · have := h2 x hx; omega
    have hll : l.length = p.length + u1.length + u2.length + 1 + s.length := by rw [e]; simp <;> omega
    rw [em]
    refine evTo (r' := (p ++ u1) ++ y :: (u2 ++ s)) (by simp) (Ev.step (fun k => ?_) (sm_l3 (y := y) (A := p ++ u1) (i := i) (by simp <;> omega) u2.length u2 s l m rfl (by rw [e]; simp) (by simp at hm ⊢; omega) hl))
    simp only [qssmcff6.l2]
    rw [if_neg (by simp at hj; omega)]
  | succ n ih =>
    intro u1 um u2 i j hn e hm hi hj hr h1 h2
    by_cases h0 : um.length = 0
    · exact ih u1 um u2 i j (by omega) e hm hi hj hr h1 h2
    · obtain ⟨c, z, d, rfl, hc⟩ := split_mid um ((i + j) / 2 - i) (by omega)
      have hum : c.length + d.length + 1 ≤ n + 1 := by simp at hn; omega
      have hj' : j = i + c.length + d.length + 1 := by simp at hj; omega
      have hm' : m = p.length + (u1.length + c.length + 1 + d.length + u2.length) := by simp at hm; omega
      have hll' : l.length = m + 1 + s.length := by rw [e]; simp <;> omega
      have hh : (i + j) / 2 = i + c.length := by omega
      have rz : Zs (rdOf (0 : Nat) l ((i + c.length : Nat) : Int) = z) := ⟨rd_at (p := p ++ (u1 ++ c)) (s := d ++ u2 ++ y :: s) (by rw [e]; simp) (by simp <;> omega)⟩
      have ry : Zs (rdOf (0 : Nat) l (m : Int) = y) := ⟨rd_at (p := p ++ (u1 ++ (c ++ z :: d) ++ u2)) (s := s) e (by simp <;> omega)⟩
      have ew := Zs.mk (whalf (a := i) (b := j) (by omega))
      replace ew := Zs.mk (by have h_ := ew.out; rw [hh] at h_; exact h_)
      have b1 : (i : Int) < (j : Int) := by omega
      have b2 : (0 : Int) ≤ ((i + c.length : Nat) : Int) := by omega
      have b3 : ((i + c.length : Nat) : Int) < (l.length : Int) := by omega
      have b4 : (0 : Int) ≤ (m : Int) := by omega
      have b5 : (m : Int) < (l.length : Int) := by omega
      have hcz : ∀ x ∈ c, kf x ≤ kf z := fun x hx => by
        have := hr.left.right (a := u1) (b := c ++ z :: d)
        exact this.across x hx z (by simp)
      have hzd : ∀ x ∈ d, kf z ≤ kf x := fun x hx => by
        have := (hr.left.right (a := u1) (b := c ++ z :: d)).right
        exact this.head x hx
      by_cases hlt : kf y < kf z
      · have IH := ih u1 c (z :: d ++ u2) i (i + c.length) (by omega) (by rw [e]; simp) (by simp <;> omega) hi rfl (by simpa using hr) h1
          (fun x hx => by
            rcases List.mem_append.1 hx with hx | hx
            · rcases List.mem_cons.1 hx with rfl | hx
              · exact hlt
              · have := hzd x hx; omega
            · exact h2 x hx)
        clear ih
        refine evTo (by simp) (Ev.step (fun k => ?_) IH)
        simp only [qssmcff6.l2]
        rw [if_pos b1, if_pos b4, if_pos b5, ew.out, if_pos b2, if_pos b3, rz.out, ry.out, compare_lt hlt, someBind, if_pos (by decide)]
      · obtain ⟨t, ht, ht0⟩ := compare_ge (a := y) (b := z) (by omega)
        have IH := ih (u1 ++ c ++ [z]) d u2 (i + c.length + 1) j (by omega) (by rw [e]; simp) (by simp <;> omega) (by simp <;> omega) (by omega) (by simpa using hr)
          (fun x hx => by
            rcases List.mem_append.1 hx with hx | hx
            · rcases List.mem_append.1 hx with hx | hx
              · exact h1 x hx
              · have := hcz x hx; omega
            · rw [List.mem_singleton.1 hx]; omega) h2
        clear ih
        refine evTo (by simp) (Ev.step (fun k => ?_) IH)
        simp only [qssmcff6.l2]
        rw [if_pos b1, if_pos b4, if_pos b5, ew.out, if_pos b2, if_pos b3, rz.out, ry.out, ht, someBind, if_neg (by omega), wadd (by omega)]

def gk (l : List Nat) (i : Nat) : Int := kf (l.getD i 0)
theorem sm_l4 {l : List Nat} {a m b mid n s0 r0 : Nat} {res : List Nat} (hr : r0 ≤ n) (hrl : r0 ≤ l.length) (hn : n ≤ s0 + l.length) (hl : l.length ≤ 1152921504606846976) (hn1 : 1 ≤ n) (hnn : n ≤ 2305843009213693952)
    (fin : ∀ st : Nat, s0 ≤ st → st ≤ r0 → (st = s0 ∨ gk l (st - 1) ≤ gk l (n - st)) → (st = r0 ∨ gk l (n - 1 - st) < gk l st) →
      Ev (fun k => if (st : Int) < (m : Int) then qssmcff6.j6 k l a m b mid st (wrap64 ((n : Int) - (st : Int))) (decide ((m : Int) < wrap64 ((n : Int) - (st : Int)))) else qssmcff6.j6 k l a m b mid st (wrap64 ((n : Int) - (st : Int))) false) res) :
    ∀ (d st r : Nat), r - st ≤ d → s0 ≤ st → st ≤ r → r ≤ r0 → (st = s0 ∨ gk l (st - 1) ≤ gk l (n - st)) → (r = r0 ∨ gk l (n - 1 - r) < gk l r) →
      Ev (fun k => qssmcff6.l4 k l a m b mid n st r ((n - 1 : Nat) : Int)) res := by
  intro d
  induction d with
  | zero =>
    intro st r hd h0 h1 h2 h3 h4
    have : st = r := by omega
    subst this
    refine Ev.step (fun k => ?_) (fin st h0 h2 h3 h4)
    simp only [qssmcff6.l4]
    rw [if_neg (Int.lt_irrefl _)]
  | succ d ih =>
    intro st r hd h0 h1 h2 h3 h4
    by_cases hs : st = r
    · exact ih st r (by omega) h0 h1 h2 h3 h4
    · obtain ⟨c, hc⟩ : ∃ c, (st + r) / 2 = c := ⟨_, rfl⟩
      have hc1 : st ≤ c := by omega
      have hc2 : c < r := by omega
      have ew := Zs.mk (whalf (a := st) (b := r) (by omega))
      replace ew := Zs.mk (by have h_ := ew.out; rw [hc] at h_; exact h_)
      have ed := Zs.mk (wdif (a := n - 1) (b := c) (by omega) (by omega))
      have b1 : (st : Int) < (r : Int) := by omega
      have b2 : (0 : Int) ≤ ((n - 1 - c : Nat) : Int) := by omega
      have b3 : ((n - 1 - c : Nat) : Int) < (l.length : Int) := by omega
      have b4 : (0 : Int) ≤ (c : Int) := by omega
      have b5 : (c : Int) < (l.length : Int) := by omega
      by_cases hlt : gk l (n - 1 - c) < gk l c
      · have IH := ih st c (by omega) h0 hc1 (by omega) h3 (.inr hlt)
        clear ih
        refine Ev.step (fun k => ?_) IH
        simp only [qssmcff6.l4]
        rw [if_pos b1, ew.out, ed.out, if_pos b2, if_pos b3, if_pos b4, if_pos b5, rdN, rdN, compare_lt hlt, someBind, if_pos (by decide)]
      · obtain ⟨t, ht, ht0⟩ := compare_ge (a := l.getD (n - 1 - c) 0) (b := l.getD c 0) (by unfold gk at hlt; omega)
        have IH := ih (c + 1) r (by omega) (by omega) (by omega) h2 (.inr (by
          rw [Nat.add_sub_cancel, show n - (c + 1) = n - 1 - c by omega]; omega)) h4
        clear ih
        refine Ev.step (fun k => ?_) IH
        simp only [qssmcff6.l4]
        rw [if_pos b1, ew.out, ed.out, if_pos b2, if_pos b3, if_pos b4, if_pos b5, rdN, rdN, ht, someBind, if_neg (by omega), wadd (by omega)]

theorem gk_at {l p s : List Nat} {x i : Nat} (e : l = p ++ x :: s) (hi : i = p.length) : gk l i = kf x := by
  unfold gk
  rw [← rdN, rd_at e hi]
theorem cut_parts {p u1 u2 v1 v2 s l : List Nat} {st e : Nat} (hl : l = p ++ (u1 ++ u2) ++ (v1 ++ v2) ++ s) (hst : st = p.length + u1.length) (he : e = p.length + (u1.length + u2.length) + v1.length)
    (hu : Rises kf (u1 ++ u2)) (hv : Rises kf (v1 ++ v2)) (h3 : u1 = [] ∨ v2 = [] ∨ gk l (st - 1) ≤ gk l e) (h4 : u2 = [] ∨ v1 = [] ∨ gk l (e - 1) < gk l st) :
    (∀ x ∈ u1, ∀ y ∈ v2, kf x ≤ kf y) ∧ (∀ x ∈ u2, ∀ y ∈ v1, kf y < kf x) := by
  constructor
  · intro x hx y hy
    rcases h3 with h | h | h
    · rw [h] at hx; cases hx
    · rw [h] at hy; cases hy
    · obtain ⟨c, x0, rfl⟩ := split_last u1 (List.length_pos_of_mem hx)
      obtain ⟨y0, d, rfl⟩ := List.exists_cons_of_ne_nil (List.ne_nil_of_mem hy)
      rw [gk_at (i := st - 1) (p := p ++ c) (x := x0) (s := u2 ++ (v1 ++ y0 :: d) ++ s) (by rw [hl]; simp) (by rw [hst]; simp <;> omega), gk_at (i := e) (p := p ++ (c ++ [x0] ++ u2) ++ v1) (x := y0) (s := d ++ s) (by rw [hl]; simp) (by rw [he]; simp <;> omega)] at h
      have hx0 : kf x ≤ kf x0 := by
        rcases List.mem_append.1 hx with hx | hx
        · exact hu.left.across x hx x0 (by simp)
        · rw [List.mem_singleton.1 hx]; omega
      have hy0 : kf y0 ≤ kf y := by
        rcases List.mem_cons.1 hy with rfl | hy
        · omega
        · exact hv.right.head y hy
      omega
  · intro x hx y hy
    rcases h4 with h | h | h
    · rw [h] at hx; cases hx
    · rw [h] at hy; cases hy
    · obtain ⟨c, y0, rfl⟩ := split_last v1 (List.length_pos_of_mem hy)
      obtain ⟨x0, d, rfl⟩ := List.exists_cons_of_ne_nil (List.ne_nil_of_mem hx)
      rw [gk_at (i := st) (p := p ++ u1) (x := x0) (s := d ++ (c ++ [y0] ++ v2) ++ s) (by rw [hl]; simp) (by rw [hst]; simp), gk_at (i := e - 1) (p := p ++ (u1 ++ x0 :: d) ++ c) (x := y0) (s := v2 ++ s) (by rw [hl]; simp) (by rw [he]; simp <;> omega)] at h
      have hy0 : kf y ≤ kf y0 := by
        rcases List.mem_append.1 hy with hy | hy
        · exact hv.left.across y hy y0 (by simp)
        · rw [List.mem_singleton.1 hy]; omega
      have hx0 : kf x0 ≤ kf x := by
        rcases List.mem_cons.1 hx with rfl | hx
        · omega
        · exact hu.right.head x hx
      omega

def Merges (N : Nat) : Prop := ∀ (u v p s l : List Nat) (a m b : Nat), u.length + v.length ≤ N → l = p ++ u ++ v ++ s → a = p.length → m = p.length + u.length → b = p.length + u.length + v.length → Rises kf u → Rises kf v → 0 < u.length → 0 < v.length → l.length ≤ 288230376151711744 →
  Ev (fun k => qssmcff6.f k l a m b) (p ++ msort kf (u ++ v) ++ s)
theorem sm_right {N : Nat} (ih : Merges N) {X u2 v2 s l : List Nat} {mid e b : Nat} (hl : l = X ++ (u2 ++ v2) ++ s) (hX : mid = X.length) (he : e = mid + u2.length) (hb : b = e + v2.length) (hu : Rises kf u2) (hv : Rises kf v2) (hN : u2.length + v2.length ≤ N) (hll : l.length ≤ 288230376151711744) :
    Ev (fun k => if (mid : Int) < (e : Int) then (if (e : Int) < (b : Int) then ((qssmcff6.f k l mid e b).bind fun t => (some t)) else (some l)) else (some l)) (X ++ msort kf (u2 ++ v2) ++ s) := by
  by_cases h1 : mid < e
  · by_cases h2 : e < b
    · refine Ev.congr (fun k => ?_) (Ev.bind (f := fun _ t => some t) (ih u2 v2 X s l mid e b hN (by rw [hl]; simp) hX (by omega) (by omega) hu hv (by omega) (by omega) hll) (Ev.now _))
      rw [if_pos (by omega), if_pos (by omega)]
    · have : v2 = [] := List.length_eq_zero_iff.1 (by omega)
      subst this
      refine evTo (r' := l) (by rw [hl, List.append_nil, msort_of_rises hu]) (Ev.congr (fun k => ?_) (Ev.now _))
      rw [if_pos (by omega), if_neg (by omega)]
  · have : u2 = [] := List.length_eq_zero_iff.1 (by omega)
    subst this
    refine evTo (r' := l) (by rw [hl, List.nil_append, msort_of_rises hv]) (Ev.congr (fun k => ?_) (Ev.now _))
    rw [if_neg (by omega)]
theorem sm_j7 {N : Nat} (ih : Merges N) {p u1 u2 v1 v2 s l : List Nat} {a mid st e b : Nat} (hl : l = p ++ (u1 ++ v1) ++ (u2 ++ v2) ++ s) (ha : a = p.length) (hst : st = a + u1.length) (hmid : mid = st + v1.length) (he : e = mid + u2.length) (hb : b = e + v2.length)
    (hu : Rises kf (u1 ++ u2)) (hv : Rises kf (v1 ++ v2)) (hc : (∀ x ∈ u1, ∀ y ∈ v2, kf x ≤ kf y) ∧ (∀ x ∈ u2, ∀ y ∈ v1, kf y < kf x)) (hN1 : u1.length + v1.length ≤ N) (hN2 : u2.length + v2.length ≤ N) (hll : l.length ≤ 288230376151711744) :
    Ev (fun k => qssmcff6.j7 k l a b mid st e) (p ++ msort kf ((u1 ++ u2) ++ (v1 ++ v2)) ++ s) := by
  have hlen : l.length = p.length + u1.length + v1.length + u2.length + v2.length + s.length := by rw [hl]; simp <;> omega
  have hm1 := length_msort (key := kf) (u1 ++ v1)
  obtain ⟨L2, hL2⟩ : ∃ L2, L2 = (p ++ msort kf (u1 ++ v1)) ++ (u2 ++ v2) ++ s := ⟨_, rfl⟩
  have R := sm_right ih (X := p ++ msort kf (u1 ++ v1)) (l := L2) (mid := mid) (e := e) (b := b) hL2 (by rw [List.length_append, hm1, List.length_append]; omega) he hb hu.right hv.right hN2 (by
    rw [hL2]; simp only [List.length_append, hm1]; omega)
  have em := merge_parts hu hv hc.1 hc.2
  have R2 := evTo (r := p ++ msort kf ((u1 ++ u2) ++ (v1 ++ v2)) ++ s) (by rw [← em]; simp) R
  by_cases h : a < st ∧ st < mid
  · refine Ev.step (f := fun k => qssmcff6.j8 k l a b mid st e true) (fun k => ?_) (Ev.step (fun k => ?_) (Ev.bind
      (f := fun k t => if (mid : Int) < (e : Int) then (if (e : Int) < (b : Int) then ((qssmcff6.f k t mid e b).bind fun t => (some t)) else (some t)) else (some t))
      (ih u1 v1 p (u2 ++ v2 ++ s) l a st mid hN1 (by rw [hl]; simp) ha (by omega) (by omega) hu.left hv.left (by omega) (by omega) hll) ?_))
    · simp only [qssmcff6.j7]
      rw [if_pos (by omega), decide_eq_true (by omega)]
    · simp only [qssmcff6.j8]
      rw [if_pos (by simp)]
    · rw [show p ++ msort kf (u1 ++ v1) ++ (u2 ++ v2 ++ s) = L2 by rw [hL2]; simp]
      exact R2
  · have hl2 : l = L2 := by
      rw [hl, hL2]
      have : msort kf (u1 ++ v1) = u1 ++ v1 := by
        by_cases h1 : a < st
        · have hv1 : v1 = [] := List.length_eq_zero_iff.1 (by omega)
          rw [hv1, List.append_nil]; exact msort_of_rises hu.left
        · have hu1 : u1 = [] := List.length_eq_zero_iff.1 (by omega)
          rw [hu1, List.nil_append]; exact msort_of_rises hv.left
      rw [this]
    rw [← hl2] at R2
    refine Ev.step (f := fun k => qssmcff6.j8 k l a b mid st e false) (fun k => ?_) (Ev.step (fun k => ?_) R2)
    · simp only [qssmcff6.j7]
      by_cases h1 : a < st
      · rw [if_pos (by omega), decide_eq_false (by omega)]
      · rw [if_neg (by omega)]
    · simp only [qssmcff6.j8]
      rw [if_neg (by simp)]
theorem sm_j6 {N : Nat} (ih : Merges N) {p u1 u2 v1 v2 s l : List Nat} {a m mid st e b : Nat} (hl : l = p ++ (u1 ++ u2) ++ (v1 ++ v2) ++ s) (ha : a = p.length) (hst : st = a + u1.length) (hm : m = st + u2.length) (hmid : mid = st + v1.length) (he : e = mid + u2.length) (hb : b = e + v2.length)
    (hu : Rises kf (u1 ++ u2)) (hv : Rises kf (v1 ++ v2)) (hc : (∀ x ∈ u1, ∀ y ∈ v2, kf x ≤ kf y) ∧ (∀ x ∈ u2, ∀ y ∈ v1, kf y < kf x)) (hN1 : u1.length + v1.length ≤ N) (hN2 : u2.length + v2.length ≤ N) (hll : l.length ≤ 288230376151711744) :
    Ev (fun k => if (st : Int) < (m : Int) then qssmcff6.j6 k l a m b mid st e (decide ((m : Int) < (e : Int))) else qssmcff6.j6 k l a m b mid st e false) (p ++ msort kf ((u1 ++ u2) ++ (v1 ++ v2)) ++ s) := by
  have hlen : l.length = p.length + u1.length + v1.length + u2.length + v2.length + s.length := by rw [hl]; simp <;> omega
  obtain ⟨L1, hL1⟩ : ∃ L1, L1 = p ++ (u1 ++ v1) ++ (u2 ++ v2) ++ s := ⟨_, rfl⟩
  have R := sm_j7 ih (l := L1) hL1 ha hst hmid he hb hu hv hc hN1 hN2 (by rw [hL1]; simp <;> omega)
  by_cases h : st < m ∧ m < e
  · have X := rot (P := p ++ u1) (u := u2) (v := v1) (Q := v2 ++ s) (l := l) (a := st) (m := m) (b := e) (by rw [hl]; simp) (by simp <;> omega) (by simp <;> omega) (by simp <;> omega) (by omega) (by omega) (by omega)
    rw [show p ++ u1 ++ v1 ++ u2 ++ (v2 ++ s) = L1 by rw [hL1]; simp] at X
    refine Ev.congr (g := fun k => _) (f := fun k => qssmcff6.j6 k l a m b mid st e true) (fun k => ?_) (Ev.step (fun k => ?_) (Ev.bind (f := fun k t => qssmcff6.j7 k t a b mid st e) X R))
    · rw [if_pos (by omega), decide_eq_true (by omega)]
    · simp only [qssmcff6.j6]
      rw [if_pos (by simp)]
  · have hl1 : l = L1 := by
      rw [hl, hL1]
      by_cases h1 : st < m
      · have hv1 : v1 = [] := List.length_eq_zero_iff.1 (by omega)
        rw [hv1]; simp
      · have hu2 : u2 = [] := List.length_eq_zero_iff.1 (by omega)
        rw [hu2]; simp
    rw [← hl1] at R
    refine Ev.congr (g := fun k => _) (f := fun k => qssmcff6.j6 k l a m b mid st e false) (fun k => ?_) (Ev.step (fun k => ?_) R)
    · by_cases h1 : st < m
      · rw [if_pos (by omega), decide_eq_false (by omega)]
      · rw [if_neg (by omega)]
    · simp only [qssmcff6.j6]
      rw [if_neg (by simp)]
theorem merges : ∀ N, Merges N := by
  intro N
  induction N with
  | zero => intro u v p s l a m b hN hl ha hm hb hu hv h0 h1 hll; omega
  | succ N ih =>
    intro u v p s l a m b hN hl ha hm hb hu hv h0 h1 hll
    have hlen : l.length = p.length + u.length + v.length + s.length := by rw [hl]; simp <;> omega
    have e1 := Zs.mk (wdif (a := m) (b := a) (by omega) (by omega))
    have e2 := Zs.mk (wdif (a := b) (b := m) (by omega) (by omega))
    by_cases hnu : u.length = 1
    · obtain ⟨x, rfl⟩ := List.length_eq_one_iff.1 hnu
      refine Ev.step (fun k => ?_) (sm_l0 (x := x) (p := p) (s := s) (l := l) (a := a) ha (by omega) v.length [] v [] m b (Nat.le_refl _) (by rw [hl]; simp) (by simp <;> omega) (by simp at hm; omega) (by simpa using hv) (by simp) (by simp)) |> evTo (by simp)
      simp only [qssmcff6.f]
      rw [e1.out, if_pos (by omega)]
    · by_cases hnv : v.length = 1
      · obtain ⟨y, rfl⟩ := List.length_eq_one_iff.1 hnv
        refine Ev.step (fun k => ?_) (sm_l2 (y := y) (p := p) (s := s) (l := l) (m := m) (by omega) u.length [] u [] a m (Nat.le_refl _) (by rw [hl]; simp) (by simp <;> omega) (by simp <;> omega) (by omega) (by simpa using hu) (by simp) (by simp)) |> evTo (by simp)
        simp only [qssmcff6.f]
        rw [e1.out, if_neg (by omega), e2.out, if_pos (by omega)]
      · obtain ⟨mid, hmid⟩ : ∃ mid, (a + b) / 2 = mid := ⟨_, rfl⟩
        have ew := Zs.mk (whalf (a := a) (b := b) (by omega))
        replace ew := Zs.mk (by have h_ := ew.out; rw [hmid] at h_; exact h_)
        have en := Zs.mk (wsum (a := mid) (b := m) (by omega))
        have key : ∀ s0 r0 : Nat, ((m > mid ∧ s0 = mid + m - b ∧ r0 = mid) ∨ (¬ m > mid ∧ s0 = a ∧ r0 = m)) →
            Ev (fun k => qssmcff6.l4 k l a m b mid ((mid + m : Nat) : Int) s0 r0 ((mid + m - 1 : Nat) : Int)) (p ++ msort kf (u ++ v) ++ s) := by
          intro s0 r0 hsr
          refine sm_l4 (s0 := s0) (r0 := r0) (by omega) (by omega) (by omega) (by omega) (by omega) (by omega) ?_ (r0 - s0) s0 r0 (Nat.le_refl _) (Nat.le_refl _) (by omega) (Nat.le_refl _) (.inl rfl) (.inl rfl)
          intro st hs0 hsr0 h3 h4
          rw [wdif (a := mid + m) (b := st) (by omega) (by omega)]
          obtain ⟨u1, u2, rfl, hu1⟩ := split_at u (st - a) (by omega)
          obtain ⟨v1, v2, rfl, hv1⟩ := split_at v (mid + m - st - m) (by omega)
          simp only [List.length_append] at hm hb hN hlen h0 h1 hnu hnv
          refine sm_j6 ih hl ha (by omega) (by omega) (by omega) (by omega) (by omega) hu hv ?_ (by omega) (by omega) hll
          refine cut_parts (st := st) (e := mid + m - st) hl (by omega) (by omega) hu hv ?_ ?_
          · rcases h3 with h3 | h3
            · rcases hsr with ⟨hm1, hs, hr⟩ | ⟨hm1, hs, hr⟩
              · exact .inr (.inl (List.length_eq_zero_iff.1 (by omega)))
              · exact .inl (List.length_eq_zero_iff.1 (by omega))
            · exact .inr (.inr h3)
          · rcases h4 with h4 | h4
            · rcases hsr with ⟨hm1, hs, hr⟩ | ⟨hm1, hs, hr⟩
              · exact .inr (.inl (List.length_eq_zero_iff.1 (by omega)))
              · exact .inl (List.length_eq_zero_iff.1 (by omega))
            · exact .inr (.inr (by rw [show mid + m - st - 1 = mid + m - 1 - st by omega]; exact h4))
        have ep := Zs.mk (wdif (a := mid + m) (b := 1) (by omega) (by omega))
        by_cases hgt : m > mid
        · have es := wdif (a := mid + m) (b := b) (by omega) (by omega)
          refine Ev.step (f := fun k => qssmcff6.j4 k l a m b mid ((mid + m : Nat) : Int) ((mid + m - b : Nat) : Int) mid) (fun k => ?_) (Ev.step (fun k => ?_) (key _ _ (.inl ⟨hgt, rfl, rfl⟩)))
          · simp only [qssmcff6.f]
            rw [e1.out, if_neg (by omega), e2.out, if_neg (by omega), ew.out, if_pos (by omega), en.out, es]
          · simp only [qssmcff6.j4]
            rw [show (1 : Int) = ((1 : Nat) : Int) from rfl, ep.out]
        · refine Ev.step (f := fun k => qssmcff6.j4 k l a m b mid ((mid + m : Nat) : Int) a m) (fun k => ?_) (Ev.step (fun k => ?_) (key _ _ (.inr ⟨hgt, rfl, rfl⟩)))
          · simp only [qssmcff6.f]
            rw [e1.out, if_neg (by omega), e2.out, if_neg (by omega), ew.out, if_neg (by omega), en.out]
          · simp only [qssmcff6.j4]
            rw [show (1 : Int) = ((1 : Nat) : Int) from rfl, ep.out]
theorem st_l2 {n bs : Nat} {l0 res : List Nat} (hbs : 1 ≤ bs) (hbn : bs < n) (hn : n ≤ 72057594037927936)
    (fin : ∀ l : List Nat, Stab kf l0 l → l.length = n → Runs kf (2 * bs) l → Ev (fun k => qsscff6.l1 k l n ((bs * 2 : Nat) : Int)) res) :
    ∀ (d : Nat) (p q l : List Nat) (c a b : Nat), q.length ≤ d → l = p ++ q → l.length = n → Stab kf l0 l → Runs kf (2 * bs) p → p.length = c * (2 * bs) → Runs kf bs q → a = p.length → b = a + 2 * bs →
      Ev (fun k => qsscff6.l2 k l n bs a b) res := by
  have last : ∀ (p q l : List Nat) (c a b : Nat), l = p ++ q → l.length = n → Stab kf l0 l → Runs kf (2 * bs) p → p.length = c * (2 * bs) → Runs kf bs q → a = p.length → b = a + 2 * bs → ¬ b ≤ n →
      Ev (fun k => qsscff6.l2 k l n bs a b) res := by
    intro p q l c a b e hl hs hp hpc hq ha hb hbn'
    have hlen : l.length = p.length + q.length := by rw [e]; simp
    have ew := Zs.mk (wsum (a := a) (b := bs) (by omega))
    have e2 : Zs (wrap64 ((bs : Int) * 2) = ((bs * 2 : Nat) : Int)) := ⟨w64' (by omega) (by omega)⟩
    by_cases h : a + bs < n
    · obtain ⟨u, v, rfl, hu⟩ := split_at q bs (by omega)
      simp only [List.length_append] at hlen
      rw [Runs.cons hu] at hq
      have M := merges (u.length + v.length) u v p [] l a (a + bs) n (Nat.le_refl _) (by rw [e]; simp) ha (by omega) (by omega) hq.1 (hq.2.all (by omega)) (by omega) (by omega) (by omega)
      have hm := length_msort (key := kf) (u ++ v)
      have F := fin (p ++ msort kf (u ++ v) ++ []) (by rw [List.append_nil]; exact (e ▸ hs).trans ((Stab.refl p).append (stab_msort _))) (by rw [List.append_nil, List.length_append, hm, List.length_append]; omega) (by
        rw [List.append_nil]
        exact hp.snoc hpc (rises_msort _) (by rw [hm, List.length_append]; omega))
      refine Ev.step (fun k => ?_) (Ev.bind (f := fun k t => qsscff6.l1 k t n ((bs * 2 : Nat) : Int)) M F)
      simp only [qsscff6.l2]
      rw [if_neg (by omega), ew.out, if_pos (by omega), e2.out]
    · have F := fin l hs hl (by rw [e]; exact hp.snoc hpc (hq.all (by omega)) (by omega))
      refine Ev.step (fun k => ?_) F
      simp only [qsscff6.l2]
      rw [if_neg (by omega), ew.out, if_neg (by omega), e2.out]
  intro d
  induction d with
  | zero =>
    intro p q l c a b hd e hl hs hp hpc hq ha hb
    have hlen : l.length = p.length + q.length := by rw [e]; simp
    exact last p q l c a b e hl hs hp hpc hq ha hb (by omega)
  | succ d ih =>
    intro p q l c a b hd e hl hs hp hpc hq ha hb
    have hlen : l.length = p.length + q.length := by rw [e]; simp
    by_cases h : b ≤ n
    · obtain ⟨u, q1, rfl, hu⟩ := split_at q bs (by omega)
      simp only [List.length_append] at hlen hd
      obtain ⟨v, q2, rfl, hv⟩ := split_at q1 bs (by omega)
      simp only [List.length_append] at hlen hd
      rw [Runs.cons hu, Runs.cons hv] at hq
      have M := merges (u.length + v.length) u v p q2 l a (a + bs) b (Nat.le_refl _) (by rw [e]; simp) ha (by omega) (by omega) hq.1 hq.2.1 (by omega) (by omega) (by omega)
      have hm := length_msort (key := kf) (u ++ v)
      have IH := ih (p ++ msort kf (u ++ v)) q2 (p ++ msort kf (u ++ v) ++ q2) (c + 1) b (b + 2 * bs) (by omega) rfl (by simp only [List.length_append, hm]; omega)
        ((e ▸ hs).trans (by
          rw [show p ++ (u ++ (v ++ q2)) = p ++ (u ++ v) ++ q2 by simp]
          exact ((Stab.refl p).append (stab_msort _)).append (Stab.refl q2)))
        (hp.snoc hpc (rises_msort _) (by rw [hm, List.length_append]; omega)) (by rw [List.length_append, hm, hpc, List.length_append, Nat.add_mul c 1 (2 * bs), Nat.one_mul]; omega) hq.2.2 (by rw [List.length_append, hm, List.length_append]; omega) rfl
      have ew := Zs.mk (wsum (a := a) (b := bs) (by omega))
      have e2 : Zs (wrap64 (2 * (bs : Int)) = ((2 * bs : Nat) : Int)) := ⟨w64' (by omega) (by omega)⟩
      have e3 := Zs.mk (wsum (a := b) (b := 2 * bs) (by omega))
      refine Ev.step (fun k => ?_) (Ev.bind (f := fun k t => qsscff6.l2 k t n bs b ((b + 2 * bs : Nat) : Int)) M IH)
      simp only [qsscff6.l2]
      rw [if_pos (by omega), ew.out, e2.out, e3.out]
    · exact last p q l c a b e hl hs hp hpc hq ha hb h
theorem st_l1 {n : Nat} {l0 : List Nat} (hn : n ≤ 72057594037927936) : ∀ (d bs : Nat) (l : List Nat), n - bs ≤ d → 1 ≤ bs → Stab kf l0 l → l.length = n → Runs kf bs l → bs ≤ 144115188075855872 →
    Ev (fun k => qsscff6.l1 k l n bs) (msort kf l0) := by
  intro d
  induction d with
  | zero =>
    intro bs l hd hbs hs hl hr hb
    rw [← msort_eq hs (hr.all (by omega))]
    refine Ev.step (fun k => ?_) (Ev.now _)
    simp only [qsscff6.l1]
    rw [if_neg (by omega)]
  | succ d ih =>
    intro bs l hd hbs hs hl hr hb
    by_cases h : bs < n
    · have e2 : wrap64 (2 * (bs : Int)) = ((2 * bs : Nat) : Int) := w64' (by omega) (by omega)
      refine Ev.step (fun k => ?_) (st_l2 (n := n) (bs := bs) (l0 := l0) hbs h hn (fun l' h1 h2 h3 => ih (bs * 2) l' (by omega) (by omega) h1 h2 (by rw [Nat.mul_comm]; exact h3) (by omega)) l.length [] l l 0 0 (2 * bs) (Nat.le_refl _) rfl hl hs (Runs.nil _) (by simp) hr rfl (by omega))
      simp only [qsscff6.l1]
      rw [if_pos (by omega), e2]; rfl
    · rw [← msort_eq hs (hr.all (by omega))]
      refine Ev.step (fun k => ?_) (Ev.now _)
      simp only [qsscff6.l1]
      rw [if_neg (by omega)]
theorem st_l0 {n : Nat} {l0 : List Nat} (hn : n ≤ 72057594037927936) : ∀ (d : Nat) (p q l : List Nat) (c a b : Nat), q.length ≤ d → l = p ++ q → l.length = n → Stab kf l0 l → Runs kf 20 p → p.length = c * 20 → a = p.length → b = a + 20 →
    Ev (fun k => qsscff6.l0 k l n 20 a b) (msort kf l0) := by
  have last : ∀ (p q l : List Nat) (c a b : Nat), l = p ++ q → l.length = n → Stab kf l0 l → Runs kf 20 p → p.length = c * 20 → a = p.length → b = a + 20 → ¬ b ≤ n →
      Ev (fun k => qsscff6.l0 k l n 20 a b) (msort kf l0) := by
    intro p q l c a b e hl hs hp hpc ha hb hbn
    have hlen : l.length = p.length + q.length := by rw [e]; simp
    have I := ins (p := p) (u := q) (s := []) (l := l) (a := a) (b := n) (by rw [e]; simp) ha (by omega) (by omega)
    have hm := length_msort (key := kf) q
    have F := st_l1 (n := n) (l0 := l0) hn n 20 (p ++ msort kf q ++ []) (by omega) (by omega) (by rw [List.append_nil]; exact (e ▸ hs).trans ((Stab.refl p).append (stab_msort q))) (by rw [List.append_nil, List.length_append, hm]; omega)
      (by rw [List.append_nil]; exact hp.snoc hpc (rises_msort _) (by omega)) (by omega)
    refine Ev.step (fun k => ?_) (Ev.bind (f := fun k t => qsscff6.l1 k t n 20) I F)
    simp only [qsscff6.l0]
    rw [if_neg (by omega)]
  intro d
  induction d with
  | zero =>
    intro p q l c a b hd e hl hs hp hpc ha hb
    have hlen : l.length = p.length + q.length := by rw [e]; simp
    exact last p q l c a b e hl hs hp hpc ha hb (by omega)
  | succ d ih =>
    intro p q l c a b hd e hl hs hp hpc ha hb
    have hlen : l.length = p.length + q.length := by rw [e]; simp
    by_cases h : b ≤ n
    · obtain ⟨u, q2, rfl, hu⟩ := split_at q 20 (by omega)
      simp only [List.length_append] at hlen hd
      have I := ins (p := p) (u := u) (s := q2) (l := l) (a := a) (b := b) (by rw [e]; simp) ha (by omega) (by omega)
      have hm := length_msort (key := kf) u
      have IH := ih (p ++ msort kf u) q2 (p ++ msort kf u ++ q2) (c + 1) b (b + 20) (by omega) rfl (by simp only [List.length_append, hm]; omega)
        ((e ▸ hs).trans (by
          rw [show p ++ (u ++ q2) = p ++ u ++ q2 by simp]
          exact ((Stab.refl p).append (stab_msort _)).append (Stab.refl q2)))
        (hp.snoc hpc (rises_msort _) (by omega)) (by rw [List.length_append, hm, hpc]; omega) (by rw [List.length_append, hm]; omega) rfl
      have e3 := Zs.mk (wsum (a := b) (b := 20) (by omega))
      refine Ev.step (fun k => ?_) (Ev.bind (f := fun k t => qsscff6.l0 k t n 20 b ((b + 20 : Nat) : Int)) I IH)
      simp only [qsscff6.l0]
      rw [if_pos (by omega), show (20 : Int) = ((20 : Nat) : Int) from rfl, e3.out]
    · exact last p q l c a b e hl hs hp hpc ha hb h
theorem stable {l : List Nat} (hl : l.length ≤ 72057594037927936) : Ev (fun k => qsscff6.f k l l.length) (msort kf l) := by
  exact Ev.congr (fun k => rfl) (st_l0 (n := l.length) (l0 := l) hl l.length [] l l 0 0 20 (Nat.le_refl _) rfl rfl (Stab.refl l) (Runs.nil _) rfl rfl rfl)
end Go.Proofs.Ytkmbgfhkdopigaa.Stab
namespace Go.Proofs.Ytkmbgfhkdopigaa.P
open Go.RowKit Go.Proofs.YtkmbgfhkdopigaaW.PrintWords Go.Proofs.YtkmbgfhkdopigaaW.PrintLast Go.Proofs.YtkmbgfhkdopigaaW.PrintMore
attribute [local go_sem] max2_int min2_int max_two min_two max_three min_three max_four min_four
attribute [local go_sem] Go.Proofs.Ytkmbgfhkdopigaa.Fl.store_float Go.Proofs.Ytkmbgfhkdopigaa.Fl.call54 Go.Proofs.Ytkmbgfhkdopigaa.Fl.call22 Go.Proofs.Ytkmbgfhkdopigaa.Fl.call14 Go.Proofs.Ytkmbgfhkdopigaa.Fl.call28
set_option linter.unusedVariables false
set_option linter.unusedSimpArgs false


end Go.Proofs.Ytkmbgfhkdopigaa.P
namespace Go.Proofs.Ytkmbgfhkdopigaa.Stab
set_option linter.unusedSimpArgs false
open Go.RowKit Go.Proofs.Ytkmbgfhkdopigaa.P Go.Proofs.YtkmbgfhkdopigaaW.PrintWords
def Ks (o : List Int) : Prop := ∀ k ∈ o, 0 ≤ k ∧ k ≤ 18437736874454810624
def dkeys (l : List Nat) : List Int := (qod.ded (qod.keys l)).mergeSort (fun x y => decide (x ≤ y))
theorem mem_dkeys (l : List Nat) (k : Int) : k ∈ dkeys l ↔ ∃ x ∈ l, nan x = false ∧ kf x = k := by
  unfold dkeys
  rw [(List.mergeSort_perm _ _).mem_iff, qod.mem_ded]
  unfold qod.keys
  rw [List.mem_map]
  have e : ∀ x, qod.num x = true ↔ nan x = false := fun x => by
    have := flo_ne x
    unfold qod.num
    rw [← this]
    simp [bne]
  constructor
  · rintro ⟨x, hx, rfl⟩
    rw [List.mem_filter] at hx
    exact ⟨x, hx.1, (e x).1 hx.2, rfl⟩
  · rintro ⟨x, hx, hn, rfl⟩
    exact ⟨x, List.mem_filter.2 ⟨hx, (e x).2 hn⟩, rfl⟩
theorem ks_dkeys {l : List Nat} (hl : ∀ x ∈ l, x < 18446744073709551616) : Ks (dkeys l) := by
  intro k hk
  obtain ⟨x, hx, hn, rfl⟩ := (mem_dkeys l k).1 hk
  exact (kf_num (hl x hx) hn).2
theorem distinct_some (l : List Nat) (hw : ∀ x ∈ l, x < 18446744073709551616) (hl : l.length < 17592186044416) : qod.f l = some ((dkeys l).map atN) := by
  unfold qod.f
  rw [if_pos hl]
  refine congrArg some (List.map_congr_left fun k hk => ?_)
  have h := ks_dkeys hw k hk
  unfold qod.at_
  rw [at_num h.1 h.2]; rfl
end Go.Proofs.Ytkmbgfhkdopigaa.Stab
namespace Go.Proofs.Ytkmbgfhkdopigaa.Stab
open Go.RowKit Go.Proofs.Ytkmbgfhkdopigaa.P Go.Proofs.YtkmbgfhkdopigaaW.PrintWords
theorem sorted_ev (l : List Nat) (hl : l.length < 17592186044416) : Ev (fun k => qos.f k l) (msort kf l) := by
  refine Ev.congr (fun k => ?_) (Ev.bind (f := fun _ t => some t) (Ev.bind (f := fun _ t => some t) (stable (l := l) (by omega)) (Ev.now _)) (Ev.now _))
  unfold qos.f qsssff6f6.f
  rw [if_pos (by simpa using hl), List.nil_append]
end Go.Proofs.Ytkmbgfhkdopigaa.Stab
namespace Go.Proofs.Ytkmbgfhkdopigaa.P
open Go.RowKit Go.Proofs.YtkmbgfhkdopigaaW.PrintWords Go.Proofs.YtkmbgfhkdopigaaW.PrintLast Go.Proofs.YtkmbgfhkdopigaaW.PrintMore
attribute [local go_sem] max2_int min2_int max_two min_two max_three min_three max_four min_four
attribute [local go_sem] Go.Proofs.Ytkmbgfhkdopigaa.Fl.store_float Go.Proofs.Ytkmbgfhkdopigaa.Fl.call54 Go.Proofs.Ytkmbgfhkdopigaa.Fl.call22 Go.Proofs.Ytkmbgfhkdopigaa.Fl.call14 Go.Proofs.Ytkmbgfhkdopigaa.Fl.call28
set_option linter.unusedVariables false
set_option linter.unusedSimpArgs false



end Go.Proofs.Ytkmbgfhkdopigaa.P
namespace Go.Proofs.Ytkmbgfhkdopigaa.Stab
set_option linter.unusedSimpArgs false
open Go.RowKit Go.Proofs.Ytkmbgfhkdopigaa.P Go.Proofs.YtkmbgfhkdopigaaW.PrintWords

theorem kf_one : kf 4607182418800017408 = 13826050856027422720 := by rw [kf_spec _ (by decide), show nan 4607182418800017408 = false by decide, pl_eq _ (by decide)]; rfl
theorem kf_two : kf 4611686018427387904 = 13830554455654793216 := by rw [kf_spec _ (by decide), show nan 4611686018427387904 = false by decide, pl_eq _ (by decide)]; rfl
theorem kf_zero : kf 0 = 9218868437227405312 := by rw [kf_spec _ (by decide), show nan 0 = false by decide, pl_eq _ (by decide)]; rfl
theorem begins_true : qt0b.f = some true := by
  have e1 : qoa.f (IntKind.u64.wrap (13826050856027422720 + 1)) = some (4607182418800017409, 0) := by rw [IntKind.wrap_u64]; exact at_num (k := 13826050856027422721) (by decide) (by decide)
  have e2 := compare_lt (a := 4607182418800017408) (b := 4611686018427387904) (by rw [kf_one, kf_two]; decide)
  unfold qt0b.f qon.f qos1.f
  rw [flo_ne, show nan 4607182418800017408 = false by decide, if_neg Bool.false_ne_true, key_some, someBind, kf_one, if_neg (by decide), someBind, e1, e2]
  simp only [someBind, key_some, kf_zero]
  decide +kernel

def rep (x : Nat) : Nat := if nan x then 18446744073709551616 else x
def fr : List Bool → List Nat → List Nat
  | f :: u, y :: b => if f then fr u b else rep y :: fr u b
  | _, _ => []
end Go.Proofs.Ytkmbgfhkdopigaa.Stab
namespace Go.Proofs.Ytkmbgfhkdopigaa.Pure
open Go.RowKit Go.Proofs.Ytkmbgfhkdopigaa.P Go.Proofs.YtkmbgfhkdopigaaW.PrintWords Go.Proofs.YtkmbgfhkdopigaaW.PrintLast Go.Proofs.Ytkmbgfhkdopigaa.Stab

end Go.Proofs.Ytkmbgfhkdopigaa.Pure
namespace Go.Proofs.Ytkmbgfhkdopigaa.Stab
set_option linter.unusedSimpArgs false
open Go.RowKit Go.Proofs.Ytkmbgfhkdopigaa.P Go.Proofs.YtkmbgfhkdopigaaW.PrintWords

def upI (l : List Nat) : List Int := l.map fun (n : Nat) => (n : Int)
theorem length_upI (l : List Nat) : (upI l).length = l.length := List.length_map _
theorem kf_inf : kf 9218868437227405312 = 18437736874454810624 := by rw [kf_spec _ (by decide), show nan 9218868437227405312 = false by decide, pl_eq _ (by decide)]; rfl

theorem own_l0 {x3 x4 x5 x6 x7 : List Nat} {r : Bool} (hl : x5.length < 17592186044416) (next : Ev (fun k => qt0oo.l1 k x3 x4 x5 x6 x7 (upI x5) 0) r) : ∀ (q p : List Nat) (i : Nat), x5 = p ++ q → i = p.length →
    Ev (fun k => qt0oo.l0 k x3 x4 x5 x6 x7 (upI p) i) r := by
  intro q
  induction q with
  | nil =>
    intro p i e hi
    rw [List.append_nil] at e
    subst e
    refine Ev.step (fun k => ?_) next
    simp only [qt0oo.l0]
    rw [if_neg (by omega)]
  | cons x q ih =>
    intro p i e hi
    have hll : x5.length = p.length + 1 + q.length := by rw [e]; simp; omega
    have rx : Zs (rdOf (0 : Nat) x5 (i : Int) = x) := ⟨rd_at e hi⟩
    have hup := length_upI p
    refine Ev.step (fun k => ?_) (ih (p ++ [x]) (i + 1) (by rw [e]; simp) (by simp; omega))
    simp only [qt0oo.l0]
    rw [if_pos (by omega), if_pos (by omega), if_pos (by omega), rx.out, wadd (by omega)]
    unfold upI
    rw [List.map_append]; rfl
theorem own_l1 {x3 x4 x5 x6 x7 : List Nat} {r : Bool} {b : List Int} (hl : b.length + x7.length < 17592186044416) (next : Ev (fun k => qt0oo.l2 k x3 x4 x5 x6 x7 (b ++ upI x7) 0) r) : ∀ (q p : List Nat) (i : Nat), x7 = p ++ q → i = p.length →
    Ev (fun k => qt0oo.l1 k x3 x4 x5 x6 x7 (b ++ upI p) i) r := by
  intro q
  induction q with
  | nil =>
    intro p i e hi
    rw [List.append_nil] at e
    subst e
    refine Ev.step (fun k => ?_) next
    simp only [qt0oo.l1]
    rw [if_neg (by omega)]
  | cons x q ih =>
    intro p i e hi
    have hll : x7.length = p.length + 1 + q.length := by rw [e]; simp; omega
    have rx : Zs (rdOf (0 : Nat) x7 (i : Int) = x) := ⟨rd_at e hi⟩
    have hup := length_upI p
    have hlb : (b ++ upI p).length < 17592186044416 := by rw [List.length_append]; omega
    refine Ev.step (fun k => ?_) (ih (p ++ [x]) (i + 1) (by rw [e]; simp) (by simp; omega))
    simp only [qt0oo.l1]
    rw [if_pos (by omega), if_pos (by omega), if_pos hlb, rx.out, wadd (by omega)]
    unfold upI
    rw [List.map_append, ← List.append_assoc]; rfl
theorem own_l2 {x3 x5 x6 x7 : List Nat} {x8 : List Int} {r : Bool} {n : Nat} (hn : n < 17592186044416) (next : Ev (fun k => qt0oo.l3 k x3 (List.replicate n 13837309855095848960) x5 x6 x7 x8 0) r) : ∀ (q l : List Nat) (i : Nat), l = List.replicate i 13837309855095848960 ++ q → n = i + q.length →
    Ev (fun k => qt0oo.l2 k x3 l x5 x6 x7 x8 i) r := by
  intro q
  induction q with
  | nil =>
    intro l i e hi
    rw [List.append_nil] at e
    simp only [List.length_nil, Nat.add_zero] at hi
    subst hi
    subst e
    refine Ev.step (fun k => ?_) next
    simp only [qt0oo.l2]
    rw [if_neg (by rw [List.length_replicate]; omega)]
  | cons x q ih =>
    intro l i e hi
    simp only [List.length_cons] at hi
    have hll : l.length = i + 1 + q.length := by rw [e]; simp; omega
    have es : l.set i 13837309855095848960 = List.replicate (i + 1) 13837309855095848960 ++ q := by
      rw [set_at e (by simp), List.replicate_succ', List.append_assoc]; rfl
    refine Ev.step (fun k => ?_) (ih _ (i + 1) es (by omega))
    simp only [qt0oo.l2]
    rw [if_pos (by omega), if_pos (by omega), Int.toNat_natCast, wadd (by omega)]
theorem own_l3 {x3 x4 x5 x7 : List Nat} {x8 : List Int} {r : Bool} {n : Nat} (hn : n < 17592186044416) (next : ∀ l : List Nat, l = List.replicate n 13839561654909534208 → ∀ i : Nat, i = n → Ev (fun k => qt0oo.l3 k x3 x4 x5 l x7 x8 i) r) : ∀ (q l : List Nat) (i : Nat), l = List.replicate i 13839561654909534208 ++ q → n = i + q.length →
    Ev (fun k => qt0oo.l3 k x3 x4 x5 l x7 x8 i) r := by
  intro q
  induction q with
  | nil =>
    intro l i e hi
    rw [List.append_nil] at e
    simp only [List.length_nil, Nat.add_zero] at hi
    exact next l (by rw [e, hi]) i hi.symm
  | cons x q ih =>
    intro l i e hi
    simp only [List.length_cons] at hi
    have hll : l.length = i + 1 + q.length := by rw [e]; simp; omega
    have es : l.set i 13839561654909534208 = List.replicate (i + 1) 13839561654909534208 ++ q := by
      rw [set_at e (by simp), List.replicate_succ', List.append_assoc]; rfl
    refine Ev.step (fun k => ?_) (ih _ (i + 1) es (by omega))
    simp only [qt0oo.l3]
    rw [if_pos (by omega), if_pos (by omega), Int.toNat_natCast, wadd (by omega)]
theorem own_end {x3 x4 x6 y : List Nat} {g c d : List Nat} (e3 : x3 = g ++ [4607182418800017408, 4611686018427387904]) (e4 : x4 = c ++ [13840687554816376832]) (e6 : x6 = d ++ [13841813454723219456]) (h3 : x3.length < 17592186044416) (h4 : x4.length < 17592186044416) (h6 : x6.length < 17592186044416) (hy : y.length < 17592186044416) :
    ∀ (q p : List Nat) (i : Nat), y = p ++ q → i = p.length → Ev (fun k => qt0oo.l4 k x3 x4 x6 (upI y) y i) true := by
  have hup := length_upI y
  intro q
  induction q with
  | nil =>
    intro p i e hi
    rw [List.append_nil] at e
    subst e
    obtain ⟨K, hK⟩ := below x3 9218868437227405312 (by omega)
    have hc : 2 ≤ cnt x3 9218868437227405312 := by
      have e1 : cnt x3 9218868437227405312 = cnt g 9218868437227405312 + cnt [4607182418800017408, 4611686018427387904] 9218868437227405312 := by rw [e3]; unfold cnt; rw [List.filter_append, List.length_append]
      have e2 : cnt [4607182418800017408, 4611686018427387904] 9218868437227405312 = 2 := by
        unfold cnt
        rw [List.filter_eq_self.2]
        · rfl
        · intro x hx
          rw [kf_inf]
          rcases List.mem_cons.1 hx with rfl | hx
          · rw [kf_one]; rfl
          · rw [List.mem_singleton.1 hx, kf_two]; rfl
      omega
    have l3 : x3.length = g.length + 2 := by rw [e3]; simp
    have l4 : x4.length = c.length + 1 := by rw [e4]; simp
    have l6 : x6.length = d.length + 1 := by rw [e6]; simp
    have r1 : Zs (rdOf (0 : Nat) x3 ((g.length + 1 : Nat) : Int) = 4611686018427387904) := ⟨rd_at (p := g ++ [4607182418800017408]) (s := []) (by rw [e3]; simp) (by simp)⟩
    have r2 : Zs (rdOf (0 : Nat) x3 ((g.length : Nat) : Int) = 4607182418800017408) := ⟨rd_at e3 rfl⟩
    have r4 : Zs (rdOf (0 : Nat) x4 ((c.length : Nat) : Int) = 13840687554816376832) := ⟨rd_at e4 rfl⟩
    have r6 : Zs (rdOf (0 : Nat) x6 ((d.length : Nat) : Int) = 13841813454723219456) := ⟨rd_at e6 rfl⟩
    have w1 : Zs (wrap64 ((x3.length : Int) - 1) = ((g.length + 1 : Nat) : Int)) := ⟨w64' (by omega) (by omega)⟩
    have w2 : Zs (wrap64 ((x3.length : Int) - 2) = ((g.length : Nat) : Int)) := ⟨w64' (by omega) (by omega)⟩
    have w4 : Zs (wrap64 ((x4.length : Int) - 1) = ((c.length : Nat) : Int)) := ⟨w64' (by omega) (by omega)⟩
    have w6 : Zs (wrap64 ((x6.length : Int) - 1) = ((d.length : Nat) : Int)) := ⟨w64' (by omega) (by omega)⟩
    have q1 : ((FloatKind.format .f64).order 4611686018427387904 4611686018427387904 == some .eq) = true := by rw [flo_eq]; decide
    have q2 : ((FloatKind.format .f64).order 4607182418800017408 4607182418800017408 == some .eq) = true := by rw [flo_eq]; decide
    have q4 : ((FloatKind.format .f64).order 13840687554816376832 13840687554816376832 == some .eq) = true := by rw [flo_eq]; decide
    have q6 : ((FloatKind.format .f64).order 13841813454723219456 13841813454723219456 == some .eq) = true := by rw [flo_eq]; decide
    have hi' : qmi.f 1 = some 9218868437227405312 := rfl
    refine ⟨K + 1, fun k hk => ?_⟩
    obtain ⟨m, rfl⟩ : ∃ m, k = m + 1 := ⟨k - 1, by omega⟩
    have hb : qob.f m x3 9218868437227405312 = _ := hK m (by omega)
    simp only [qt0oo.l4]
    rw [if_neg (by omega), w1.out, if_pos (by omega), if_pos (by omega), r1.out, if_pos q1, w2.out, if_pos (by omega), if_pos (by omega), r2.out, if_pos q2, w4.out, if_pos (by omega), if_pos (by omega), r4.out, if_pos q4, w6.out, if_pos (by omega), if_pos (by omega), r6.out, if_pos q6, hi', someBind, hb, someBind, decide_eq_true (by omega)]
  | cons x q ih =>
    intro p i e hi
    have hll : y.length = p.length + 1 + q.length := by rw [e]; simp; omega
    have r1 : Zs (rdOf (0 : Nat) y (i : Int) = x) := ⟨rd_at e hi⟩
    have r2 : Zs (rd (upI y) (i : Int) = (x : Int)) := ⟨rd_atI (p := upI p) (s := upI q) (by rw [e]; unfold upI; simp) (by rw [hi]; exact (length_upI p).symm)⟩
    refine Ev.step (fun k => ?_) (ih (p ++ [x]) (i + 1) (by rw [e]; simp) (by simp; omega))
    simp only [qt0oo.l4]
    rw [if_pos (by omega), if_pos (by omega), if_pos (by omega), r1.out, r2.out, if_pos rfl, wadd (by omega)]
theorem two_of {l : List Int} {a b : Int} (ha : a ∈ l) (hb : b ∈ l) (hab : a ≠ b) : 2 ≤ l.length := by
  match l, ha, hb with
  | [x], ha, hb => exact absurd ((List.mem_singleton.1 ha).trans (List.mem_singleton.1 hb).symm) hab
  | _ :: _ :: _, _, _ => simp
end Go.Proofs.Ytkmbgfhkdopigaa.Stab
namespace Go.Proofs.Ytkmbgfhkdopigaa.Pure
open Go.RowKit Go.Proofs.Ytkmbgfhkdopigaa.P Go.Proofs.YtkmbgfhkdopigaaW.PrintWords Go.Proofs.YtkmbgfhkdopigaaW.PrintLast Go.Proofs.Ytkmbgfhkdopigaa.Stab

theorem OrderOwn (l : List Int) (hl : l.length ≤ 1048576) (hw : ∀ x ∈ l, (Lit.int .u64 x).wf = true) : ∃ k, qt0oo.f k l = some true := by
  have hW : ∀ x ∈ l, Wd x := fun x hx => Wd.of (hw x hx)
  have hnl : (nats l).length = l.length := List.length_map _
  obtain ⟨G, hG⟩ : ∃ G, G = nats l ++ [4607182418800017408, 4611686018427387904] := ⟨_, rfl⟩
  have hGl : G.length = l.length + 2 := by rw [hG]; simp [hnl]
  have hGw : ∀ x ∈ G, x < 18446744073709551616 := by
    intro x hx
    rw [hG] at hx
    rcases List.mem_append.1 hx with hx | hx
    · exact nats_lt hW x hx
    · rcases List.mem_cons.1 hx with rfl | hx
      · decide
      · rw [List.mem_singleton.1 hx]; decide
  have hm := length_msort (key := kf) G
  have hd := distinct_some G hGw (by omega)
  obtain ⟨D, hD⟩ : ∃ D, D = (dkeys G).map atN := ⟨_, rfl⟩
  have hDl : D.length = (dkeys G).length := by rw [hD]; exact List.length_map _
  have hk1 : kf 4607182418800017408 ∈ dkeys G := (mem_dkeys G _).2 ⟨_, by rw [hG]; simp, by decide, rfl⟩
  have hk2 : kf 4611686018427387904 ∈ dkeys G := (mem_dkeys G _).2 ⟨_, by rw [hG]; simp, by decide, rfl⟩
  have h2 : 2 ≤ D.length := by rw [hDl]; exact two_of hk1 hk2 (by rw [kf_one, kf_two]; decide)
  have hDle : D.length ≤ G.length := by
    rw [hDl]
    unfold dkeys
    rw [List.length_mergeSort]
    have a1 : ∀ z : List Int, (qod.ded z).length ≤ z.length := by
      intro z
      induction z with
      | nil => simp [qod.ded]
      | cons x z ih => rw [qod.ded]; split <;> simp <;> omega
    have a2 : (qod.keys G).length ≤ G.length := by unfold qod.keys; rw [List.length_map]; exact List.length_filter_le _ _
    exact Nat.le_trans (a1 _) a2
  rw [← hD] at hd
  obtain ⟨S, hS⟩ : ∃ S, S = msort kf G := ⟨_, rfl⟩
  have hSl : S.length = l.length + 2 := by rw [hS, hm, hGl]
  have E4 := own_end (x3 := G) (x4 := List.replicate S.length 13837309855095848960 ++ [13840687554816376832]) (x6 := List.replicate D.length 13839561654909534208 ++ [13841813454723219456]) (y := S ++ D) hG rfl rfl (by omega) (by simp; omega) (by simp; omega) (by simp; omega) (S ++ D) [] 0 rfl rfl
  have E3 : ∀ z : List Nat, z = List.replicate D.length 13839561654909534208 → ∀ i : Nat, i = D.length → Ev (fun k => qt0oo.l3 k G (List.replicate S.length 13837309855095848960) S z D (upI S ++ upI D) i) true := by
    intro z hz i hi
    have hzl : z.length = D.length := by rw [hz]; simp
    have hup : upI S ++ upI D = upI (S ++ D) := by unfold upI; rw [List.map_append]
    refine Ev.step (fun k => ?_) E4
    simp only [qt0oo.l3]
    rw [if_neg (by omega), if_pos (by simp; omega), if_pos (by omega), someBind, if_pos (by simp; omega), someBind, if_pos (by simp; omega), hz, hup]; rfl
  have E3' := own_l3 (x3 := G) (x4 := List.replicate S.length 13837309855095848960) (x5 := S) (x7 := D) (x8 := upI S ++ upI D) (r := true) (n := D.length) (by omega) E3 D D 0 rfl (by omega)
  have E2 := own_l2 (x3 := G) (x5 := S) (x6 := D) (x7 := D) (x8 := upI S ++ upI D) (r := true) (n := S.length) (by omega) E3' S S 0 rfl (by omega)
  have E1 := own_l1 (x3 := G) (x4 := S) (x5 := S) (x6 := D) (x7 := D) (r := true) (b := upI S) (by rw [length_upI]; omega) E2 D [] 0 rfl rfl
  have E0 := own_l0 (x3 := G) (x4 := S) (x5 := S) (x6 := D) (x7 := D) (r := true) (by omega) (by simpa [upI] using E1) S [] 0 rfl rfl
  have J : Ev (fun k => qt0oo.j0 k G S S D D false) true := by
    refine Ev.step (fun k => ?_) E0
    simp only [qt0oo.j0]
    rw [if_neg (by simp)]; rfl
  obtain ⟨K1, h1⟩ := list_ev l (by omega)
  obtain ⟨K2, h2'⟩ := sorted_ev G (by omega)
  obtain ⟨K3, h3⟩ := J
  refine ⟨K1 + K2 + K3, ?_⟩
  have g1 := h1 (K1 + K2 + K3) (by omega)
  have g2 := h2' (K1 + K2 + K3) (by omega)
  have g3 := h3 (K1 + K2 + K3) (by omega)
  dsimp only at g1 g2 g3
  rw [← hS] at g2
  unfold qt0oo.f
  rw [begins_true, someBind, if_pos rfl, g1, someBind, someBind, if_pos (by rw [hnl]; simp; omega), someBind, ← hG, g2, someBind, someBind, hd, someBind, someBind, if_pos rfl, if_pos rfl, if_pos (by omega), decide_eq_false (by omega), g3]
end Go.Proofs.Ytkmbgfhkdopigaa.Pure
