/- Texts that the statement's proof leans on, part 22. -/
import Derived.Test.YtkmbgfhkdopigaaDoorTB4
import Derived.Test.YtkmbgfhkdopigaaDoorTB13
import Derived.Test.YtkmbgfhkdopigaaDoorTB18
import Derived.Test.YtkmbgfhkdopigaaDoorTB19
import Derived.Test.YtkmbgfhkdopigaaDoorTB20
import Derived.Test.YtkmbgfhkdopigaaDoorTB21
import Derived.Laws.BitsAllLaws
namespace Go.Proofs.YtkmbgfhkdopigaaDoor.Stab
set_option linter.unusedSimpArgs false
open Go.RowKit Go.Proofs.YtkmbgfhkdopigaaDoor.P Go.Proofs.YtkmbgfhkdopigaaDoorW.PrintWords
def kf (x : Nat) : Int := (qok.f x).getD 0
theorem key_some (x : Nat) : qok.f x = some (kf x) := by
  unfold kf qok.f
  split
  · rfl
  · split <;> rfl
theorem compare_lt {a b : Nat} (h : kf a < kf b) : qoc.f a b = some (-1) := by
  unfold qoc.f qccu6.f qcinnu6.f
  rw [key_some, key_some]
  simp [h]
theorem compare_gt {a b : Nat} (h : kf b < kf a) : qoc.f a b = some 1 := by
  unfold qoc.f qccu6.f qcinnu6.f
  rw [key_some, key_some]
  have h2 : ¬ kf a < kf b := by omega
  simp [h, h2]
theorem compare_eq {a b : Nat} (h : kf a = kf b) : qoc.f a b = some 0 := by
  unfold qoc.f qccu6.f qcinnu6.f
  rw [key_some, key_some, h]
  simp
theorem compare_ge {a b : Nat} (h : kf b ≤ kf a) : ∃ c, qoc.f a b = some c ∧ 0 ≤ c := by
  by_cases e : kf a = kf b
  · exact ⟨0, compare_eq e, by omega⟩
  · exact ⟨1, compare_gt (by omega), by omega⟩

theorem someBind {α β : Type} (a : α) (f : α → Option β) : (some a).bind f = f a := rfl
theorem w64 {x : Int} (h : -9223372036854775808 ≤ x) (h2 : x ≤ 9223372036854775807) : wrap64 x = x := by unfold wrap64; omega
theorem w64' {x : Int} {n : Nat} (e : x = n) (h2 : n ≤ 9223372036854775807) : wrap64 x = (n : Int) := by rw [e]; exact w64 (by omega) (by omega)
theorem wadd {i : Nat} (h : i ≤ 4611686018427387904) : wrap64 ((i : Int) + 1) = ((i + 1 : Nat) : Int) := w64' (by omega) (by omega)
theorem wpre {i : Nat} (h : i ≤ 4611686018427387904) : wrap64 (((i + 1 : Nat) : Int) - 1) = ((i : Nat) : Int) := w64' (by omega) (by omega)
theorem wsum {a b : Nat} (h : a + b ≤ 4611686018427387904) : wrap64 ((a : Int) + (b : Int)) = ((a + b : Nat) : Int) := w64' (by omega) (by omega)
theorem wdif {a b : Nat} (h1 : b ≤ a) (h : a ≤ 4611686018427387904) : wrap64 ((a : Int) - (b : Int)) = ((a - b : Nat) : Int) := w64' (by omega) (by omega)
theorem rdN (l : List Nat) (i : Nat) : rdOf (0 : Nat) l (i : Int) = l.getD i 0 := by unfold rdOf; rw [Int.toNat_natCast]
theorem rd_at {l p s : List Nat} {x i : Nat} (e : l = p ++ x :: s) (hi : i = p.length) : rdOf (0 : Nat) l (i : Int) = x := by
  subst e; subst hi
  rw [rdN, List.getD_eq_getElem?_getD]; simp
theorem andNot63 (x : Nat) (hx : x < 18446744073709551616) : Go.bits .andNot .u64 (x : Int) 9223372036854775808 = ((x % 9223372036854775808 : Nat) : Int) := by
  rw [show (9223372036854775808 : Int) = ((9223372036854775808 : Nat) : Int) from rfl, u64_andNot_nat x 9223372036854775808 hx (by decide)]
  rw [show 18446744073709551615 - 9223372036854775808 = 2 ^ 63 - 1 from rfl, Nat.and_two_pow_sub_one_eq_mod]
theorem or63 (y : Nat) (hy : y < 9223372036854775808) : Go.bits .or .u64 9223372036854775808 (y : Int) = ((9223372036854775808 + y : Nat) : Int) := by
  rw [show (9223372036854775808 : Int) = ((9223372036854775808 : Nat) : Int) from rfl, u64_or_nat 9223372036854775808 y (by decide) (by omega)]
  have := Nat.two_pow_add_eq_or_of_lt (i := 63) (b := y) (by omega) 1
  simp only [Nat.mul_one] at this
  rw [show 9223372036854775808 = 2 ^ 63 from rfl, this]
abbrev nan (x : Nat) : Bool := Fk.isNaN x
theorem nan_iff (x : Nat) : nan x = true ↔ 9218868437227405312 < x % 9223372036854775808 := by
  unfold nan Fk.isNaN Fk.inf Fk.rg
  rw [decide_eq_true_iff]
theorem pl_eq (x : Nat) (hx : x < 18446744073709551616) : Fk.pl x = if x / 9223372036854775808 = 0 then (x : Int) else -((x % 9223372036854775808 : Nat) : Int) := by
  unfold Fk.pl Fk.sg Fk.rg
  by_cases h : x / 9223372036854775808 = 0
  · rw [if_pos h, if_neg]
    · have : x % 2 ^ 63 = x := by omega
      rw [this]
    · have : x / 2 ^ 63 = 0 := h
      rw [this]; simp
  · rw [if_neg h, if_pos]
    have : x / 2 ^ 63 = 1 := by omega
    rw [this]; rfl
theorem flo_ne (x : Nat) : ((FloatKind.format .f64).order x x != some .eq) = nan x := by
  rw [show FloatKind.format .f64 = Ieee.double from rfl, Fk.order_spec]
  cases h : Fk.isNaN x
  · simp [nan, h, Int.compare_eq_eq.2 rfl]
  · simp [nan, h]
theorem kf_spec (x : Nat) (hx : x < 18446744073709551616) : kf x = if nan x then 18437736874454810625 else 9218868437227405312 + Fk.pl x := by
  unfold kf qok.f
  rw [flo_ne]
  cases hn : nan x with
  | true => rfl
  | false =>
    rw [if_neg Bool.false_ne_true, if_neg Bool.false_ne_true]
    have hr : ¬ 9218868437227405312 < x % 9223372036854775808 := fun h => by rw [(nan_iff x).2 h] at hn; cases hn
    rw [andNot63 x hx, pl_eq x hx]
    by_cases h : x / 9223372036854775808 = 0
    · rw [if_pos h, if_pos (by omega), Option.getD_some, IntKind.wrap_u64]; omega
    · rw [if_neg h, if_neg (by omega), Option.getD_some, IntKind.wrap_u64]; omega
theorem kf_nan {x : Nat} (hx : x < 18446744073709551616) (h : nan x = true) : kf x = 18437736874454810625 := by rw [kf_spec x hx, h]; rfl
theorem kf_num {x : Nat} (hx : x < 18446744073709551616) (h : nan x = false) : kf x = 9218868437227405312 + Fk.pl x ∧ 0 ≤ kf x ∧ kf x ≤ 18437736874454810624 := by
  have e : kf x = 9218868437227405312 + Fk.pl x := by rw [kf_spec x hx, h]; rfl
  have hr : ¬ 9218868437227405312 < x % 9223372036854775808 := fun hh => by rw [(nan_iff x).2 hh] at h; cases h
  have hp := pl_eq x hx
  refine ⟨e, ?_⟩
  by_cases h2 : x / 9223372036854775808 = 0
  · rw [if_pos h2] at hp; omega
  · rw [if_neg h2] at hp; omega
def atN (k : Int) : Nat := if k ≥ 9218868437227405312 then (k - 9218868437227405312).toNat else (9223372036854775808 + (9218868437227405312 - k)).toNat
theorem at_num {k : Int} (h0 : 0 ≤ k) (h1 : k ≤ 18437736874454810624) : qoa.f k = some (atN k, 0) := by
  unfold qoa.f atN
  rw [if_neg (by omega), if_neg (by omega)]
  by_cases h : k ≥ 9218868437227405312
  · rw [if_pos h, if_pos h, IntKind.wrap_u64]
    congr 3 <;> omega
  · rw [if_neg h, if_neg h, IntKind.wrap_u64]
    obtain ⟨n, hn⟩ := Int.eq_ofNat_of_zero_le (show 0 ≤ 9218868437227405312 - k by omega)
    rw [hn, show (n : Int) % 18446744073709551616 = n by omega, or63 n (by omega)]
    congr 2 <;> omega
theorem atN_lt {k : Int} (h0 : 0 ≤ k) (h1 : k ≤ 18437736874454810624) : atN k < 18446744073709551616 := by
  unfold atN; split <;> omega
theorem atN_nan {k : Int} (h0 : 0 ≤ k) (h1 : k ≤ 18437736874454810624) : nan (atN k) = false := by
  rw [Bool.eq_false_iff, Ne, nan_iff]
  unfold atN; split <;> omega
theorem kf_at {k : Int} (h0 : 0 ≤ k) (h1 : k ≤ 18437736874454810624) : kf (atN k) = k := by
  rw [(kf_num (atN_lt h0 h1) (atN_nan h0 h1)).1, pl_eq _ (atN_lt h0 h1)]
  unfold atN
  split <;> split <;> omega

def cnt (l : List Nat) (v : Nat) : Nat := (l.filter (fun x => decide (kf x < kf v))).length
theorem cnt_le (l : List Nat) (v : Nat) : cnt l v ≤ l.length := List.length_filter_le _ _
theorem below_l0 {v : Nat} : ∀ (q p l : List Nat) (i n c : Nat), l = p ++ q → i = p.length → n = l.length → c = cnt p v → n ≤ 4611686018427387904 → Ev (fun k => qob1.l0 k v c l n i) ((cnt l v : Nat) : Int) := by
  intro q
  induction q with
  | nil =>
    intro p l i n c e hi hn hc hb
    rw [List.append_nil] at e
    subst e
    refine Ev.step (fun k => ?_) (Ev.now _)
    simp only [qob1.l0]
    rw [if_neg (by omega), hc]
  | cons x q ih =>
    intro p l i n c e hi hn hc hb
    have hll : l.length = p.length + 1 + q.length := by rw [e]; simp <;> omega
    have rx : Zs (rdOf (0 : Nat) l (i : Int) = x) := ⟨rd_at e hi⟩
    have hcp := cnt_le p v
    have ecnt : cnt (p ++ [x]) v = if kf x < kf v then cnt p v + 1 else cnt p v := by
      unfold cnt
      rw [List.filter_append, List.length_append, List.filter_cons]
      by_cases h : kf x < kf v
      · rw [if_pos h, if_pos (by simpa using h)]; rfl
      · rw [if_neg h, if_neg (by simpa using h)]; rfl
    have b1 : (i : Int) < (n : Int) := by omega
    have b2 : (0 : Int) ≤ (i : Int) := by omega
    have b3 : (i : Int) < (l.length : Int) := by omega
    by_cases h : kf x < kf v
    · rw [if_pos h] at ecnt
      refine Ev.step (fun k => ?_) (ih (p ++ [x]) l (i + 1) n (c + 1) (by rw [e]; simp) (by simp <;> omega) hn (by omega) hb)
      simp only [qob1.l0]
      rw [if_pos b1, if_pos b2, if_pos b3, rx.out, key_some, key_some, someBind, someBind, if_pos h, wadd (by omega), wadd (by omega)]
    · rw [if_neg h] at ecnt
      refine Ev.step (fun k => ?_) (ih (p ++ [x]) l (i + 1) n c (by rw [e]; simp) (by simp <;> omega) hn (by omega) hb)
      simp only [qob1.l0]
      rw [if_pos b1, if_pos b2, if_pos b3, rx.out, key_some, key_some, someBind, someBind, if_neg h, wadd (by omega)]
theorem below (l : List Nat) (v : Nat) (hl : l.length ≤ 4611686018427387904) : Ev (fun k => qob1.f k l v) ((cnt l v : Nat) : Int) :=
  Ev.congr (fun k => rfl) (below_l0 (v := v) l [] l 0 l.length 0 rfl rfl rfl rfl hl)
theorem rd_atI {l p s : List Int} {x : Int} {i : Nat} (e : l = p ++ x :: s) (hi : i = p.length) : rd l (i : Int) = x := by
  subst e; subst hi
  unfold rd
  rw [Int.toNat_natCast, List.getD_eq_getElem?_getD]; simp
def Ks (o : List Int) : Prop := ∀ k ∈ o, 0 ≤ k ∧ k ≤ 18437736874454810624
theorem rising_unique {a b : List Int} (ha : a.Pairwise (· < ·)) (hb : b.Pairwise (· < ·)) (h : ∀ k, k ∈ a ↔ k ∈ b) : a = b := by
  have na : a.Nodup := ha.imp (fun h e => by omega)
  have nb : b.Nodup := hb.imp (fun h e => by omega)
  exact List.Perm.eq_of_pairwise (le := fun a b => a < b) (fun x y _ _ h1 h2 => by omega) ha hb ((List.perm_ext_iff_of_nodup na nb).2 h)
def dkeys (l : List Nat) : List Int := (qod.ded (qod.keys l)).mergeSort (fun x y => decide (x ≤ y))
theorem mem_dkeys (l : List Nat) (k : Int) : k ∈ dkeys l ↔ ∃ x ∈ l, nan x = false ∧ kf x = k := by
  unfold dkeys
  rw [(List.mergeSort_perm _ _).mem_iff, qod.mem_ded]
  unfold qod.keys
  rw [List.mem_map]
  have e : ∀ x, qod.num x = true ↔ nan x = false := fun x => by
    have := flo_ne x
    unfold qod.num
    rw [← this]
    simp [bne]
  constructor
  · rintro ⟨x, hx, rfl⟩
    rw [List.mem_filter] at hx
    exact ⟨x, hx.1, (e x).1 hx.2, rfl⟩
  · rintro ⟨x, hx, hn, rfl⟩
    exact ⟨x, List.mem_filter.2 ⟨hx, (e x).2 hn⟩, rfl⟩
theorem dkeys_rising (l : List Nat) : (dkeys l).Pairwise (· < ·) := by
  have hn : (dkeys l).Nodup := (List.mergeSort_perm _ _).nodup_iff.2 (qod.nodup_ded _)
  have hs := List.pairwise_mergeSort (le := fun x y : Int => decide (x ≤ y)) (fun a b c h1 h2 => by simp at *; omega) (fun a b => by simp <;> omega) (qod.ded (qod.keys l))
  have : (dkeys l).Pairwise (fun x y => decide (x ≤ y) = true ∧ x ≠ y) := hs.and hn
  exact this.imp (fun h => by have := of_decide_eq_true h.1; have := h.2; omega)
theorem ks_dkeys {l : List Nat} (hl : ∀ x ∈ l, x < 18446744073709551616) : Ks (dkeys l) := by
  intro k hk
  obtain ⟨x, hx, hn, rfl⟩ := (mem_dkeys l k).1 hk
  exact (kf_num (hl x hx) hn).2
theorem distinct_some (l : List Nat) (hw : ∀ x ∈ l, x < 18446744073709551616) (hl : l.length < 17592186044416) : qod.f l = some ((dkeys l).map atN) := by
  unfold qod.f
  rw [if_pos hl]
  refine congrArg some (List.map_congr_left fun k hk => ?_)
  have h := ks_dkeys hw k hk
  unfold qod.at_
  rw [at_num h.1 h.2]; rfl
theorem kf_one : kf 4607182418800017408 = 13826050856027422720 := by rw [kf_spec _ (by decide), show nan 4607182418800017408 = false by decide, pl_eq _ (by decide)]; rfl
theorem kf_two : kf 4611686018427387904 = 13830554455654793216 := by rw [kf_spec _ (by decide), show nan 4611686018427387904 = false by decide, pl_eq _ (by decide)]; rfl
theorem cnt_at {s p q : List Nat} {x v : Nat} (e : s = p ++ x :: q) (hr : Rises kf s) : kf x < kf v ↔ p.length < cnt s v := by
  subst e
  have e1 : cnt (p ++ x :: q) v = cnt p v + cnt (x :: q) v := by unfold cnt; rw [List.filter_append, List.length_append]
  constructor
  · intro h
    have e2 : cnt p v = p.length := by
      unfold cnt
      rw [List.filter_eq_self.2]
      intro y hy
      have := hr.across y hy x List.mem_cons_self
      exact decide_eq_true (by omega)
    have e3 : 1 ≤ cnt (x :: q) v := by
      unfold cnt
      rw [List.filter_cons_of_pos (by simpa using h)]
      simp
    omega
  · intro h
    by_cases hlt : kf x < kf v
    · exact hlt
    · have e3 : cnt (x :: q) v = 0 := by
        unfold cnt
        rw [List.filter_eq_nil_iff.2]
        · rfl
        · intro y hy
          have : kf x ≤ kf y := by
            rcases List.mem_cons.1 hy with rfl | hy
            · omega
            · exact hr.right.head y hy
          simp <;> omega
      have := cnt_le p v
      omega
end Go.Proofs.YtkmbgfhkdopigaaDoor.Stab
namespace Go.Proofs.YtkmbgfhkdopigaaDoor.Stab
set_option linter.unusedSimpArgs false
open Go.RowKit Go.Proofs.YtkmbgfhkdopigaaDoor.P Go.Proofs.YtkmbgfhkdopigaaDoorW.PrintWords Go.Proofs.YtkmbgfhkdopigaaDoorW.PrintMore
def wd (j k : Nat) : Nat := 2 ^ k - 2 ^ j
theorem wd_lt {j k : Nat} (hk : k ≤ 64) : wd j k < 18446744073709551616 := by
  have h1 : 2 ^ k ≤ 2 ^ 64 := Nat.pow_le_pow_right (by decide) hk
  have h2 : 0 < 2 ^ j := Nat.two_pow_pos j
  unfold wd
  omega
theorem wd_zero {j k : Nat} (h : j ≤ k) : wd j k = 0 ↔ j = k := by
  unfold wd
  constructor
  · intro e
    have h1 : 2 ^ k ≤ 2 ^ j := by omega
    have := (Nat.pow_le_pow_iff_right (by decide)).1 h1
    omega
  · intro e; subst e; omega
theorem ones : ∀ k : Fin 65, ∀ j : Fin 65, j ≤ k → qboc6.f ((wd j k : Nat) : Int) = some ((k.val - j.val : Nat) : Int) := by decide +kernel
theorem ctzs : ∀ k : Fin 65, ∀ j : Fin 65, j < k → Go.Lib.ctz 64 (wd j k) = j := by decide +kernel
theorem fills : ∀ h : Fin 65, Go.bits .or .u64 0 (shl .u64 (shr .u64 18446744073709551615 ((64 - h.val : Nat) : Int)) 0) = ((2 ^ h.val - 1 : Nat) : Int) := by decide +kernel
theorem masks : ∀ k : Fin 65, ∀ j : Fin 65, j ≤ k → Go.bits .andNot .u64 ((2 ^ k.val - 1 : Nat) : Int) ((2 ^ j.val - 1 : Nat) : Int) = ((wd j k : Nat) : Int) := by decide +kernel
theorem has_bit {j k r : Nat} (hjk : j ≤ k) (hk : k ≤ 64) (hr : r < 64) : (Go.bits .and .u64 (shr .u64 ((wd j k : Nat) : Int) (r : Int)) 1 == 1) = decide (j ≤ r ∧ r < k) := by
  have hw := wd_lt (j := j) hk
  have e1 : shr .u64 ((wd j k : Nat) : Int) (r : Int) = ((wd j k / 2 ^ r : Nat) : Int) := by
    unfold shr
    rw [Int.toNat_natCast, show IntKind.u64.bits = 64 from rfl, show min r 64 = r by omega]
    simp
  have hle : wd j k / 2 ^ r ≤ wd j k := Nat.div_le_self _ _
  rw [e1, show (1 : Int) = ((1 : Nat) : Int) from rfl, u64_and_nat _ 1 (by omega) (by decide), Nat.and_one_is_mod]
  have e2 : (wd j k).testBit r = decide (j ≤ r ∧ r < k) := by
    have e3 : wd j k = 2 ^ j * (2 ^ (k - j) - 1) := by
      unfold wd
      rw [Nat.mul_sub, ← Nat.pow_add, Nat.mul_one, show j + (k - j) = k by omega]
    rw [e3, Nat.testBit_two_pow_mul, Nat.testBit_two_pow_sub_one, Bool.eq_iff_iff]
    simp only [Bool.and_eq_true, decide_eq_true_eq]
    omega
  rw [← e2, Nat.testBit_eq_decide_div_mod_eq, Bool.eq_iff_iff, beq_iff_eq, decide_eq_true_iff]
  omega

def fw (tw i : Nat) : Int := ((2 ^ (min (tw - 64 * i) 64) - 1 : Nat) : Int)
def mw (n N i : Nat) : Int := ((wd (min (n - 64 * i) 64) (min (N - 64 * i) 64) : Nat) : Int)
theorem range_snoc {α : Type} (g : Nat → α) (i : Nat) : (List.range (i + 1)).map g = (List.range i).map g ++ [g i] := by rw [List.range_succ, List.map_append]; rfl
theorem rd_range (g : Nat → Int) {W i : Nat} (h : i < W) : rd ((List.range W).map g) (i : Int) = g i := by
  unfold rd
  rw [Int.toNat_natCast, List.getD_eq_getElem?_getD]
  simp [h]
theorem set_atI {l p s : List Int} {x y : Int} {i : Nat} (e : l = p ++ x :: s) (hi : i = p.length) : l.set i y = p ++ y :: s := by
  subst e; subst hi
  simp

theorem fill_l0 {tw W : Nat} (hto : tw ≤ 1048576) (hW : W ≤ 16384) : ∀ (q i : Nat) (l : List Int), l = (List.range i).map (fw tw) ++ List.replicate q 0 → W = i + q →
    Ev (fun k => qbf.l0 k l 0 tw W i) ((List.range W).map (fw tw)) := by
  intro q
  induction q with
  | zero =>
    intro i l e hw
    have : l = (List.range W).map (fw tw) := by rw [e, hw]; simp
    refine Ev.step (fun k => ?_) (Ev.now _)
    simp only [qbf.l0]
    rw [if_neg (by omega), this]
  | succ q ih =>
    intro i l e hw
    have hl : l.length = W := by rw [e]; simp; omega
    have hil : ((List.range i).map (fw tw)).length = i := by simp
    have e1 : l = (List.range i).map (fw tw) ++ 0 :: List.replicate q 0 := by rw [e, List.replicate_succ]
    have r0 : Zs (rd l (i : Int) = 0) := ⟨rd_atI e1 hil.symm⟩
    have w1 : Zs (wrap64 (64 * (i : Int)) = ((64 * i : Nat) : Int)) := ⟨w64' (by omega) (by omega)⟩
    have w2 : Zs (mx (wrap64 (0 - ((64 * i : Nat) : Int))) 0 = 0) := ⟨by rw [w64 (by omega) (by omega)]; unfold mx; split <;> omega⟩
    have w3 : Zs (wrap64 ((tw : Int) - ((64 * i : Nat) : Int)) = (tw : Int) - ((64 * i : Nat) : Int)) := ⟨w64 (by omega) (by omega)⟩
    have b1 : (i : Int) < (W : Int) := by omega
    have b2 : (0 : Int) ≤ (i : Int) := by omega
    have b3 : (i : Int) < (l.length : Int) := by omega
    by_cases h : 64 * i < tw
    · have w4 : Zs (mn ((tw : Int) - ((64 * i : Nat) : Int)) 64 = ((min (tw - 64 * i) 64 : Nat) : Int)) := ⟨by unfold mn; split <;> omega⟩
      have hh : 1 ≤ min (tw - 64 * i) 64 ∧ min (tw - 64 * i) 64 ≤ 64 := by omega
      have hf : ∀ h : Nat, 1 ≤ h ∧ h ≤ 64 → Go.bits .or .u64 0 (shl .u64 (shr .u64 18446744073709551615 ((64 - h : Nat) : Int)) 0) = ((2 ^ h - 1 : Nat) : Int) := fun h hh => fills ⟨h, by omega⟩
      replace hf := hf _ hh
      have es : l.set i (fw tw i) = (List.range (i + 1)).map (fw tw) ++ List.replicate q 0 := by rw [set_atI e1 hil.symm, range_snoc]; simp
      have IH := ih (i + 1) (l.set i (fw tw i)) es (by omega)
      refine Ev.step (fun k => ?_) IH
      unfold fw
      simp only [qbf.l0]
      generalize min (tw - 64 * i) 64 = h at *
      have w5 : Zs (wrap64 (64 - ((h : Nat) : Int)) = ((64 - h : Nat) : Int)) := ⟨w64' (by omega) (by omega)⟩
      have w6 : Zs (wrap64 ((h : Int) - 0) = (h : Int)) := ⟨w64' (by omega) (by omega)⟩
      rw [if_pos b1, w1.out, w2.out, w3.out, w4.out, if_pos (by omega), if_pos b2, if_pos b3, w6.out, w5.out, if_pos (by omega), r0.out, hf, Int.toNat_natCast, wadd (by omega)]
    · have w4 : Zs (mn ((tw : Int) - ((64 * i : Nat) : Int)) 64 ≤ 0) := ⟨by unfold mn; split <;> omega⟩
      have es : l = (List.range (i + 1)).map (fw tw) ++ List.replicate q 0 := by
        have : fw tw i = 0 := by unfold fw; rw [show min (tw - 64 * i) 64 = 0 by omega]; rfl
        rw [e1, range_snoc, this]; simp
      refine Ev.step (fun k => ?_) (ih (i + 1) l es (by omega))
      simp only [qbf.l0]
      rw [if_pos b1, w1.out, w2.out, w3.out, if_neg (by have := w4.out; omega), wadd (by omega)]
theorem fill_ev {tw W : Nat} (hto : tw ≤ 1048576) (hW : W ≤ 16384) : Ev (fun k => qbf.f k (List.replicate W 0) 0 tw) ((List.range W).map (fw tw)) := by
  refine Ev.congr (fun k => ?_) (fill_l0 hto hW W 0 (List.replicate W 0) (by simp) (by omega))
  unfold qbf.f
  rw [List.length_replicate]; rfl
theorem mask_l0 {n N W : Nat} (hn : n ≤ N) (hW : W ≤ 16384) : ∀ (q i : Nat) (l : List Int), l = (List.range i).map (mw n N) ++ ((List.range W).map (fw N)).drop i → W = i + q →
    Ev (fun k => qbm.l0 k l ((List.range W).map (fw n)) W i) ((List.range W).map (mw n N), 0) := by
  intro q
  induction q with
  | zero =>
    intro i l e hw
    have : l = (List.range W).map (mw n N) := by rw [e, hw]; simp
    refine Ev.step (fun k => ?_) (Ev.now _)
    simp only [qbm.l0]
    rw [if_neg (by omega), this]
  | succ q ih =>
    intro i l e hw
    have hl : l.length = W := by rw [e]; simp; omega
    have hil : ((List.range i).map (mw n N)).length = i := by simp
    have ed : ((List.range W).map (fw N)).drop i = fw N i :: ((List.range W).map (fw N)).drop (i + 1) := by
      rw [List.drop_eq_getElem_cons (by simp; omega)]; simp
    have e1 : l = (List.range i).map (mw n N) ++ fw N i :: ((List.range W).map (fw N)).drop (i + 1) := by rw [e, ed]
    have r0 : Zs (rd l (i : Int) = fw N i) := ⟨rd_atI e1 hil.symm⟩
    have r1 : Zs (rd ((List.range W).map (fw n)) (i : Int) = fw n i) := ⟨rd_range _ (by omega)⟩
    have es : l.set i (mw n N i) = (List.range (i + 1)).map (mw n N) ++ ((List.range W).map (fw N)).drop (i + 1) := by rw [set_atI e1 hil.symm, range_snoc]; simp
    have hb : Go.bits .andNot .u64 (fw N i) (fw n i) = mw n N i := masks ⟨min (N - 64 * i) 64, by omega⟩ ⟨min (n - 64 * i) 64, by omega⟩ (by rw [Fin.le_def]; show min (n - 64 * i) 64 ≤ min (N - 64 * i) 64; omega)
    refine Ev.step (fun k => ?_) (ih (i + 1) (l.set i (mw n N i)) es (by omega))
    simp only [qbm.l0]
    rw [if_pos (by omega), if_pos (by omega), if_pos (by omega), if_pos (by simp; omega), r0.out, r1.out, hb, Int.toNat_natCast, wadd (by omega)]
theorem mask_ev {n N : Nat} (hn : n ≤ N) (hN : N ≤ 1048576) : Ev (fun k => qbm.f k N 0 n) ((List.range ((N + 63) / 64)).map (mw n N), 0) := by
  obtain ⟨W, hW⟩ : ∃ W, (N + 63) / 64 = W := ⟨_, rfl⟩
  rw [hW]
  have hW2 : W ≤ 16384 := by omega
  obtain ⟨K1, h1⟩ := fill_ev (tw := N) (W := W) hN hW2
  obtain ⟨K2, h2⟩ := fill_ev (tw := n) (W := W) (by omega) hW2
  obtain ⟨K3, h3⟩ := mask_l0 (n := n) (N := N) (W := W) hn hW2 W 0 ((List.range W).map (fw N)) (by simp) (by omega)
  have hw : qbw1.f N = some ((W : Int), 0) := by
    unfold qbw1.f
    rw [if_neg (by omega), if_neg (by omega), show wrap64 ((N : Int) + 63) = ((N + 63 : Nat) : Int) from w64' (by omega) (by omega), Int.tdiv_eq_ediv_of_nonneg (by omega), show wrap64 (((N + 63 : Nat) : Int) / 64) = ((W : Nat) : Int) from w64' (by omega) (by omega)]
  have he : qbe.f N = some (List.replicate W 0, 0) := by
    unfold qbe.f
    rw [hw, someBind, if_pos rfl, if_pos (by omega), Int.toNat_natCast, if_pos (by omega)]
  refine ⟨K1 + K2 + K3 + 1, fun k hk => ?_⟩
  obtain ⟨m, rfl⟩ : ∃ m, k = m + 1 := ⟨k - 1, by omega⟩
  have g1 : qbf.f (m + 1) (List.replicate W 0) 0 N = _ := h1 (m + 1) (by omega)
  have g2 : qbf.f m (List.replicate W 0) 0 n = _ := h2 m (by omega)
  have g3 : qbm.l0 m ((List.range W).map (fw N)) ((List.range W).map (fw n)) W 0 = _ := h3 m (by omega)
  have hl : ((List.range W).map (fw N)).length = W := by simp
  show qbm.f (m + 1) N 0 n = _
  unfold qbm.f qbf1.f
  rw [he, someBind, g1, someBind, someBind, if_pos rfl, if_neg (by omega), if_neg (by omega), decide_eq_false (by omega)]
  simp only [qbm.j0]
  rw [if_neg (by simp), hl, if_pos (by omega), Int.toNat_natCast, if_pos (by omega), g2, someBind, g3]
theorem count_l0 {n N W : Nat} (hn : n ≤ N) (hN : N ≤ 1048576) (hW : W ≤ 16384) (hNW : N ≤ 64 * W) : ∀ (q i c : Nat), W = i + q → c = min N (64 * i) - min n (64 * i) →
    Ev (fun k => qbc.l0 k c ((List.range W).map (mw n N)) W i) ((N - n : Nat) : Int) := by
  intro q
  induction q with
  | zero =>
    intro i c hw hc
    refine Ev.step (fun k => ?_) (Ev.now _)
    simp only [qbc.l0]
    rw [if_neg (by omega), show c = N - n by omega]
  | succ q ih =>
    intro i c hw hc
    have r0 : Zs (rd ((List.range W).map (mw n N)) (i : Int) = mw n N i) := ⟨rd_range _ (by omega)⟩
    have ho : qboc6.f (mw n N i) = some ((min (N - 64 * i) 64 - min (n - 64 * i) 64 : Nat) : Int) := ones ⟨min (N - 64 * i) 64, by omega⟩ ⟨min (n - 64 * i) 64, by omega⟩ (by rw [Fin.le_def]; show min (n - 64 * i) 64 ≤ min (N - 64 * i) 64; omega)
    refine Ev.step (fun k => ?_) (ih (i + 1) (c + (min (N - 64 * i) 64 - min (n - 64 * i) 64)) (by omega) (by omega))
    simp only [qbc.l0]
    rw [if_pos (by omega), if_pos (by omega), if_pos (by simp; omega), r0.out, ho, someBind, wsum (by omega), wadd (by omega)]
theorem count_ev {n N : Nat} (hn : n ≤ N) (hN : N ≤ 1048576) : Ev (fun k => qbc.f k ((List.range ((N + 63) / 64)).map (mw n N))) ((N - n : Nat) : Int) := by
  refine Ev.congr (fun k => ?_) (count_l0 (n := n) (N := N) (W := (N + 63) / 64) hn hN (by omega) (by omega) ((N + 63) / 64) 0 0 (by omega) (by omega))
  unfold qbc.f
  rw [List.length_map, List.length_range]; rfl
theorem lowest_l0 {n N W : Nat} (hn : n ≤ N) (hN : N ≤ 1048576) (hW : W ≤ 16384) (hNW : N ≤ 64 * W) : ∀ (q i : Nat), W = i + q → (64 * i ≤ n ∨ n = N) →
    Ev (fun k => qbl.l0 k ((List.range W).map (mw n N)) W i) (if n < N then (n : Int) else -1) := by
  intro q
  induction q with
  | zero =>
    intro i hw hi
    refine Ev.step (fun k => ?_) (Ev.now _)
    simp only [qbl.l0]
    rw [if_neg (by omega), if_neg (by omega)]
  | succ q ih =>
    intro i hw hi
    have r0 : Zs (rd ((List.range W).map (mw n N)) (i : Int) = mw n N i) := ⟨rd_range _ (by omega)⟩
    have hz := wd_zero (j := min (n - 64 * i) 64) (k := min (N - 64 * i) 64) (by omega)
    by_cases h : min (n - 64 * i) 64 = min (N - 64 * i) 64
    · have h0 : mw n N i = 0 := by unfold mw; rw [hz.2 h]; rfl
      refine Ev.step (fun k => ?_) (ih (i + 1) (by omega) (by omega))
      simp only [qbl.l0]
      rw [if_pos (by omega), if_pos (by omega), if_pos (by simp; omega), r0.out, if_pos h0, wadd (by omega)]
    · have h0 : ¬ mw n N i = 0 := by
        intro e; unfold mw at e
        exact h (hz.1 (by omega))
      have ht : qbtz6.f (mw n N i) = some ((min (n - 64 * i) 64 : Nat) : Int) := by
        unfold qbtz6.f mw
        have hlt := wd_lt (j := min (n - 64 * i) 64) (k := min (N - 64 * i) 64) (by omega)
        rw [if_pos (by omega), Int.toNat_natCast, ctzs ⟨min (N - 64 * i) 64, by omega⟩ ⟨min (n - 64 * i) 64, by omega⟩ (by rw [Fin.lt_def]; show min (n - 64 * i) 64 < min (N - 64 * i) 64; omega)]
      have w1 : Zs (wrap64 (64 * (i : Int)) = ((64 * i : Nat) : Int)) := ⟨w64' (by omega) (by omega)⟩
      have w2 : Zs (wrap64 (((64 * i : Nat) : Int) + ((min (n - 64 * i) 64 : Nat) : Int)) = (n : Int)) := ⟨w64' (by omega) (by omega)⟩
      refine Ev.step (fun k => ?_) (Ev.now _)
      simp only [qbl.l0]
      rw [if_pos (by omega), if_pos (by omega), if_pos (by simp; omega), r0.out, if_neg h0, ht, someBind, w1.out, w2.out, if_pos (by omega)]
theorem lowest_ev {n N : Nat} (hn : n ≤ N) (hN : N ≤ 1048576) : Ev (fun k => qbl.f k ((List.range ((N + 63) / 64)).map (mw n N))) (if n < N then (n : Int) else -1) := by
  refine Ev.congr (fun k => ?_) (lowest_l0 (n := n) (N := N) (W := (N + 63) / 64) hn hN (by omega) (by omega) ((N + 63) / 64) 0 (by omega) (by omega))
  unfold qbl.f
  rw [List.length_map, List.length_range]; rfl
theorem has_some {n N i : Nat} (hn : n ≤ N) (hN : N ≤ 1048576) (hi : i < N) : qbh.f ((List.range ((N + 63) / 64)).map (mw n N)) i = some (decide (n ≤ i)) := by
  have w1 : wrap64 (Int.tdiv (i : Int) 64) = ((i / 64 : Nat) : Int) := by rw [Int.tdiv_eq_ediv_of_nonneg (by omega)]; exact w64' (by omega) (by omega)
  have w2 : Int.tmod (i : Int) 64 = ((i % 64 : Nat) : Int) := by rw [Int.tmod_eq_emod_of_nonneg (by omega)]; omega
  have hl : ((List.range ((N + 63) / 64)).map (mw n N)).length = (N + 63) / 64 := by simp
  have hb := has_bit (j := min (n - 64 * (i / 64)) 64) (k := min (N - 64 * (i / 64)) 64) (r := i % 64) (by omega) (by omega) (by omega)
  unfold qbh.f qbw.f
  rw [if_pos (by omega), w1, hl, decide_eq_true (by omega), someBind, if_pos rfl, if_pos (by omega), if_pos (by omega), w2, if_pos (by omega), rd_range _ (by omega)]
  unfold mw
  rw [hb]
  congr 1
  rw [Bool.eq_iff_iff, decide_eq_true_iff, decide_eq_true_iff]
  omega
structure Up (d : List Nat) : Prop where
  lt : ∀ p x q, d = p ++ x :: q → x < 18446744073709551616 ∧ nan x = false
  up : d.Pairwise (fun x y => kf x < kf y)
theorem Up.rises {d : List Nat} (h : Up d) : Rises kf d := h.up.imp (fun h => by omega)
theorem up_of {o : List Int} (hk : Ks o) (hr : o.Pairwise (· < ·)) : Up (o.map atN) := by
  refine ⟨fun p x q e => ?_, ?_⟩
  · have : x ∈ o.map atN := by rw [e]; simp
    obtain ⟨k, hko, rfl⟩ := List.mem_map.1 this
    have := hk k hko
    exact ⟨atN_lt this.1 this.2, atN_nan this.1 this.2⟩
  · rw [List.pairwise_map]
    refine List.Pairwise.imp_of_mem (fun {a b} ha hb h => ?_) hr
    rw [kf_at (hk a ha).1 (hk a ha).2, kf_at (hk b hb).1 (hk b hb).2]; exact h
theorem split_at {d : List Nat} {i : Nat} (h : i < d.length) : d = d.take i ++ d.getD i 0 :: d.drop (i + 1) := by
  rw [List.getD_eq_getElem?_getD, List.getElem?_eq_getElem h, Option.getD_some, ← List.drop_eq_getElem_cons h, List.take_append_drop]
theorem Up.at_cnt {d : List Nat} (h : Up d) {i : Nat} (hi : i < d.length) (v : Nat) : kf (d.getD i 0) < kf v ↔ i < cnt d v := by
  have := cnt_at (v := v) (split_at hi) h.rises
  rw [List.length_take, Nat.min_eq_left (by omega)] at this
  exact this
theorem Up.at_ok {d : List Nat} (h : Up d) {i : Nat} (hi : i < d.length) : d.getD i 0 < 18446744073709551616 ∧ nan (d.getD i 0) = false := h.lt _ _ _ (split_at hi)
theorem Up.next {d : List Nat} (h : Up d) {i : Nat} (hi : i + 1 < d.length) : kf (d.getD i 0) < kf (d.getD (i + 1) 0) := by
  have := List.pairwise_iff_getElem.1 h.up i (i + 1) (by omega) hi (by omega)
  simpa [List.getD_eq_getElem?_getD, List.getElem?_eq_getElem, hi, show i < d.length by omega] using this
theorem Up.cnt_nan {d : List Nat} (h : Up d) {v : Nat} (hv : v < 18446744073709551616) (hn : nan v = true) : cnt d v = d.length := by
  unfold cnt
  rw [List.filter_eq_self.2]
  intro x hx
  obtain ⟨p, q, e⟩ := List.append_of_mem hx
  have := h.lt p x q e
  have := kf_num this.1 this.2
  rw [kf_nan hv hn]
  exact decide_eq_true (by omega)
theorem between_ev {v x : Nat} (hv : v < 18446744073709551616) (hx : x < 18446744073709551616) (nv : nan v = false) (nx : nan x = false) (h : kf v ≤ kf x) : Ev (fun k => qob.f k v x) (kf x - kf v + 1, 0) := by
  have h1 := kf_num hv nv
  have h2 := kf_num hx nx
  refine Ev.step (fun k => ?_) (Ev.now _)
  unfold qob.f
  rw [flo_ne, flo_ne, nv, nx]
  simp only [qob.j0]
  rw [if_neg Bool.false_ne_true, if_neg Bool.false_ne_true, key_some, key_some, someBind, someBind, if_neg (by omega), IntKind.wrap_u64, IntKind.wrap_u64, Int.emod_eq_of_lt (by omega) (by omega), Int.emod_eq_of_lt (by omega) (by omega)]

theorem top_end {d : List Nat} {v : Nat} (hd : Up d) (hv : v < 18446744073709551616) (hN : d.length ≤ 1048576) (xs : List Int) :
    Ev (fun k => thickettop_TopBelow.l0 k v d xs (if cnt d v < d.length then ((cnt d v : Nat) : Int) else -1) d (d.length : Int) ((d.length : Nat) : Int)) true := by
  have hle := cnt_le d v
  by_cases hc : cnt d v < d.length
  · have nv : nan v = false := by
      cases e : nan v with
      | false => rfl
      | true => have := hd.cnt_nan hv e; omega
    have ho := hd.at_ok hc
    have hk : kf v ≤ kf (d.getD (cnt d v) 0) := by
      have := (hd.at_cnt hc v).mp
      by_cases h : kf (d.getD (cnt d v) 0) < kf v
      · have := this h; omega
      · omega
    obtain ⟨K, hK⟩ := between_ev hv ho.1 nv ho.2 hk
    refine ⟨K + 1, fun k hk2 => ?_⟩
    obtain ⟨m, rfl⟩ : ∃ m, k = m + 1 := ⟨k - 1, by omega⟩
    have hb : qob.f m v (d.getD (cnt d v) 0) = some _ := hK m (by omega)
    simp only [thickettop_TopBelow.l0]
    rw [if_neg (by omega), if_pos hc, if_neg (by omega), flo_ne, nv, if_neg Bool.false_ne_true, if_pos (by omega), if_pos (by omega), rdN, hb, someBind, if_pos rfl, if_pos (by show kf _ - kf v + 1 > 0; omega)]
    by_cases h0 : cnt d v = 0
    · rw [if_pos (by omega)]
    · obtain ⟨c, hcn⟩ : ∃ c, cnt d v = c + 1 := ⟨cnt d v - 1, by omega⟩
      have hlt := (hd.at_cnt (i := c) (by omega) v).mpr (by omega)
      rw [if_neg (by omega), hcn, wpre (by omega), if_pos (by omega), if_pos (by omega), rdN, compare_lt hlt, someBind]
      rfl
  · refine Ev.step (fun k => ?_) (Ev.now _)
    simp only [thickettop_TopBelow.l0]
    rw [if_neg (by omega), if_neg hc, if_pos (by omega), flo_ne]
    cases e : nan v with
    | true => rw [if_pos rfl]
    | false =>
      rw [if_neg Bool.false_ne_true]
      by_cases h0 : d.length = 0
      · rw [if_pos (by omega)]
      · obtain ⟨c, hcn⟩ : ∃ c, d.length = c + 1 := ⟨d.length - 1, by omega⟩
        have hlt := (hd.at_cnt (i := c) (by omega) v).mpr (by omega)
        rw [if_neg (by omega), hcn, wpre (by omega), if_pos (by omega), if_pos (by omega), rdN, compare_lt hlt, someBind]
        rfl
theorem top_l0 {d : List Nat} {v : Nat} (hd : Up d) (hv : v < 18446744073709551616) (hN : d.length ≤ 1048576) : ∀ (q i : Nat), d.length = i + q →
    Ev (fun k => thickettop_TopBelow.l0 k v d ((List.range ((d.length + 63) / 64)).map (mw (cnt d v) d.length)) (if cnt d v < d.length then ((cnt d v : Nat) : Int) else -1) d (d.length : Int) ((i : Nat) : Int)) true := by
  intro q
  induction q with
  | zero =>
    intro i hi
    have hi : i = d.length := by omega
    subst hi
    exact top_end hd hv hN _
  | succ q ih =>
    intro i hi
    have hil : i < d.length := by omega
    have hs := has_some (n := cnt d v) (N := d.length) (i := i) (cnt_le d v) hN hil
    have ha := hd.at_cnt hil v
    have hc : ∃ c, qoc.f (d.getD i 0) v = some c ∧ (c < 0 ↔ i < cnt d v) := by
      by_cases h : kf (d.getD i 0) < kf v
      · exact ⟨-1, compare_lt h, by have := ha.mp h; omega⟩
      · obtain ⟨c, e, hc⟩ := compare_ge (a := d.getD i 0) (b := v) (by omega)
        have : ¬ i < cnt d v := fun hh => h (ha.mpr hh)
        exact ⟨c, e, by omega⟩
    obtain ⟨c, ec, hc⟩ := hc
    have e0 : (decide (cnt d v ≤ i) == decide (c < 0)) = false := by
      by_cases h : i < cnt d v
      · rw [decide_eq_false (show ¬ cnt d v ≤ i by omega), decide_eq_true (hc.mpr h)]; rfl
      · rw [decide_eq_true (show cnt d v ≤ i by omega), decide_eq_false (fun hh => h (hc.mp hh))]; rfl
    refine Ev.step (fun k => ?_) (ih (i + 1) (by omega))
    simp only [thickettop_TopBelow.l0]
    rw [if_pos (by omega), if_pos (by omega), if_pos (by omega), hs, someBind, rdN, ec, someBind, e0, if_neg Bool.false_ne_true]
    by_cases h0 : i = 0
    · subst h0
      rw [if_neg (by omega), wadd (by omega)]
    · obtain ⟨j, rfl⟩ : ∃ j, i = j + 1 := ⟨i - 1, by omega⟩
      rw [if_pos (by omega), wpre (by omega), if_pos (by omega), if_pos (by omega), rdN, compare_lt (hd.next hil), someBind, if_neg (by omega), wadd (by omega)]
theorem top_j0 {d : List Nat} {v : Nat} (hd : Up d) (hv : v < 18446744073709551616) (hl : d.length < 17592186044416) : Ev (fun k => thickettop_TopBelow.j0 k v d false) true := by
  by_cases hN : d.length ≤ 1048576
  case neg =>
    refine Ev.step (fun k => ?_) (Ev.now _)
    simp only [thickettop_TopBelow.j0]
    rw [if_neg Bool.false_ne_true, if_pos (by omega)]
  have hle := cnt_le d v
  obtain ⟨K1, h1⟩ := below d v (by omega)
  obtain ⟨K2, h2⟩ := mask_ev (n := cnt d v) (N := d.length) hle hN
  obtain ⟨K3, h3⟩ := count_ev (n := cnt d v) (N := d.length) hle hN
  obtain ⟨K4, h4⟩ := lowest_ev (n := cnt d v) (N := d.length) hle hN
  obtain ⟨K5, h5⟩ := top_l0 hd hv hN d.length 0 (by omega)
  refine ⟨K1 + K2 + K3 + K4 + K5 + 3, fun k hk => ?_⟩
  obtain ⟨m, rfl⟩ : ∃ m, k = m + 3 := ⟨k - 3, by omega⟩
  have g1 : qob1.f (m + 2) d v = some _ := h1 (m + 2) (by omega)
  have g2 : qbm.f (m + 2) (d.length : Int) 0 (cnt d v : Nat) = some _ := h2 (m + 2) (by omega)
  have g3 : qbc.f (m + 2) _ = some _ := h3 (m + 2) (by omega)
  have g4 : qbl.f (m + 1) _ = some _ := h4 (m + 1) (by omega)
  have g5 := h5 m (by omega)
  show thickettop_TopBelow.j0 (m + 2 + 1) v d false = some true
  simp only [thickettop_TopBelow.j0]
  rw [if_neg Bool.false_ne_true, if_neg (by omega), g1, someBind, g2, someBind, if_pos rfl, g3, someBind, wdif hle (by omega)]
  rw [show (((d.length - cnt d v : Nat) : Int) != ((d.length - cnt d v : Nat) : Int)) = false by simp]
  show thickettop_TopBelow.j1 (m + 1 + 1) v d _ _ false = some true
  simp only [thickettop_TopBelow.j1]
  rw [if_neg Bool.false_ne_true, g4, someBind]
  by_cases hc : cnt d v < d.length
  · rw [if_pos hc] at g5 ⊢
    rw [if_pos rfl]
    show thickettop_TopBelow.j2 (m + 1) v d _ _ false = some true
    simp only [thickettop_TopBelow.j2]
    rw [if_neg Bool.false_ne_true]
    exact g5
  · rw [if_neg hc] at g5 ⊢
    have e1 : (!(((cnt d v : Nat) : Int) == (d.length : Int))) = false := by rw [show cnt d v = d.length by omega]; simp
    rw [if_neg (by omega), if_pos rfl, e1]
    show thickettop_TopBelow.j2 (m + 1) v d _ _ false = some true
    simp only [thickettop_TopBelow.j2]
    rw [if_neg Bool.false_ne_true]
    exact g5
theorem one_two : dkeys [4611686018427387904, 4607182418800017408, 4611686018427387904] = [13826050856027422720, 13830554455654793216] := by
  refine rising_unique (dkeys_rising _) (by decide) fun k => ?_
  rw [mem_dkeys]
  constructor
  · rintro ⟨x, hx, -, rfl⟩
    simp only [List.mem_cons, List.not_mem_nil, or_false] at hx
    rcases hx with rfl | rfl | rfl
    · rw [kf_two]; simp
    · rw [kf_one]; simp
    · rw [kf_two]; simp
  · intro h
    simp only [List.mem_cons, List.not_mem_nil, or_false] at h
    rcases h with rfl | rfl
    · exact ⟨4607182418800017408, by simp, by decide, kf_one⟩
    · exact ⟨4611686018427387904, by simp, by decide, kf_two⟩
theorem length_ded : ∀ l : List Int, (qod.ded l).length ≤ l.length
  | [] => by simp [qod.ded]
  | x :: l => by
    have := length_ded l
    rw [qod.ded]
    split <;> simp <;> omega
theorem top_true (l : List Nat) (v : Nat) (hw : ∀ x ∈ l, x < 18446744073709551616) (hv : v < 18446744073709551616) (hl : l.length < 17592186044416) : Ev (fun k => thickettop_TopBelow.f k l v) true := by
  have hd := up_of (ks_dkeys hw) (dkeys_rising l)
  have hdl : ((dkeys l).map atN).length < 17592186044416 := by
    have h1 : (dkeys l).length ≤ l.length := by
      have h2 : (qod.ded (qod.keys l)).length ≤ (qod.keys l).length := length_ded _
      have h3 : (qod.keys l).length ≤ l.length := by unfold qod.keys; rw [List.length_map]; exact List.length_filter_le _ _
      unfold dkeys
      rw [(List.mergeSort_perm _ _).length_eq]
      omega
    rw [List.length_map]; omega
  have e1 : qod.f [4611686018427387904, 4607182418800017408, 4611686018427387904] = some [4607182418800017408, 4611686018427387904] := by
    rw [distinct_some _ (by decide) (by decide), one_two]
    decide
  obtain ⟨K1, h1⟩ := below [4607182418800017408, 4611686018427387904] 4611686018427387904 (by decide)
  obtain ⟨K2, h2⟩ := top_j0 hd hv hdl
  refine ⟨K1 + K2, fun k hk => ?_⟩
  have g1 : qob1.f k [4607182418800017408, 4611686018427387904] 4611686018427387904 = some _ := h1 k (by omega)
  have g2 := h2 k (by omega)
  have ec : cnt [4607182418800017408, 4611686018427387904] 4611686018427387904 = 1 := by
    unfold cnt
    rw [List.filter_cons_of_pos (by rw [kf_one, kf_two]; rfl), List.filter_cons_of_neg (by simp)]
    rfl
  show thickettop_TopBelow.f k l v = some true
  unfold thickettop_TopBelow.f
  rw [distinct_some l hw hl, someBind, e1, someBind, if_pos (by decide), if_pos (by decide), if_neg (by decide), g1, someBind, ec]
  exact g2
end Go.Proofs.YtkmbgfhkdopigaaDoor.Stab
