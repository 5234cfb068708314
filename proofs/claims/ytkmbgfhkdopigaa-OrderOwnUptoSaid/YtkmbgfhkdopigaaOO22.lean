/- Texts that the statement's proof leans on, part 22. -/
import Derived.Test.YtkmbgfhkdopigaaOO4
namespace Go.Proofs.Ytkmbgfhkdopigaa.Stab
structure Stab {α : Type} (key : α → Int) (l r : List α) : Prop where
  perm : r.Perm l
  filt : ∀ k, r.filter (fun x => decide (key x = k)) = l.filter (fun x => decide (key x = k))

def Rises {α : Type} (key : α → Int) (l : List α) : Prop := l.Pairwise (fun x y => key x ≤ key y)

variable {α : Type} {key : α → Int}

theorem Stab.refl (l : List α) : Stab key l l := ⟨.refl _, fun _ => rfl⟩
theorem Stab.symm {a b : List α} (h : Stab key a b) : Stab key b a := ⟨h.perm.symm, fun k => (h.filt k).symm⟩
theorem Stab.trans {a b c : List α} (h : Stab key a b) (g : Stab key b c) : Stab key a c :=
  ⟨g.perm.trans h.perm, fun k => (g.filt k).trans (h.filt k)⟩
theorem Stab.append {a b c d : List α} (h : Stab key a b) (g : Stab key c d) : Stab key (a ++ c) (b ++ d) :=
  ⟨h.perm.append g.perm, fun k => by rw [List.filter_append, List.filter_append, h.filt, g.filt]⟩
theorem Stab.swap {u v : List α} (h : ∀ x ∈ u, ∀ y ∈ v, key x ≠ key y) : Stab key (u ++ v) (v ++ u) := by
  refine ⟨List.perm_append_comm, fun k => ?_⟩
  rw [List.filter_append, List.filter_append]
  by_cases hu : u.filter (fun x => decide (key x = k)) = []
  · rw [hu, List.append_nil, List.nil_append]
  · obtain ⟨x, hx⟩ := List.exists_mem_of_ne_nil _ hu
    rw [List.mem_filter] at hx
    have hv : v.filter (fun x => decide (key x = k)) = [] := by
      rw [List.filter_eq_nil_iff]
      intro y hy hk
      exact h x hx.1 y hy ((of_decide_eq_true hx.2).trans (of_decide_eq_true hk).symm)
    rw [hv, List.append_nil, List.nil_append]
theorem Stab.length {l r : List α} (h : Stab key l r) : r.length = l.length := h.perm.length_eq
theorem Stab.mem {l r : List α} (h : Stab key l r) (x : α) : x ∈ r ↔ x ∈ l := h.perm.mem_iff

theorem Rises.head {x : α} {l : List α} (h : Rises key (x :: l)) : ∀ y ∈ l, key x ≤ key y := (List.pairwise_cons.1 h).1
theorem Rises.tail {x : α} {l : List α} (h : Rises key (x :: l)) : Rises key l := (List.pairwise_cons.1 h).2
theorem Rises.nil : Rises key ([] : List α) := List.Pairwise.nil
theorem Rises.single (x : α) : Rises key [x] := List.pairwise_singleton _ _
theorem Rises.append {a b : List α} (ha : Rises key a) (hb : Rises key b) (h : ∀ x ∈ a, ∀ y ∈ b, key x ≤ key y) : Rises key (a ++ b) :=
  List.pairwise_append.2 ⟨ha, hb, h⟩
theorem Rises.left {a b : List α} (h : Rises key (a ++ b)) : Rises key a := (List.pairwise_append.1 h).1
theorem Rises.right {a b : List α} (h : Rises key (a ++ b)) : Rises key b := (List.pairwise_append.1 h).2.1
theorem Rises.across {a b : List α} (h : Rises key (a ++ b)) : ∀ x ∈ a, ∀ y ∈ b, key x ≤ key y := (List.pairwise_append.1 h).2.2

theorem Stab.unique : ∀ {a b : List α}, Stab key a b → Rises key a → Rises key b → a = b := by
  intro a
  induction a with
  | nil => intro b h _ _; exact (List.length_eq_zero_iff.1 h.length).symm
  | cons x a ih =>
    intro b h ha hb
    cases b with
    | nil => have := h.length; simp at this
    | cons y b =>
      have hy : key x ≤ key y := by
        have := (h.mem y).1 (List.mem_cons_self)
        rcases List.mem_cons.1 this with e | m
        · rw [e]; exact Int.le_refl _
        · exact ha.head y m
      have hx : key y ≤ key x := by
        have := (h.mem x).2 (List.mem_cons_self)
        rcases List.mem_cons.1 this with e | m
        · rw [e]; exact Int.le_refl _
        · exact hb.head x m
      have e : key y = key x := by omega
      have hf := h.filt (key x)
      rw [List.filter_cons_of_pos (by simpa using e), List.filter_cons_of_pos (by simp)] at hf
      have exy : y = x := (List.cons.inj hf).1
      subst exy
      have : Stab key a b := by
        refine ⟨(List.perm_cons _).1 h.perm, fun k => ?_⟩
        by_cases hk : key y = k
        · subst hk; exact (List.cons.inj hf).2
        · have := h.filt k
          rwa [List.filter_cons_of_neg (by simpa using hk), List.filter_cons_of_neg (by simpa using hk)] at this
      rw [ih this ha.tail hb.tail]

def lek (key : α → Int) (x y : α) : Bool := decide (key x ≤ key y)
theorem lek_trans (a b c : α) : lek key a b = true → lek key b c = true → lek key a c = true := by
  unfold lek; simp only [decide_eq_true_eq]; omega
theorem lek_total (a b : α) : (lek key a b || lek key b a) = true := by
  unfold lek; simp only [Bool.or_eq_true, decide_eq_true_eq]; omega
def msort (key : α → Int) (l : List α) : List α := l.mergeSort (lek key)
theorem rises_msort (l : List α) : Rises key (msort key l) := by
  have := List.pairwise_mergeSort (le := lek key) lek_trans lek_total l
  exact this.imp (fun h => of_decide_eq_true h)
theorem pw_all {R : α → α → Prop} : ∀ l : List α, (∀ x ∈ l, ∀ y ∈ l, R x y) → l.Pairwise R
  | [], _ => List.Pairwise.nil
  | x :: l, h => List.pairwise_cons.2 ⟨fun y hy => h x List.mem_cons_self y (List.mem_cons_of_mem _ hy), pw_all l fun a ha b hb => h a (List.mem_cons_of_mem _ ha) b (List.mem_cons_of_mem _ hb)⟩
theorem stab_msort (l : List α) : Stab key l (msort key l) := by
  refine ⟨List.mergeSort_perm l _, fun k => ?_⟩
  have hp : (l.filter (fun x => decide (key x = k))).Pairwise (fun x y => lek key x y = true) := by
    refine pw_all _ fun x hx y hy => ?_
    have h1 := of_decide_eq_true (List.mem_filter.1 hx).2
    have h2 := of_decide_eq_true (List.mem_filter.1 hy).2
    exact decide_eq_true (by omega)
  have hs : (l.filter (fun x => decide (key x = k))).Sublist (msort key l) := List.sublist_mergeSort lek_trans lek_total hp List.filter_sublist
  have h2 := hs.filter (fun x => decide (key x = k))
  rw [List.filter_filter] at h2
  simp only [Bool.and_self] at h2
  exact (h2.eq_of_length (((List.mergeSort_perm l (lek key)).filter _).length_eq.symm)).symm
theorem length_msort (l : List α) : (msort key l).length = l.length := (stab_msort l).length
theorem msort_eq {l r : List α} (h : Stab key l r) (hr : Rises key r) : r = msort key l :=
  Stab.unique (h.symm.trans (stab_msort l)) hr (rises_msort l)
theorem msort_of_rises {l : List α} (h : Rises key l) : msort key l = l := (msort_eq (Stab.refl l) h).symm
theorem msort_of_stab {l r : List α} (h : Stab key l r) : msort key r = msort key l := msort_eq (h.trans (stab_msort r)) (rises_msort r)
theorem Rises.of_sublist {a b : List α} (h : Rises key b) (s : a.Sublist b) : Rises key a := List.Pairwise.sublist s h

theorem merge_parts {u1 u2 v1 v2 : List α} (hu : Rises key (u1 ++ u2)) (hv : Rises key (v1 ++ v2))
    (h1 : ∀ x ∈ u1, ∀ y ∈ v2, key x ≤ key y) (h2 : ∀ x ∈ u2, ∀ y ∈ v1, key y < key x) :
    msort key (u1 ++ v1) ++ msort key (u2 ++ v2) = msort key ((u1 ++ u2) ++ (v1 ++ v2)) := by
  refine msort_eq ?_ ?_
  · have a : Stab key ((u1 ++ u2) ++ (v1 ++ v2)) ((u1 ++ v1) ++ (u2 ++ v2)) := by
      rw [show (u1 ++ u2) ++ (v1 ++ v2) = u1 ++ ((u2 ++ v1) ++ v2) by simp, show (u1 ++ v1) ++ (u2 ++ v2) = u1 ++ ((v1 ++ u2) ++ v2) by simp]
      refine (Stab.refl u1).append (Stab.append (Stab.swap fun x hx y hy e => ?_) (Stab.refl v2))
      have := h2 x hx y hy
      omega
    exact a.trans ((stab_msort _).append (stab_msort _))
  · refine (rises_msort _).append (rises_msort _) fun x hx y hy => ?_
    rw [(stab_msort _).mem, List.mem_append] at hx hy
    rcases hx with hx | hx <;> rcases hy with hy | hy
    · exact hu.across x hx y hy
    · exact h1 x hx y hy
    · exact Int.le_of_lt (h2 y hy x hx)
    · exact hv.across x hx y hy

def Runs (key : α → Int) (n : Nat) (l : List α) : Prop := ∀ i : Nat, Rises key ((l.drop (i * n)).take n)
theorem Runs.nil (n : Nat) : Runs key n ([] : List α) := fun i => by simp only [List.drop_nil, List.take_nil]; exact Rises.nil
theorem Runs.all {n : Nat} {l : List α} (h : Runs key n l) (hl : l.length ≤ n) : Rises key l := by
  have := h 0
  rwa [Nat.zero_mul, List.drop_zero, List.take_of_length_le hl] at this
theorem Runs.one {n : Nat} {l : List α} (h : Rises key l) (hl : l.length ≤ n) : Runs key n l := by
  intro i
  exact h.of_sublist ((List.take_sublist _ _).trans (List.drop_sublist _ _))
theorem Runs.cons {n : Nat} {u q : List α} (hn : u.length = n) : Runs key n (u ++ q) ↔ Rises key u ∧ Runs key n q := by
  constructor
  · intro h
    refine ⟨?_, fun i => ?_⟩
    · have := h 0
      rwa [Nat.zero_mul, List.drop_zero, List.take_left' hn] at this
    · have := h (i + 1)
      rwa [Nat.succ_mul, Nat.add_comm, ← List.drop_drop, List.drop_left' hn] at this
  · rintro ⟨hu, hq⟩ i
    cases i with
    | zero => rwa [Nat.zero_mul, List.drop_zero, List.take_left' hn]
    | succ i => rw [Nat.succ_mul, Nat.add_comm, ← List.drop_drop, List.drop_left' hn]; exact hq i
theorem Runs.snoc {n c : Nat} {p w : List α} (hp : Runs key n p) (hc : p.length = c * n) (hw : Rises key w) (hn : w.length ≤ n) : Runs key n (p ++ w) := by
  induction c generalizing p with
  | zero =>
    have : p = [] := List.length_eq_zero_iff.1 (by omega)
    subst this
    exact Runs.one hw hn
  | succ c ih =>
    have hl : (p.take n).length = n := by
      rw [List.length_take, hc, Nat.succ_mul]; omega
    have e : p = p.take n ++ p.drop n := (List.take_append_drop n p).symm
    rw [e, Runs.cons hl] at hp
    rw [e, List.append_assoc, Runs.cons hl]
    refine ⟨hp.1, ih hp.2 ?_⟩
    rw [List.length_drop, hc, Nat.succ_mul]; omega
end Go.Proofs.Ytkmbgfhkdopigaa.Stab
namespace Go.Proofs.Ytkmbgfhkdopigaa.Stab
set_option linter.unusedSimpArgs false
open Go.RowKit Go.Proofs.Ytkmbgfhkdopigaa.P Go.Proofs.YtkmbgfhkdopigaaW.PrintWords
def kf (x : Nat) : Int := (qok.f x).getD 0
theorem key_some (x : Nat) : qok.f x = some (kf x) := by
  unfold kf qok.f
  split
  · rfl
  · split <;> rfl
theorem compare_lt {a b : Nat} (h : kf a < kf b) : qoc.f a b = some (-1) := by
  unfold qoc.f qccu6.f qcinnu6.f
  rw [key_some, key_some]
  simp [h]
theorem compare_gt {a b : Nat} (h : kf b < kf a) : qoc.f a b = some 1 := by
  unfold qoc.f qccu6.f qcinnu6.f
  rw [key_some, key_some]
  have h2 : ¬ kf a < kf b := by omega
  simp [h, h2]
theorem compare_eq {a b : Nat} (h : kf a = kf b) : qoc.f a b = some 0 := by
  unfold qoc.f qccu6.f qcinnu6.f
  rw [key_some, key_some, h]
  simp
theorem compare_ge {a b : Nat} (h : kf b ≤ kf a) : ∃ c, qoc.f a b = some c ∧ 0 ≤ c := by
  by_cases e : kf a = kf b
  · exact ⟨0, compare_eq e, by omega⟩
  · exact ⟨1, compare_gt (by omega), by omega⟩

theorem evTo {α : Type} {g : Nat → Option α} {r r' : α} (e : r' = r) (h : Ev g r') : Ev g r := e ▸ h
theorem someBind {α β : Type} (a : α) (f : α → Option β) : (some a).bind f = f a := rfl
theorem w64 {x : Int} (h : -9223372036854775808 ≤ x) (h2 : x ≤ 9223372036854775807) : wrap64 x = x := by unfold wrap64; omega
theorem w64' {x : Int} {n : Nat} (e : x = n) (h2 : n ≤ 9223372036854775807) : wrap64 x = (n : Int) := by rw [e]; exact w64 (by omega) (by omega)
theorem wadd {i : Nat} (h : i ≤ 4611686018427387904) : wrap64 ((i : Int) + 1) = ((i + 1 : Nat) : Int) := w64' (by omega) (by omega)
theorem wpre {i : Nat} (h : i ≤ 4611686018427387904) : wrap64 (((i + 1 : Nat) : Int) - 1) = ((i : Nat) : Int) := w64' (by omega) (by omega)
theorem wsum {a b : Nat} (h : a + b ≤ 4611686018427387904) : wrap64 ((a : Int) + (b : Int)) = ((a + b : Nat) : Int) := w64' (by omega) (by omega)
theorem wdif {a b : Nat} (h1 : b ≤ a) (h : a ≤ 4611686018427387904) : wrap64 ((a : Int) - (b : Int)) = ((a - b : Nat) : Int) := w64' (by omega) (by omega)
theorem whalf {a b : Nat} (h : a + b ≤ 4611686018427387904) : wrap64 ((IntKind.u64.wrap (wrap64 ((a : Int) + (b : Int)))) / 2) = (((a + b) / 2 : Nat) : Int) := by
  rw [wsum h, IntKind.wrap_u64, show ((a + b : Nat) : Int) % 18446744073709551616 = ((a + b : Nat) : Int) by omega]
  exact w64' (by omega) (by omega)

theorem rdN (l : List Nat) (i : Nat) : rdOf (0 : Nat) l (i : Int) = l.getD i 0 := by unfold rdOf; rw [Int.toNat_natCast]
theorem rd_at {l p s : List Nat} {x i : Nat} (e : l = p ++ x :: s) (hi : i = p.length) : rdOf (0 : Nat) l (i : Int) = x := by
  subst e; subst hi
  rw [rdN, List.getD_eq_getElem?_getD]; simp
theorem set_at {l p s : List Nat} {x y i : Nat} (e : l = p ++ x :: s) (hi : i = p.length) : l.set i y = p ++ y :: s := by
  subst e; subst hi
  simp
theorem swap_at {l p m s : List Nat} {x y i j : Nat} (e : l = p ++ x :: (m ++ y :: s)) (hi : i = p.length) (hj : j = p.length + 1 + m.length) :
    (l.set i (rdOf (0 : Nat) l (j : Int))).set j (rdOf (0 : Nat) l (i : Int)) = p ++ y :: (m ++ x :: s) := by
  rw [rd_at e hi, rd_at (p := p ++ x :: m) (x := y) (s := s) (by rw [e]; simp) (by simp <;> omega), set_at e hi]
  rw [set_at (p := p ++ y :: m) (x := y) (s := s) (by simp) (by simp <;> omega)]
  simp
theorem swap_at' {l p m s : List Nat} {x y i j : Nat} (e : l = p ++ x :: (m ++ y :: s)) (hi : i = p.length) (hj : j = p.length + 1 + m.length) :
    (l.set j (rdOf (0 : Nat) l (i : Int))).set i (rdOf (0 : Nat) l (j : Int)) = p ++ y :: (m ++ x :: s) := by
  rw [List.set_comm _ _ (by omega)]
  exact swap_at e hi hj

theorem ins_inner {p s : List Nat} {y b i : Nat} {r : List Nat} (hi : i ≤ 2305843009213693952) : ∀ (n : Nat) (u v : List Nat) (l : List Nat) (j : Nat), u.length = n → l = p ++ (u ++ y :: v) ++ s → j = p.length + u.length → l.length ≤ 2305843009213693952 →
    Rises kf (u ++ v) → (∀ z ∈ v, kf y < kf z) →
    Ev (fun k => qsiscff6.l0 k (p ++ msort kf (u ++ v ++ [y]) ++ s) (p.length : Nat) b ((i + 1 : Nat) : Int)) r →
    Ev (fun k => qsiscff6.l1 k l (p.length : Nat) b i j) r := by
  intro n
  induction n with
  | zero =>
    intro u v l j hu e hj hl hr hv h
    have hu0 : u = [] := List.length_eq_zero_iff.1 hu
    subst hu0
    have em : msort kf ([] ++ v ++ [y]) = y :: v := by
      rw [List.nil_append]
      refine (msort_eq ?_ ?_).symm
      · exact Stab.swap (v := [y]) fun x hx z hz hk => by
          rw [List.mem_singleton.1 hz] at hk
          have := hv x hx; omega
      · exact List.pairwise_cons.2 ⟨fun z hz => Int.le_of_lt (hv z hz), hr.right⟩
    rw [em] at h
    refine Ev.step (fun k => ?_) h
    simp only [qsiscff6.l1]
    have hn : ¬ ((j : Int) > (p.length : Int)) := by simp only [List.length_nil] at hj; omega
    rw [if_neg hn, wadd (by omega), e]
    simp
  | succ n ih =>
    intro u v l j hu e hj hl hr hv h
    obtain ⟨u', z, rfl⟩ : ∃ u' z, u = u' ++ [z] := by
      rcases List.eq_nil_or_concat u with h0 | ⟨u', z, h0⟩
      · rw [h0] at hu; simp at hu
      · exact ⟨u', z, by rw [h0, List.concat_eq_append]⟩
    have hu' : u'.length = n := by simpa using hu
    obtain ⟨j', rfl⟩ : ∃ j', j = j' + 1 := ⟨j - 1, by rw [hj]; simp <;> omega⟩
    have hj' : j' = p.length + u'.length := by simp at hj; omega
    have hll : l.length = p.length + u'.length + 2 + v.length + s.length := by rw [e]; simp <;> omega
    have e1 : l = (p ++ u') ++ z :: ([] ++ y :: (v ++ s)) := by rw [e]; simp
    have rz : Zs (rdOf (0 : Nat) l (j' : Int) = z) := ⟨rd_at e1 (by rw [hj']; simp <;> omega)⟩
    have ry : Zs (rdOf (0 : Nat) l ((j' + 1 : Nat) : Int) = y) := ⟨rd_at (p := p ++ u' ++ [z]) (s := v ++ s) (by rw [e1]; simp) (by rw [hj']; simp <;> omega)⟩
    have b1 : ((j' + 1 : Nat) : Int) > (p.length : Int) := by omega
    have b2 : (0 : Int) ≤ ((j' + 1 : Nat) : Int) := by omega
    have b3 : ((j' + 1 : Nat) : Int) < (l.length : Int) := by omega
    have b4 : (0 : Int) ≤ (j' : Int) := by omega
    have b5 : (j' : Int) < (l.length : Int) := by omega
    have e2 := Zs.mk (wpre (i := j') (by omega))
    by_cases hlt : kf y < kf z
    · have IH := ih u' (z :: v) ((p ++ u') ++ y :: ([] ++ z :: (v ++ s))) j' hu' (by simp) hj' (by simp <;> omega) (by simpa using hr)
        (fun x hx => by
          rcases List.mem_cons.1 hx with rfl | hx
          · exact hlt
          · exact hv x hx)
        (by simpa using h)
      clear ih h
      refine Ev.step (fun k => ?_) IH
      simp only [qsiscff6.l1]
      have hcmp : qoc.f (rdOf (0 : Nat) l ((j' + 1 : Nat) : Int)) (rdOf (0 : Nat) l (j' : Int)) = some (-1) := by rw [ry.out, rz.out]; exact compare_lt hlt
      rw [if_pos b1, if_pos b2, if_pos b3, e2.out, if_pos b4, if_pos b5, hcmp, someBind, if_pos (by decide), Int.toNat_natCast, Int.toNat_natCast, swap_at' e1 (by rw [hj']; simp <;> omega) (by rw [hj']; simp <;> omega)]
    · obtain ⟨c, hc, hc0⟩ := compare_ge (a := y) (b := z) (by omega)
      have hz : ∀ x ∈ u', kf x ≤ kf z := fun x hx => by
        have := hr.left (a := u' ++ [z]) (b := v)
        exact this.across x hx z (by simp)
      have em : msort kf (u' ++ [z] ++ v ++ [y]) = u' ++ [z] ++ y :: v := by
        refine (msort_eq ?_ ?_).symm
        · rw [List.append_assoc (u' ++ [z])]
          exact (Stab.refl _).append (Stab.swap (v := [y]) fun x hx w hw hk => by
            rw [List.mem_singleton.1 hw] at hk
            have := hv x hx; omega)
        · refine hr.left.append (List.pairwise_cons.2 ⟨fun x hx => Int.le_of_lt (hv x hx), hr.right⟩) fun x hx w hw => ?_
          have hxy : kf x ≤ kf y := by
            rcases List.mem_append.1 hx with hx | hx
            · have := hz x hx; omega
            · rw [List.mem_singleton.1 hx]; omega
          rcases List.mem_cons.1 hw with rfl | hw
          · exact hxy
          · have := hv w hw; omega
      rw [em] at h
      clear ih
      refine Ev.step (fun k => ?_) h
      simp only [qsiscff6.l1]
      rw [if_pos b1, if_pos b2, if_pos b3, e2.out, if_pos b4, if_pos b5, ry.out, rz.out, hc, someBind, if_neg (by omega), wadd (by omega), e]
theorem ins_outer {p s : List Nat} {b : Nat} : ∀ (q w l : List Nat) (i : Nat), l = p ++ (w ++ q) ++ s → i = p.length + w.length → b = p.length + w.length + q.length → l.length ≤ 2305843009213693952 → Rises kf w →
    Ev (fun k => qsiscff6.l0 k l (p.length : Nat) b i) (p ++ msort kf (w ++ q) ++ s) := by
  intro q
  induction q with
  | nil =>
    intro w l i e hi hb hl hw
    refine Ev.step (fun k => ?_) (Ev.now _)
    simp only [qsiscff6.l0]
    rw [if_neg (by simp only [List.length_nil] at hb; omega), e, List.append_nil, msort_of_rises hw]
  | cons y q ih =>
    intro w l i e hi hb hl hw
    have hll : l.length = p.length + w.length + 1 + q.length + s.length := by rw [e]; simp <;> omega
    have hlm := length_msort (key := kf) (w ++ [y])
    have IH := ih (msort kf (w ++ [y])) (p ++ (msort kf (w ++ [y]) ++ q) ++ s) (i + 1) rfl (by rw [hlm]; simp <;> omega) (by rw [hlm]; simp at hb ⊢; omega) (by simp [hlm]; omega) (rises_msort _)
    rw [msort_of_stab (show Stab kf (w ++ y :: q) (msort kf (w ++ [y]) ++ q) by
      rw [show w ++ y :: q = (w ++ [y]) ++ q by simp]
      exact (stab_msort _).append (Stab.refl q))] at IH
    clear ih
    refine Ev.step (fun k => ?_) (ins_inner (p := p) (s := q ++ s) (y := y) (b := b) (i := i) (by omega) w.length w [] l i rfl (by rw [e]; simp) hi hl (by simpa using hw) (by simp) (by simpa using IH))
    simp only [qsiscff6.l0]
    rw [if_pos (by simp only [List.length_cons] at hb; omega)]
theorem ins {p u s l : List Nat} {a b : Nat} (e : l = p ++ u ++ s) (ha : a = p.length) (hb : b = p.length + u.length) (hl : l.length ≤ 2305843009213693952) :
    Ev (fun k => qsiscff6.f k l a b) (p ++ msort kf u ++ s) := by
  subst ha
  have hll : l.length = p.length + u.length + s.length := by rw [e]; simp <;> omega
  cases u with
  | nil =>
    refine Ev.congr (fun k => ?_) (Ev.step (f := fun _ => some (p ++ msort kf [] ++ s)) (g := fun k => qsiscff6.l0 k l (p.length : Nat) b ((p.length + 1 : Nat) : Int)) (fun k => ?_) (Ev.now _))
    · simp only [qsiscff6.f]
      rw [wadd (by omega)]
    · simp only [qsiscff6.l0]
      rw [if_neg (by simp only [List.length_nil] at hb; omega), e, msort_of_rises Rises.nil]
  | cons x q =>
    refine Ev.congr (fun k => ?_) (ins_outer (p := p) (s := s) (b := b) q [x] l (p.length + 1) (by rw [e]; simp) (by simp) (by rw [hb]; simp <;> omega) hl (Rises.single x))
    simp only [qsiscff6.f]
    rw [wadd (by omega)]

theorem range_l0 {P M Q : List Nat} {a b n : Nat} : ∀ (U V A B l : List Nat) (i : Nat), U.length = V.length → A.length = i → B.length = i → l = P ++ (A ++ U) ++ M ++ (B ++ V) ++ Q → a = P.length → b = P.length + n + M.length → n = i + U.length → l.length ≤ 2305843009213693952 →
    Ev (fun k => qssrcff6.l0 k l a b n i) (P ++ (A ++ V) ++ M ++ (B ++ U) ++ Q) := by
  intro U
  induction U with
  | nil =>
    intro V A B l i hUV hA hB e ha hb hn hl
    have hV : V = [] := List.length_eq_zero_iff.1 (by simpa using hUV.symm)
    subst hV
    refine Ev.step (fun k => ?_) (Ev.now _)
    simp only [qssrcff6.l0]
    rw [if_neg (by simp only [List.length_nil] at hn; omega), e]
  | cons x U ih =>
    intro V A B l i hUV hA hB e ha hb hn hl
    cases V with
    | nil => simp at hUV
    | cons y V =>
      have hUV' : U.length = V.length := by simpa using hUV
      have hn' : n = i + 1 + U.length := by simp at hn; omega
      have hll : l.length = P.length + i + 1 + U.length + M.length + i + 1 + V.length + Q.length := by rw [e]; simp [hA, hB]; omega
      have e1 : l = (P ++ A) ++ x :: ((U ++ M ++ B) ++ y :: (V ++ Q)) := by rw [e]; simp
      have IH := ih V (A ++ [y]) (B ++ [x]) ((P ++ A) ++ y :: ((U ++ M ++ B) ++ x :: (V ++ Q))) (i + 1) hUV' (by simp [hA]) (by simp [hB]) (by simp) ha hb hn' (by simp [hA, hB]; omega)
      clear ih
      have e2 := Zs.mk (wsum (a := b) (b := i) (by omega))
      have e3 := Zs.mk (wsum (a := a) (b := i) (by omega))
      have b1 : (i : Int) < (n : Int) := by omega
      have b2 : (0 : Int) ≤ ((b + i : Nat) : Int) := by omega
      have b3 : ((b + i : Nat) : Int) < (l.length : Int) := by omega
      have b4 : (0 : Int) ≤ ((a + i : Nat) : Int) := by omega
      have b5 : ((a + i : Nat) : Int) < (l.length : Int) := by omega
      have sw := swap_at (i := a + i) (j := b + i) e1 (by simp [hA]; omega) (by simp [hA, hB]; omega)
      refine evTo (by simp) (Ev.step (fun k => ?_) IH)
      simp only [qssrcff6.l0]
      rw [if_pos b1, e2.out, if_pos b2, if_pos b3, e3.out, if_pos b4, if_pos b5, Int.toNat_natCast, Int.toNat_natCast, sw, wadd (by omega)]
theorem range {P U M V Q l : List Nat} {a b n : Nat} (e : l = P ++ U ++ M ++ V ++ Q) (ha : a = P.length) (hb : b = P.length + U.length + M.length) (hn : n = U.length) (hUV : U.length = V.length) (hl : l.length ≤ 2305843009213693952) :
    Ev (fun k => qssrcff6.f k l a b n) (P ++ V ++ M ++ U ++ Q) := by
  have := range_l0 (P := P) (M := M) (Q := Q) (a := a) (b := b) (n := n) U V [] [] l 0 hUV rfl rfl (by simpa using e) ha (by omega) (by omega) hl
  exact Ev.congr (fun k => rfl) this

theorem rot_l0 : ∀ (n : Nat) (P u v Q l : List Nat) (m i j : Nat), u.length + v.length ≤ n → l = P ++ u ++ v ++ Q → m = P.length + u.length → i = u.length → j = v.length → 0 < i → 0 < j → l.length ≤ 1152921504606846976 →
    Ev (fun k => qsrcff6.l0 k l m i j) (P ++ v ++ u ++ Q) := by
  intro n
  induction n with
  | zero => intro P u v Q l m i j hn e hm hi hj h0 h1 hl; omega
  | succ n ih =>
    intro P u v Q l m i j hn e hm hi hj h0 h1 hl
    have hll : l.length = P.length + u.length + v.length + Q.length := by rw [e]; simp <;> omega
    have e1 := Zs.mk (wdif (a := m) (b := i) (by omega) (by omega))
    by_cases hij : i = j
    · have R := range (P := P) (U := u) (M := []) (V := v) (Q := Q) (l := l) (a := m - i) (b := m) (n := i) (by rw [e]; simp) (by omega) (by simp <;> omega) hi (by omega) (by omega)
      refine evTo (by simp) (Ev.step (fun k => ?_) (Ev.bind (f := fun _ t => some t) R (Ev.now _)))
      simp only [qsrcff6.l0]
      rw [if_pos (by omega), e1.out]
    · by_cases hgt : i > j
      · obtain ⟨u1, u2, rfl, hu1⟩ : ∃ u1 u2, u = u1 ++ u2 ∧ u1.length = j := ⟨u.take j, u.drop j, (List.take_append_drop j u).symm, by rw [List.length_take]; omega⟩
        have hl2 : u2.length = i - j := by simp at hi; omega
        have R := range (P := P) (U := u1) (M := u2) (V := v) (Q := Q) (l := l) (a := m - i) (b := m) (n := j) (by rw [e]; simp) (by omega) (by simp at hm; omega) hu1.symm (by omega) (by omega)
        have IH := ih (P ++ v) u2 u1 Q (P ++ v ++ u2 ++ u1 ++ Q) m (i - j) j (by simp at hn; omega) rfl (by simp at hm ⊢; omega) hl2.symm hu1.symm (by omega) h1 (by simp at hll ⊢; omega)
        have e2 := Zs.mk (wdif (a := i) (b := j) (by omega) (by omega))
        refine evTo (by simp) (Ev.step (fun k => ?_) (Ev.bind (f := fun k t => qsrcff6.l0 k t m ((i - j : Nat) : Int) j) R IH))
        simp only [qsrcff6.l0]
        rw [if_neg (by omega), if_pos (by omega), e1.out, e2.out]
      · obtain ⟨v1, v2, rfl, hv2⟩ : ∃ v1 v2, v = v1 ++ v2 ∧ v2.length = i := ⟨v.take (j - i), v.drop (j - i), (List.take_append_drop _ v).symm, by rw [List.length_drop]; omega⟩
        have hl1 : v1.length = j - i := by simp at hj; omega
        have R := range (P := P) (U := u) (M := v1) (V := v2) (Q := Q) (l := l) (a := m - i) (b := m + j - i) (n := i) (by rw [e]; simp) (by omega) (by omega) hi (by omega) (by omega)
        have IH := ih P v2 v1 (u ++ Q) (P ++ v2 ++ v1 ++ u ++ Q) m i (j - i) (by simp at hn; omega) (by simp) (by omega) hv2.symm hl1.symm h0 (by omega) (by simp at hll ⊢; omega)
        have e2 := Zs.mk (wdif (a := j) (b := i) (by omega) (by omega))
        have e3 := Zs.mk (wsum (a := m) (b := j) (by omega))
        have e4 := Zs.mk (wdif (a := m + j) (b := i) (by omega) (by omega))
        refine evTo (by simp) (Ev.step (fun k => ?_) (Ev.bind (f := fun k t => qsrcff6.l0 k t m i ((j - i : Nat) : Int)) R IH))
        simp only [qsrcff6.l0]
        rw [if_neg (by omega), if_neg (by omega), e1.out, e3.out, e4.out, e2.out]
theorem rot {P u v Q l : List Nat} {a m b : Nat} (e : l = P ++ u ++ v ++ Q) (ha : a = P.length) (hm : m = P.length + u.length) (hb : b = P.length + u.length + v.length) (h0 : 0 < u.length) (h1 : 0 < v.length) (hl : l.length ≤ 1152921504606846976) :
    Ev (fun k => qsrcff6.f k l a m b) (P ++ v ++ u ++ Q) := by
  have hll : l.length = P.length + u.length + v.length + Q.length := by rw [e]; simp <;> omega
  refine Ev.congr (fun k => ?_) (rot_l0 (u.length + v.length) P u v Q l m (m - a) (b - m) (Nat.le_refl _) e hm (by omega) (by omega) (by omega) (by omega) hl)
  simp only [qsrcff6.f]
  rw [wdif (by omega) (by omega), wdif (by omega) (by omega)]
end Go.Proofs.Ytkmbgfhkdopigaa.Stab
