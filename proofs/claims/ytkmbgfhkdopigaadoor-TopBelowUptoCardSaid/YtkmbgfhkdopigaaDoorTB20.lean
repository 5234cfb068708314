/- Texts that the statement's proof leans on, part 20. -/
namespace Go.Proofs.YtkmbgfhkdopigaaDoor.Stab
structure Stab {α : Type} (key : α → Int) (l r : List α) : Prop where
  perm : r.Perm l
  filt : ∀ k, r.filter (fun x => decide (key x = k)) = l.filter (fun x => decide (key x = k))

def Rises {α : Type} (key : α → Int) (l : List α) : Prop := l.Pairwise (fun x y => key x ≤ key y)

variable {α : Type} {key : α → Int}

theorem Stab.refl (l : List α) : Stab key l l := ⟨.refl _, fun _ => rfl⟩
theorem Stab.symm {a b : List α} (h : Stab key a b) : Stab key b a := ⟨h.perm.symm, fun k => (h.filt k).symm⟩
theorem Stab.trans {a b c : List α} (h : Stab key a b) (g : Stab key b c) : Stab key a c :=
  ⟨g.perm.trans h.perm, fun k => (g.filt k).trans (h.filt k)⟩
theorem Stab.append {a b c d : List α} (h : Stab key a b) (g : Stab key c d) : Stab key (a ++ c) (b ++ d) :=
  ⟨h.perm.append g.perm, fun k => by rw [List.filter_append, List.filter_append, h.filt, g.filt]⟩
theorem Stab.length {l r : List α} (h : Stab key l r) : r.length = l.length := h.perm.length_eq
theorem Rises.head {x : α} {l : List α} (h : Rises key (x :: l)) : ∀ y ∈ l, key x ≤ key y := (List.pairwise_cons.1 h).1
theorem Rises.nil : Rises key ([] : List α) := List.Pairwise.nil
theorem Rises.append {a b : List α} (ha : Rises key a) (hb : Rises key b) (h : ∀ x ∈ a, ∀ y ∈ b, key x ≤ key y) : Rises key (a ++ b) :=
  List.pairwise_append.2 ⟨ha, hb, h⟩
theorem Rises.left {a b : List α} (h : Rises key (a ++ b)) : Rises key a := (List.pairwise_append.1 h).1
theorem Rises.right {a b : List α} (h : Rises key (a ++ b)) : Rises key b := (List.pairwise_append.1 h).2.1
theorem Rises.across {a b : List α} (h : Rises key (a ++ b)) : ∀ x ∈ a, ∀ y ∈ b, key x ≤ key y := (List.pairwise_append.1 h).2.2

theorem Rises.of_sublist {a b : List α} (h : Rises key b) (s : a.Sublist b) : Rises key a := List.Pairwise.sublist s h

def Runs (key : α → Int) (n : Nat) (l : List α) : Prop := ∀ i : Nat, Rises key ((l.drop (i * n)).take n)
theorem Runs.nil (n : Nat) : Runs key n ([] : List α) := fun i => by simp only [List.drop_nil, List.take_nil]; exact Rises.nil
theorem Runs.all {n : Nat} {l : List α} (h : Runs key n l) (hl : l.length ≤ n) : Rises key l := by
  have := h 0
  rwa [Nat.zero_mul, List.drop_zero, List.take_of_length_le hl] at this
theorem Runs.one {n : Nat} {l : List α} (h : Rises key l) (hl : l.length ≤ n) : Runs key n l := by
  intro i
  exact h.of_sublist ((List.take_sublist _ _).trans (List.drop_sublist _ _))
theorem Runs.cons {n : Nat} {u q : List α} (hn : u.length = n) : Runs key n (u ++ q) ↔ Rises key u ∧ Runs key n q := by
  constructor
  · intro h
    refine ⟨?_, fun i => ?_⟩
    · have := h 0
      rwa [Nat.zero_mul, List.drop_zero, List.take_left' hn] at this
    · have := h (i + 1)
      rwa [Nat.succ_mul, Nat.add_comm, ← List.drop_drop, List.drop_left' hn] at this
  · rintro ⟨hu, hq⟩ i
    cases i with
    | zero => rwa [Nat.zero_mul, List.drop_zero, List.take_left' hn]
    | succ i => rw [Nat.succ_mul, Nat.add_comm, ← List.drop_drop, List.drop_left' hn]; exact hq i
theorem Runs.snoc {n c : Nat} {p w : List α} (hp : Runs key n p) (hc : p.length = c * n) (hw : Rises key w) (hn : w.length ≤ n) : Runs key n (p ++ w) := by
  induction c generalizing p with
  | zero =>
    have : p = [] := List.length_eq_zero_iff.1 (by omega)
    subst this
    exact Runs.one hw hn
  | succ c ih =>
    have hl : (p.take n).length = n := by
      rw [List.length_take, hc, Nat.succ_mul]; omega
    have e : p = p.take n ++ p.drop n := (List.take_append_drop n p).symm
    rw [e, Runs.cons hl] at hp
    rw [e, List.append_assoc, Runs.cons hl]
    refine ⟨hp.1, ih hp.2 ?_⟩
    rw [List.length_drop, hc, Nat.succ_mul]; omega
end Go.Proofs.YtkmbgfhkdopigaaDoor.Stab
