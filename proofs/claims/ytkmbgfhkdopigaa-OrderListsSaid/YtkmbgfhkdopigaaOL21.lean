/- Texts that the statement's proof leans on, part 21. -/
import Derived.Test.YtkmbgfhkdopigaaOL4
import Derived.Test.YtkmbgfhkdopigaaOL7
import Derived.Test.YtkmbgfhkdopigaaOL8
import Derived.Test.YtkmbgfhkdopigaaOL16
import Derived.Test.YtkmbgfhkdopigaaOL20
import Derived.Maps.OwnOps
import Derived.Maps.OwnSet
import Derived.Maps.RangeWalk
namespace Go.Proofs.Ytkmbgfhkdopigaa.P
open Go.RowKit Go.Maps Go.Proofs.YtkmbgfhkdopigaaW.PrintWords Go.Proofs.YtkmbgfhkdopigaaW.PrintLast Go.Proofs.YtkmbgfhkdopigaaW.PrintMore
attribute [local go_sem] Go.Proofs.Ytkmbgfhkdopigaa.Fl.store_float Go.Proofs.Ytkmbgfhkdopigaa.Fl.call54 Go.Proofs.Ytkmbgfhkdopigaa.Fl.call22 Go.Proofs.Ytkmbgfhkdopigaa.Fl.call14 Go.Proofs.Ytkmbgfhkdopigaa.Fl.call28
set_option linter.unusedVariables false
set_option linter.unusedSimpArgs false
def qod.key (x : Nat) : Int := (qok.f x).getD 0
def qod.num (x : Nat) : Bool := (FloatKind.format .f64).order x x == some .eq
def qod.at_ (k : Int) : Nat := ((qoa.f k).getD (0, 0)).1
def qod.keys (l : List Nat) : List Int := (l.filter qod.num).map qod.key
def qod.ded : List Int → List Int
  | [] => []
  | x :: l => if x ∈ l then qod.ded l else x :: qod.ded l
theorem qod.mem_ded (x : Int) : ∀ l : List Int, x ∈ qod.ded l ↔ x ∈ l
  | [] => by simp [qod.ded]
  | y :: l => by
    rw [qod.ded]
    split
    · rename_i h
      rw [qod.mem_ded x l, List.mem_cons]
      exact ⟨Or.inr, fun hh => hh.elim (fun e => e ▸ h) id⟩
    · rw [List.mem_cons, List.mem_cons, qod.mem_ded x l]
theorem qod.nodup_ded : ∀ l : List Int, (qod.ded l).Nodup
  | [] => List.nodup_nil
  | y :: l => by
    rw [qod.ded]
    split
    · exact qod.nodup_ded l
    · rename_i h
      exact List.nodup_cons.2 ⟨fun hh => h ((qod.mem_ded y l).1 hh), qod.nodup_ded l⟩
def qod.f (l : List Nat) : Option (List Nat) :=
  if l.length < 17592186044416 then some (((qod.ded (qod.keys l)).mergeSort (fun x y => decide (x ≤ y))).map qod.at_) else none
theorem qod.key_some (x : Nat) : qok.f x = some (qod.key x) := by
  unfold qod.key qok.f
  split
  · rfl
  · split <;> rfl
theorem qod.u64_wf (n : Int) : (Lit.int .u64 (IntKind.u64.wrap n)).wf = true := by
  simp only [Lit.wf, IntKind.min, IntKind.max, IntKind.signed, IntKind.bits, IntKind.wrap_u64, Bool.and_eq_true, decide_eq_true_eq, if_false, Bool.false_eq_true]
  omega
theorem qod.key_wf (x : Nat) : (Lit.int .u64 (qod.key x)).wf = true := by
  unfold qod.key qok.f
  split
  · rfl
  · split
    · exact qod.u64_wf _
    · exact qod.u64_wf _
theorem qod.at_some (k : Int) : ∃ e, qoa.f k = some (qod.at_ k, e) := by
  unfold qod.at_
  have : ∃ p, qoa.f k = some p := by
    unfold qoa.f qmnn.f
    split
    · exact ⟨_, rfl⟩
    · split
      · exact ⟨_, rfl⟩
      · split <;> exact ⟨_, rfl⟩
  obtain ⟨p, hp⟩ := this
  exact ⟨p.2, by rw [hp]; rfl⟩

def Met (D : DataW Unit) (ks : List Int) : Prop := IsMap D ∧ (∀ x, has D (.int .u64 x) = true ↔ x ∈ ks)
theorem Met.nil : Met (.map []) [] := ⟨isMap_empty, fun x => by simp [has]⟩
theorem Met.put {D : DataW Unit} {ks : List Int} (h : Met D ks) (x : Int) (d : DataW Unit) : Met (D.put (.int .u64 x) d) (ks ++ [x]) := by
  refine ⟨h.1.put _ _, fun y => ?_⟩
  by_cases e : y = x
  · subst e; simp [has_put_same h.1 (show WideAt.IsKeyLit (.int .u64 y) from trivial)]
  · rw [has_put_other (by intro hh; exact e (by injection hh))]
    simp [h.2 y, e]
def Coll (D0 : DataW Unit) (left : Lit → Bool) (ss : List Int) : Prop := ss.Nodup ∧ ∀ x, x ∈ ss ↔ (has D0 (.int .u64 x) = true ∧ left (.int .u64 x) = false)
theorem Coll.start (D0 : DataW Unit) : Coll D0 (has D0) [] := ⟨List.nodup_nil, fun x => by cases has D0 (.int .u64 x) <;> simp⟩
theorem Coll.step {D0 : DataW Unit} {left : Lit → Bool} {ss : List Int} (h : Coll D0 left ss) {x : Int} {y : DataW Unit} (hlk : left (.int .u64 x) = true) (hat : ∀ zd, D0.atKey (.int .u64 x) zd = y) :
    Coll D0 (fun z => left z && !z.sameKey (.int .u64 x)) (ss ++ [x]) := by
  have hhas : has D0 (.int .u64 x) = true := has_true_of_atKey hat
  have hnew : x ∉ ss := fun hx => by have := ((h.2 x).1 hx).2; rw [hlk] at this; cases this
  refine ⟨List.nodup_append.2 ⟨h.1, by simp, fun a ha b hb => by simp at hb; subst hb; exact fun e => hnew (e ▸ ha)⟩, fun y => ?_⟩
  by_cases hy : y = x
  · subst hy; simp [hhas, Lit.sameKey]
  · simp [h.2 y, hy, Lit.sameKey]
theorem Coll.sorted {D0 : DataW Unit} {left : Lit → Bool} {ss ks : List Int} (h : Coll D0 left ss) (hm : Met D0 ks) (hl : ∀ kl, left kl = false) :
    ss.mergeSort (fun x y => decide (x ≤ y)) = (qod.ded ks).mergeSort (fun x y => decide (x ≤ y)) := by
  have hp : ss.Perm (qod.ded ks) := by
    refine (List.perm_ext_iff_of_nodup h.1 ?_).2 fun x => ?_
    · exact qod.nodup_ded ks
    · rw [h.2 x, hm.2 x, hl]; simp [qod.mem_ded]
  have tr : ∀ a b c : Int, decide (a ≤ b) = true → decide (b ≤ c) = true → decide (a ≤ c) = true := fun a b c h1 h2 => by simp at *; omega
  have tot : ∀ a b : Int, (decide (a ≤ b) || decide (b ≤ a)) = true := fun a b => by simp; omega
  refine List.Perm.eq_of_pairwise (le := fun a b => decide (a ≤ b) = true) (fun a b _ _ h1 h2 => ?_) (List.pairwise_mergeSort tr tot ss) (List.pairwise_mergeSort tr tot _) (((List.mergeSort_perm ss _).trans hp).trans (List.mergeSort_perm _ _).symm)
  simp at h1 h2; omega

theorem size_le {w : World} {P : Program} {k : TypeId} {R : Value → Option (DataW Unit × List MemPlace)} {b n : Nat} {D : DataW Unit} (h : w.ownsMap P k R b n D) : size D ≤ n := by
  obtain ⟨es, clock, _, _, hs, rfl⟩ := h
  rw [size_eq, length_sorted]
  simpa using hs
theorem keyed22 : Keyed Try.prog 22 := int_keyed Try.underlying22
theorem zero3 (w : World) : (zeroValue 3).run Try.prog w = .ok (.int .i64 0) w := by kernel_rfl
theorem qod.keys_take_yes {l : List Nat} {j : Nat} (h : j < l.length) (hn : qod.num (rdOf (0 : Nat) l j) = true) : qod.keys (l.take (j + 1)) = qod.keys (l.take j) ++ [qod.key (rdOf (0 : Nat) l j)] := by
  have e : rdOf (0 : Nat) l (j : Int) = l[j] := by unfold rdOf; simp [List.getD_eq_getElem?_getD, h]
  rw [e] at hn ⊢
  unfold qod.keys
  rw [List.take_succ_eq_append_getElem h, List.filter_append, List.map_append]
  simp [hn]
theorem qod.keys_take_no {l : List Nat} {j : Nat} (h : j < l.length) (hn : qod.num (rdOf (0 : Nat) l j) = false) : qod.keys (l.take (j + 1)) = qod.keys (l.take j) := by
  have e : rdOf (0 : Nat) l (j : Int) = l[j] := by unfold rdOf; simp [List.getD_eq_getElem?_getD, h]
  rw [e] at hn
  unfold qod.keys
  rw [List.take_succ_eq_append_getElem h, List.filter_append, List.map_append]
  simp [hn]

set_option maxHeartbeats 8000000 in
set_option maxRecDepth 100000 in
theorem qod.calls (A0 : Option Addr) (c0 : Nat) (l0 : List Nat) (r : List Nat) (w : World) (hr0 : Kd.C (Kd.scalar (Value.float .f64) (fun _ => rfl)) w A0 l0.length l0) (hc0 : l0.length ≤ c0) (h : qod.f l0 = some r) :
    Calls Try.prog 47 #[.slice A0 l0.length c0] w fun e w' => ∃ v0_ : Value, e = .returned v0_ ∧ Kd.R (Kd.scalar (Value.float .f64) (fun _ => rfl)) 23 w' w.heap.size (fun _ => True) v0_ r ∧ Below w.heap.size w w' := by
  have HR0 := Zs.mk hr0
  have HC0 := Zs.mk hc0
  clear hr0 hc0
  unfold qod.f at h
  by_cases hlim : l0.length < 17592186044416
  case neg => rw [if_neg hlim] at h; cases h
  rw [if_pos hlim] at h
  have Hr := Zs.mk (Option.some.inj h).symm
  clear h
  have HL := Zs.mk hlim
  clear hlim
  have hmm := @run_makeMap Try.prog
  go_enter Try.func47, Try.ntmps47
  go_wp2
  go_loopw [16] (fun i wr => ∃ j : Nat, j ≤ l0.length ∧ i = .int .i64 j ∧ Zs (∃ D : DataW Unit, wr.ownsMap Try.prog 22 (plainElem Try.prog 3) w.heap.size j D ∧ Met D (qod.keys (l0.take j))) ∧ Zs (Below w.heap.size w wr))
    (fun i _ => l0.length - (intOf i).toNat)
  case atStart => exact ⟨0, Nat.zero_le _, rfl, ⟨_, World.ownsMap_made _ _ _ _, Met.nil⟩, ⟨(Below.refl _ _).alloc (Nat.le_refl _) _⟩⟩
  case round =>
    obtain ⟨j, hj, rfl, ⟨D, hown, hmet⟩, HB⟩ := hrel
    by_cases hlt : (j : Int) < (l0.length : Int)
    · have hltb : decide ((j : Int) < (l0.length : Int)) = true := decide_eq_true hlt
      obtain ⟨ad, ead, hcell⟩ := Kd.at_flo HR0.out (j : Int) (by omega) hlt
      cases ead
      replace hcell := (HB.out.cell (World.block_lt_of_cell? w _ hcell)).trans hcell
      rw [Int.toNat_natCast] at hcell
      have hjl : j < l0.length := by omega
      have HJ := Zs.mk (show j + 1 ≤ l0.length from hjl)
      have Ky := @qod.keys_take_yes l0 j hjl
      have Kn := @qod.keys_take_no l0 j hjl
      generalize rdOf (0 : Nat) l0 (j : Int) = x at hcell Ky Kn
      cases hn : qod.num x with
      | true =>
        have hnb : ((FloatKind.format .f64).order x x == some .eq) = true := hn
        have Hk := Zs.mk (qod.key_some x)
        have hkw := qod.key_wf x
        have hkey := keyOf_int_mk Try.underlying22 hkw
        have HM := Zs.mk (Ky hn)
        clear Ky Kn hn
        generalize qod.key x = kx at Hk hkw hkey HM
        go_wp2_with (first
          | (go_at_call 80; (with_reducible refine (qok.calls x kx _ Hk.out).mono ?_); rintro e w' ⟨rfl, ⟨nd, rfl⟩⟩; have hown1 : (wr.drewN nd).ownsMap Try.prog 22 (plainElem Try.prog 3) w.heap.size j D := hown)
          | (at_lookup; refine wpList_lookup_own_int _ rfl _ _ 148 rfl 22 3 .i64 keyed22 Try.underlying148 Try.underlying3 (zero3 _) w.heap.size j _ rfl hown1 _ _ rfl hkey ?_; intro c hat hwc)
          | (at_mapUpdate; refine wpList_mapUpdate_own _ rfl _ _ _ 148 rfl 22 3 keyed22 Try.underlying148 _ w.heap.size j _ rfl hown1 (by have := HL.out; unfold maxLen; omega) _ _ _ rfl rfl hkey _ [] (plainElem_int Try.underlying3 (wrap64_wf _)) ?_; intro w1 hown2 hgrow1)
          | go_in)
        have HB1 := (zB HB.out nd).grown (row := some w.heap.size) hgrow1 HB.out.size (fun k hk => by cases hk; exact Nat.le_refl _)
        go_roundw
        case rel => exact ⟨j + 1, by have h9 := HJ.out; exact h9, by rw [Pdq.wadd (i := j) (by have h8 := HL.out; have h9 := HJ.out; omega)], ⟨_, hown2, by rw [HM.out]; exact hmet.put kx _⟩, ⟨HB1⟩⟩
        case measure => have h8 := HL.out; have h9 := HJ.out; have e9 : wrap64 ((j : Int) + 1) = ((j + 1 : Nat) : Int) := Pdq.wadd (by omega); rw [e9]; clear e9; simp only [intOf, Int.toNat_natCast]; omega
      | false =>
        have hnb : ((FloatKind.format .f64).order x x == some .eq) = false := hn
        have HM := Zs.mk (Kn hn)
        clear Ky Kn hn
        go_wp2
        go_roundw
        case rel => exact ⟨j + 1, by have := HJ.out; omega, by rw [Pdq.wadd (i := j) (by have h8 := HL.out; have h9 := HJ.out; omega)], ⟨_, hown.mono (Nat.le_succ _), by rw [HM.out]; exact hmet⟩, ⟨HB.out⟩⟩
        case measure => have h8 := HL.out; have h9 := HJ.out; have e9 : wrap64 ((j : Int) + 1) = ((j + 1 : Nat) : Int) := Pdq.wadd (by omega); rw [e9]; clear e9; simp only [intOf, Int.toNat_natCast]; omega
    · have hltb : decide ((j : Int) < (l0.length : Int)) = false := decide_eq_false hlt
      obtain rfl : j = l0.length := by omega
      rw [List.take_length] at hmet
      go_wp2_with (first
        | (at_range; refine wpList_range_own _ rfl _ 148 rfl 22 3 keyed22 Try.underlying148 _ w.heap.size l0.length _ rfl hown ?_; intro w0 hrg0 hg0 hs0)
        | go_in)
      have HIT := Zs.mk HB.out.size
      have HB0 := Zs.mk (HB.out.grown (row := none) hg0 HB.out.size (fun k hk => by cases hk))
      have hrg0' := hrg0
      clear hrg0 hg0 hs0
      generalize wr.heap.size = it at hrg0' HIT ⊢
      go_loopw [6] (fun v6 wr2 => ∃ (left : Lit → Bool) (cnt : Nat) (ks : List Int), Zs (wr2.ranges Try.prog 22 (plainElem Try.prog 3) w.heap.size it l0.length D left cnt) ∧ Zs (Coll D left ks) ∧ Zs (ks.length + cnt ≤ l0.length) ∧
          Zs (Kd.R (Kd.int .u64) 22 wr2 w.heap.size (fun k_ => k_ ≠ w.heap.size ∧ k_ ≠ it) v6 ks) ∧ Zs (Below w.heap.size w wr2))
        (fun _ wr2 => wr2.rangeLeft w.heap.size it)
      case atStart => exact ⟨_, _, [], ⟨hrg0'⟩, ⟨Coll.start D⟩, ⟨by simpa using size_le hown⟩, ⟨Kd.R_nil _ _ _ _ _⟩, ⟨HB0.out⟩⟩
      case round =>
        obtain ⟨left, cnt, ks, HRG, HCL, HCN, HO, HB2⟩ := hrel
        clear hrg0'
        go_wp2_with (first
          | (at_next; refine wpList_next_ranges_ii _ rfl _ rfl 22 3 .u64 .i64 keyed22 Try.underlying22 Try.underlying3 w.heap.size it l0.length D left cnt rfl HRG.out ?_ ?_)
          | go_in)
        · intro hc0 hl0
          have HSO := HCL.out.sorted hmet hl0
          obtain ⟨kS, HSf⟩ := Ev.rounds (Pdq.sort_ev ks (by have h1 := HCN.out; have h2 := HL.out; omega))
          have hlen : (ks.mergeSort (fun x y => decide (x ≤ y))).length = ks.length := List.length_mergeSort _
          rw [← HSO] at Hr
          generalize ks.mergeSort (fun x y => decide (x ≤ y)) = zs at HSf hlen Hr
          obtain ⟨Ao, co, eo⟩ := Kd.R_slice HO.out
          rw [← hlen] at eo
          subst eo
          have HSF := Zs.mk HSf
          have HZ := Zs.mk (show zs.length ≤ l0.length by have h1 := HCN.out; omega)
          clear HSO HSf hc0 hl0 HCL hmet hlen
          go_wp2_with (first
            | (go_at_call 99; (with_reducible refine (qssu6u6.calls kS (fun k_ => k_ ≠ w.heap.size ∧ k_ ≠ it) _ ks zs w _ HB2.out HO.out HSF.out).mono ?_); rintro e w3 ⟨rfl, ho, hb, hk⟩; have HK3 := Zs.mk (Kd.R_mono ho (fun _ _ => trivial) (ok' := fun _ => True)); have HB3 := Zs.mk hb; clear ho hb hk)
            | go_in)
          go_loopw [8, 43] (fun v8 v43 wr3 => ∃ j : Nat, j ≤ zs.length ∧ v43 = .int .i64 j ∧ Zs (Kd.R (Kd.scalar (Value.float .f64) (fun _ => rfl)) 23 wr3 w.heap.size (fun _ => True) v8 ((zs.take j).map qod.at_)) ∧
              Zs (Kd.R (Kd.int .u64) 22 wr3 w.heap.size (fun _ => True) (.slice Ao zs.length co) zs) ∧ Zs (Below w.heap.size w wr3))
            (fun _ v43 _ => zs.length - (intOf v43).toNat)
          case atStart => exact ⟨0, Nat.zero_le _, rfl, ⟨Kd.R_nil _ _ _ _ _⟩, ⟨HK3.out⟩, ⟨HB3.out⟩⟩
          case round =>
            obtain ⟨j, hj, rfl, HOut, HKey, HB4⟩ := hrel
            by_cases hlt : (j : Int) < (zs.length : Int)
            · have hltb : decide ((j : Int) < (zs.length : Int)) = true := decide_eq_true hlt
              obtain ⟨ad, ead, hcell⟩ := Kd.at_int (Kd.R_reads' HKey.out).2.2 (j : Int) (by omega) hlt
              cases ead
              rw [Int.toNat_natCast] at hcell
              have hjl : j < zs.length := by omega
              have HJ3 := Zs.mk (show j + 1 ≤ zs.length from hjl)
              have HT := Zs.mk (show (zs.take (j + 1)).map qod.at_ = (zs.take j).map qod.at_ ++ [qod.at_ (rd zs (j : Int))] by
                rw [List.take_succ_eq_append_getElem hjl, List.map_append, show rd zs (j : Int) = zs[j] by unfold rd; simp [List.getD_eq_getElem?_getD, hjl]]; rfl)
              obtain ⟨er, hAt⟩ := qod.at_some (rd zs (j : Int))
              have HAT := Zs.mk hAt
              clear hAt hjl
              generalize rd zs (j : Int) = y at hcell HT HAT
              generalize qod.at_ y = fy at HT HAT
              have HLn := Zs.mk (show ((zs.take j).map qod.at_).length ≤ zs.length by rw [List.length_map, List.length_take]; omega)
              generalize (zs.take j).map qod.at_ = os at HT HOut HLn
              go_wp2_with (first
                | (go_at_call 100; (with_reducible refine (qoa.calls y fy er _ HAT.out).mono ?_); rintro e w' ⟨rfl, ⟨nd, rfl⟩⟩)
                | ((with_reducible refine gate_builtin (b := .append) (xs := #[.tmp 52, .tmp 54]) rfl ?_); at_builtin; refine Kd.R_append (Kd.scalar (Value.float .f64) (fun _ => rfl)) (w0 := w) w.heap.size rfl (.tmp 52) (.tmp 54) 70 23 (.float .f64 0) 8 rfl Try.underlying70 info23 rfl (by decide) (by omega) _ os fy [.float .f64 fy] (fun _ => True) (fun _ => False) rfl rfl ?aP (fun _ hk => hk.elim) ?aF ?aO ?aB ?aS ?aL ?_; (case aP => exact rfl); (case aB => exact zB HB4.out nd); (case aF => exact fun _ _ => trivial); (case aO => exact Kd.R_drewN HOut.out nd); (case aS => exact HB4.out.size); (case aL => have h1 := HLn.out; have h2 := HL.out; have h3 := HZ.out; omega); intro v1 w5 ho hb hg hat2; have HK5 := Zs.mk (Kd.R_over (Kd.R_drewN HKey.out nd) (Kd.R_drewN HOut.out nd) (by intro q hq; simp [Kd.int, Kd.scalar] at hq; omega) hg))
                | go_in)
              go_roundw
              case rel => exact ⟨j + 1, HJ3.out, by rw [Pdq.wadd (i := j) (by have h1 := HL.out; have h2 := HZ.out; have h9 := HJ3.out; omega)], ⟨by rw [HT.out]; exact ho⟩, ⟨HK5.out⟩, ⟨hb⟩⟩
              case measure => have h8 := HL.out; have h7 := HZ.out; have h9 := HJ3.out; have e9 : wrap64 ((j : Int) + 1) = ((j + 1 : Nat) : Int) := Pdq.wadd (by omega); rw [e9]; clear e9; simp only [intOf, Int.toNat_natCast]; omega
            · have hltb : decide ((j : Int) < (zs.length : Int)) = false := decide_eq_false hlt
              obtain rfl : j = zs.length := by omega
              rw [List.take_length, ← Hr.out] at HOut
              go_wp2
              go_ret
              exact ⟨_, rfl, HOut.out, HB4.out⟩
        · intro x c w1 cnt1 hwx hwc hlx hat hrg1 hlt hg1 hs1 hen
          have HO1 := Zs.mk (Kd.R_grown HO.out hg1 (fun k hk e => hk.2 (by injection e)))
          have HB3 := Zs.mk (HB2.out.grown (row := some it) hg1 HB2.out.size (fun k hk => by cases hk; exact HIT.out))
          have HR1 := Zs.mk hrg1
          have HC1 := Zs.mk (HCL.out.step hlx hat)
          have HLT := Zs.mk hlt
          have hb1 := hrg1.owns.lt
          have hr1 := hrg1.lt
          have HF := Zs.mk (show ∀ k, w1.heap.size ≤ k → k ≠ w.heap.size ∧ k ≠ it from fun k hk => by omega)
          clear hrg1 hlt hlx hat hs1 hb1 hr1 hg1
          go_wp2_with (first
            | ((with_reducible refine gate_builtin (b := .append) (xs := #[.tmp 35, .tmp 37]) rfl ?_); at_builtin; refine Kd.R_append (Kd.int .u64) (w0 := w) w.heap.size rfl (.tmp 35) (.tmp 37) 84 22 (.int .u64 0) 8 rfl Try.underlying84 info22 rfl (by decide) (by omega) _ ks x [.int .u64 x] (fun k_ => k_ ≠ w.heap.size ∧ k_ ≠ it) (fun _ => False) rfl rfl ?aP (fun _ hk => hk.elim) ?aF ?aO ?aB ?aS ?aL ?_; (case aP => exact rfl); (case aB => exact HB3.out); (case aF => exact HF.out); (case aO => exact HO1.out); (case aS => exact HB3.out.size); (case aL => have h1 := HCN.out; have h2 := HL.out; have h3 := HLT.out; omega); intro v1 w5 ho hb hg hat2)
            | go_in)
          have HR2 := HR1.out.kept hg (Kd.R_away HO1.out (fun k hk => hk.1)) (Kd.R_away HO1.out (fun k hk => hk.2))
          go_roundw
          case rel => exact ⟨_, cnt1, ks ++ [x], ⟨HR2⟩, ⟨HC1.out⟩, ⟨by have h1 := HCN.out; have h3 := HLT.out; simp; omega⟩, ⟨ho⟩, ⟨hb⟩⟩
          case measure => rw [HR2.left_eq, HRG.out.left_eq]; exact HLT.out
end Go.Proofs.Ytkmbgfhkdopigaa.P
namespace Go.Proofs.Ytkmbgfhkdopigaa.P
open Go.RowKit Go.Proofs.YtkmbgfhkdopigaaW.PrintWords Go.Proofs.YtkmbgfhkdopigaaW.PrintLast Go.Proofs.YtkmbgfhkdopigaaW.PrintMore
attribute [local go_sem] max2_int min2_int max_two min_two max_three min_three max_four min_four
attribute [local go_sem] Go.Proofs.Ytkmbgfhkdopigaa.Fl.store_float Go.Proofs.Ytkmbgfhkdopigaa.Fl.call54 Go.Proofs.Ytkmbgfhkdopigaa.Fl.call22 Go.Proofs.Ytkmbgfhkdopigaa.Fl.call14 Go.Proofs.Ytkmbgfhkdopigaa.Fl.call28
set_option linter.unusedVariables false
set_option linter.unusedSimpArgs false
def qt0ol.f (k : Nat) (l0 : List Int) (a1 : Int) : Option (Bool) := (qt0l.f k l0).bind fun t101 => ((some (([4620130267728707584, 4620974692658839552] : List Nat) : List Nat)).bind fun y104 => (if t101.length + y104.length < 17592186044416 then ((some (t101 ++ y104 : List Nat)).bind fun y107 => (if 0 ≤ (l0.length : Int) then (if (l0.length : Int) ≤ (y107.length : Int) then ((some (y107.take ((l0.length : Int) : Int).toNat : List Nat)).bind fun y110 => ((qos.f k y110).bind fun t114 => ((qt0s.f k l0).bind fun t117 => ((qt0a.f k t114 t117).bind fun t120 => (if t120 = true then ((qod.f y110).bind fun t121 => ((qt0d.f k l0).bind fun t124 => ((qt0a.f k t121 t124).bind fun t127 => (if t127 = true then ((qob.f k y110 a1.toNat).bind fun t128 => ((qt0b.f k l0 a1).bind fun t129 => (if t128 = t129 then ((qt0a.f k y110 l0).bind fun t130 => (if t130 = true then (if (l0.length : Int) < (y107.length : Int) then (if ((FloatKind.format .f64).order (rdOf (0 : Nat) y107 (l0.length : Int)) 4620130267728707584 == some .eq) = true then (if 0 ≤ (wrap64 ((l0.length : Int) + 1)) then (if (wrap64 ((l0.length : Int) + 1)) < (y107.length : Int) then (some ((FloatKind.format .f64).order (rdOf (0 : Nat) y107 (wrap64 ((l0.length : Int) + 1))) 4620974692658839552 == some .eq)) else (none)) else (none)) else (some false)) else (none)) else (some false))) else (some false)))) else (some false))))) else (some false)))))) else (none)) else (none))) else (none)))
set_option maxHeartbeats 8000000 in
set_option maxRecDepth 100000 in
theorem qt0ol.calls (k : Nat) (A0 : Option Addr) (c0 : Nat) (l0 : List Int) (a1 : Int) (r : Bool) (w : World) (hr0 : Kd.C (Kd.int .u64) w A0 l0.length l0) (hc0 : l0.length ≤ c0) (h : qt0ol.f k l0 a1 = some r) (hrt : ¬ r = false) :
  Calls Try.prog 9 #[.slice A0 l0.length c0, .int .u64 a1] w fun e w' => e = .returned (.bool r) ∧ Below w.heap.size w w' := by
 have HR0 := Zs.mk hr0
 have HC0 := Zs.mk hc0
 clear hr0 hc0
 have HB := Zs.mk (Below.refl w.heap.size w)
 have H : ((qt0l.f k l0).bind fun t101 => ((some (([4620130267728707584, 4620974692658839552] : List Nat) : List Nat)).bind fun y104 => (if t101.length + y104.length < 17592186044416 then ((some (t101 ++ y104 : List Nat)).bind fun y107 => (if 0 ≤ (l0.length : Int) then (if (l0.length : Int) ≤ (y107.length : Int) then ((some (y107.take ((l0.length : Int) : Int).toNat : List Nat)).bind fun y110 => ((qos.f k y110).bind fun t114 => ((qt0s.f k l0).bind fun t117 => ((qt0a.f k t114 t117).bind fun t120 => (if t120 = true then ((qod.f y110).bind fun t121 => ((qt0d.f k l0).bind fun t124 => ((qt0a.f k t121 t124).bind fun t127 => (if t127 = true then ((qob.f k y110 a1.toNat).bind fun t128 => ((qt0b.f k l0 a1).bind fun t129 => (if t128 = t129 then ((qt0a.f k y110 l0).bind fun t130 => (if t130 = true then (if (l0.length : Int) < (y107.length : Int) then (if ((FloatKind.format .f64).order (rdOf (0 : Nat) y107 (l0.length : Int)) 4620130267728707584 == some .eq) = true then (if 0 ≤ (wrap64 ((l0.length : Int) + 1)) then (if (wrap64 ((l0.length : Int) + 1)) < (y107.length : Int) then (some ((FloatKind.format .f64).order (rdOf (0 : Nat) y107 (wrap64 ((l0.length : Int) + 1))) 4620974692658839552 == some .eq)) else (none)) else (none)) else (some false)) else (none)) else (some false))) else (some false)))) else (some false))))) else (some false)))))) else (none)) else (none))) else (none)))) = some r := h
 clear h
 replace H := Option.bind_eq_some_iff.mp H
 obtain ⟨t101, A30, H⟩ := H
 replace H : ((some (([4620130267728707584, 4620974692658839552] : List Nat) : List Nat)).bind fun y104 => (if t101.length + y104.length < 17592186044416 then ((some (t101 ++ y104 : List Nat)).bind fun y107 => (if 0 ≤ (l0.length : Int) then (if (l0.length : Int) ≤ (y107.length : Int) then ((some (y107.take ((l0.length : Int) : Int).toNat : List Nat)).bind fun y110 => ((qos.f k y110).bind fun t114 => ((qt0s.f k l0).bind fun t117 => ((qt0a.f k t114 t117).bind fun t120 => (if t120 = true then ((qod.f y110).bind fun t121 => ((qt0d.f k l0).bind fun t124 => ((qt0a.f k t121 t124).bind fun t127 => (if t127 = true then ((qob.f k y110 a1.toNat).bind fun t128 => ((qt0b.f k l0 a1).bind fun t129 => (if t128 = t129 then ((qt0a.f k y110 l0).bind fun t130 => (if t130 = true then (if (l0.length : Int) < (y107.length : Int) then (if ((FloatKind.format .f64).order (rdOf (0 : Nat) y107 (l0.length : Int)) 4620130267728707584 == some .eq) = true then (if 0 ≤ (wrap64 ((l0.length : Int) + 1)) then (if (wrap64 ((l0.length : Int) + 1)) < (y107.length : Int) then (some ((FloatKind.format .f64).order (rdOf (0 : Nat) y107 (wrap64 ((l0.length : Int) + 1))) 4620974692658839552 == some .eq)) else (none)) else (none)) else (some false)) else (none)) else (some false))) else (some false)))) else (some false))))) else (some false)))))) else (none)) else (none))) else (none))) = some r := H
 have A3 := Zs.mk A30
 clear A30
 obtain ⟨y104, hy104⟩ : ∃ y_ : List Nat, y_ = (([4620130267728707584, 4620974692658839552] : List Nat)) := ⟨_, rfl⟩
 replace H : (if t101.length + y104.length < 17592186044416 then ((some (t101 ++ y104 : List Nat)).bind fun y107 => (if 0 ≤ (l0.length : Int) then (if (l0.length : Int) ≤ (y107.length : Int) then ((some (y107.take ((l0.length : Int) : Int).toNat : List Nat)).bind fun y110 => ((qos.f k y110).bind fun t114 => ((qt0s.f k l0).bind fun t117 => ((qt0a.f k t114 t117).bind fun t120 => (if t120 = true then ((qod.f y110).bind fun t121 => ((qt0d.f k l0).bind fun t124 => ((qt0a.f k t121 t124).bind fun t127 => (if t127 = true then ((qob.f k y110 a1.toNat).bind fun t128 => ((qt0b.f k l0 a1).bind fun t129 => (if t128 = t129 then ((qt0a.f k y110 l0).bind fun t130 => (if t130 = true then (if (l0.length : Int) < (y107.length : Int) then (if ((FloatKind.format .f64).order (rdOf (0 : Nat) y107 (l0.length : Int)) 4620130267728707584 == some .eq) = true then (if 0 ≤ (wrap64 ((l0.length : Int) + 1)) then (if (wrap64 ((l0.length : Int) + 1)) < (y107.length : Int) then (some ((FloatKind.format .f64).order (rdOf (0 : Nat) y107 (wrap64 ((l0.length : Int) + 1))) 4620974692658839552 == some .eq)) else (none)) else (none)) else (some false)) else (none)) else (some false))) else (some false)))) else (some false))))) else (some false)))))) else (none)) else (none))) else (none)) = some r := by first | (rw [hy104]; with_reducible exact H) | (have H2_ := (Option.bind_some _ _).symm.trans H; rw [hy104]; with_reducible exact H2_) | (have H2_ := (Option.bind_some _ _).symm.trans H; with_reducible exact H2_) | with_reducible exact H | (rw [hy104]; exact H) | exact H
 have Ny104 := Zs.mk hy104
 clear hy104
 by_cases c4 : t101.length + y104.length < 17592186044416
 ·rw [if_pos c4] at H
  have LMc4 := Zs.mk c4
  clear c4
  obtain ⟨y107, hy107⟩ : ∃ y_ : List Nat, y_ = (t101 ++ y104) := ⟨_, rfl⟩
  replace H : (if 0 ≤ (l0.length : Int) then (if (l0.length : Int) ≤ (y107.length : Int) then ((some (y107.take ((l0.length : Int) : Int).toNat : List Nat)).bind fun y110 => ((qos.f k y110).bind fun t114 => ((qt0s.f k l0).bind fun t117 => ((qt0a.f k t114 t117).bind fun t120 => (if t120 = true then ((qod.f y110).bind fun t121 => ((qt0d.f k l0).bind fun t124 => ((qt0a.f k t121 t124).bind fun t127 => (if t127 = true then ((qob.f k y110 a1.toNat).bind fun t128 => ((qt0b.f k l0 a1).bind fun t129 => (if t128 = t129 then ((qt0a.f k y110 l0).bind fun t130 => (if t130 = true then (if (l0.length : Int) < (y107.length : Int) then (if ((FloatKind.format .f64).order (rdOf (0 : Nat) y107 (l0.length : Int)) 4620130267728707584 == some .eq) = true then (if 0 ≤ (wrap64 ((l0.length : Int) + 1)) then (if (wrap64 ((l0.length : Int) + 1)) < (y107.length : Int) then (some ((FloatKind.format .f64).order (rdOf (0 : Nat) y107 (wrap64 ((l0.length : Int) + 1))) 4620974692658839552 == some .eq)) else (none)) else (none)) else (some false)) else (none)) else (some false))) else (some false)))) else (some false))))) else (some false)))))) else (none)) else (none)) = some r := by first | (rw [hy107]; with_reducible exact H) | (have H2_ := (Option.bind_some _ _).symm.trans H; rw [hy107]; with_reducible exact H2_) | (have H2_ := (Option.bind_some _ _).symm.trans H; with_reducible exact H2_) | with_reducible exact H | (rw [hy107]; exact H) | exact H
  have Ny107 := Zs.mk hy107
  clear hy107
  by_cases c5 : 0 ≤ (l0.length : Int)
  ·rw [if_pos c5] at H
   have c5b0 := eq_true c5
   have c5b1 : decide (0 ≤ (l0.length : Int)) = true := decide_eq_true c5
   clear c5
   by_cases c6 : (l0.length : Int) ≤ (y107.length : Int)
   ·rw [if_pos c6] at H
    have c6b0 := eq_true c6
    have c6b1 : decide ((l0.length : Int) ≤ (y107.length : Int)) = true := decide_eq_true c6
    clear c6
    obtain ⟨y110, hy110⟩ : ∃ y_ : List Nat, y_ = (y107.take ((l0.length : Int) : Int).toNat) := ⟨_, rfl⟩
    replace H : ((qos.f k y110).bind fun t114 => ((qt0s.f k l0).bind fun t117 => ((qt0a.f k t114 t117).bind fun t120 => (if t120 = true then ((qod.f y110).bind fun t121 => ((qt0d.f k l0).bind fun t124 => ((qt0a.f k t121 t124).bind fun t127 => (if t127 = true then ((qob.f k y110 a1.toNat).bind fun t128 => ((qt0b.f k l0 a1).bind fun t129 => (if t128 = t129 then ((qt0a.f k y110 l0).bind fun t130 => (if t130 = true then (if (l0.length : Int) < (y107.length : Int) then (if ((FloatKind.format .f64).order (rdOf (0 : Nat) y107 (l0.length : Int)) 4620130267728707584 == some .eq) = true then (if 0 ≤ (wrap64 ((l0.length : Int) + 1)) then (if (wrap64 ((l0.length : Int) + 1)) < (y107.length : Int) then (some ((FloatKind.format .f64).order (rdOf (0 : Nat) y107 (wrap64 ((l0.length : Int) + 1))) 4620974692658839552 == some .eq)) else (none)) else (none)) else (some false)) else (none)) else (some false))) else (some false)))) else (some false))))) else (some false))))) = some r := by first | (rw [hy110]; with_reducible exact H) | (have H2_ := (Option.bind_some _ _).symm.trans H; rw [hy110]; with_reducible exact H2_) | (have H2_ := (Option.bind_some _ _).symm.trans H; with_reducible exact H2_) | with_reducible exact H | (rw [hy110]; exact H) | exact H
    have Ny110 := Zs.mk hy110
    clear hy110
    replace H := Option.bind_eq_some_iff.mp H
    obtain ⟨t114, A70, H⟩ := H
    replace H : ((qt0s.f k l0).bind fun t117 => ((qt0a.f k t114 t117).bind fun t120 => (if t120 = true then ((qod.f y110).bind fun t121 => ((qt0d.f k l0).bind fun t124 => ((qt0a.f k t121 t124).bind fun t127 => (if t127 = true then ((qob.f k y110 a1.toNat).bind fun t128 => ((qt0b.f k l0 a1).bind fun t129 => (if t128 = t129 then ((qt0a.f k y110 l0).bind fun t130 => (if t130 = true then (if (l0.length : Int) < (y107.length : Int) then (if ((FloatKind.format .f64).order (rdOf (0 : Nat) y107 (l0.length : Int)) 4620130267728707584 == some .eq) = true then (if 0 ≤ (wrap64 ((l0.length : Int) + 1)) then (if (wrap64 ((l0.length : Int) + 1)) < (y107.length : Int) then (some ((FloatKind.format .f64).order (rdOf (0 : Nat) y107 (wrap64 ((l0.length : Int) + 1))) 4620974692658839552 == some .eq)) else (none)) else (none)) else (some false)) else (none)) else (some false))) else (some false)))) else (some false))))) else (some false)))) = some r := H
    have A7 := Zs.mk A70
    clear A70
    replace H := Option.bind_eq_some_iff.mp H
    obtain ⟨t117, A80, H⟩ := H
    replace H : ((qt0a.f k t114 t117).bind fun t120 => (if t120 = true then ((qod.f y110).bind fun t121 => ((qt0d.f k l0).bind fun t124 => ((qt0a.f k t121 t124).bind fun t127 => (if t127 = true then ((qob.f k y110 a1.toNat).bind fun t128 => ((qt0b.f k l0 a1).bind fun t129 => (if t128 = t129 then ((qt0a.f k y110 l0).bind fun t130 => (if t130 = true then (if (l0.length : Int) < (y107.length : Int) then (if ((FloatKind.format .f64).order (rdOf (0 : Nat) y107 (l0.length : Int)) 4620130267728707584 == some .eq) = true then (if 0 ≤ (wrap64 ((l0.length : Int) + 1)) then (if (wrap64 ((l0.length : Int) + 1)) < (y107.length : Int) then (some ((FloatKind.format .f64).order (rdOf (0 : Nat) y107 (wrap64 ((l0.length : Int) + 1))) 4620974692658839552 == some .eq)) else (none)) else (none)) else (some false)) else (none)) else (some false))) else (some false)))) else (some false))))) else (some false))) = some r := H
    have A8 := Zs.mk A80
    clear A80
    replace H := Option.bind_eq_some_iff.mp H
    obtain ⟨t120, A90, H⟩ := H
    replace H : (if t120 = true then ((qod.f y110).bind fun t121 => ((qt0d.f k l0).bind fun t124 => ((qt0a.f k t121 t124).bind fun t127 => (if t127 = true then ((qob.f k y110 a1.toNat).bind fun t128 => ((qt0b.f k l0 a1).bind fun t129 => (if t128 = t129 then ((qt0a.f k y110 l0).bind fun t130 => (if t130 = true then (if (l0.length : Int) < (y107.length : Int) then (if ((FloatKind.format .f64).order (rdOf (0 : Nat) y107 (l0.length : Int)) 4620130267728707584 == some .eq) = true then (if 0 ≤ (wrap64 ((l0.length : Int) + 1)) then (if (wrap64 ((l0.length : Int) + 1)) < (y107.length : Int) then (some ((FloatKind.format .f64).order (rdOf (0 : Nat) y107 (wrap64 ((l0.length : Int) + 1))) 4620974692658839552 == some .eq)) else (none)) else (none)) else (some false)) else (none)) else (some false))) else (some false)))) else (some false))))) else (some false)) = some r := H
    have A9 := Zs.mk A90
    clear A90
    by_cases c10 : t120 = true
    ·subst c10
     have H1 : ((qod.f y110).bind fun t121 => ((qt0d.f k l0).bind fun t124 => ((qt0a.f k t121 t124).bind fun t127 => (if t127 = true then ((qob.f k y110 a1.toNat).bind fun t128 => ((qt0b.f k l0 a1).bind fun t129 => (if t128 = t129 then ((qt0a.f k y110 l0).bind fun t130 => (if t130 = true then (if (l0.length : Int) < (y107.length : Int) then (if ((FloatKind.format .f64).order (rdOf (0 : Nat) y107 (l0.length : Int)) 4620130267728707584 == some .eq) = true then (if 0 ≤ (wrap64 ((l0.length : Int) + 1)) then (if (wrap64 ((l0.length : Int) + 1)) < (y107.length : Int) then (some ((FloatKind.format .f64).order (rdOf (0 : Nat) y107 (wrap64 ((l0.length : Int) + 1))) 4620974692658839552 == some .eq)) else (none)) else (none)) else (some false)) else (none)) else (some false))) else (some false)))) else (some false))))) = some r := by rw [if_pos rfl] at H; exact H
     clear H
     have H := H1
     clear H1
     replace H := Option.bind_eq_some_iff.mp H
     obtain ⟨t121, A110, H⟩ := H
     replace H : ((qt0d.f k l0).bind fun t124 => ((qt0a.f k t121 t124).bind fun t127 => (if t127 = true then ((qob.f k y110 a1.toNat).bind fun t128 => ((qt0b.f k l0 a1).bind fun t129 => (if t128 = t129 then ((qt0a.f k y110 l0).bind fun t130 => (if t130 = true then (if (l0.length : Int) < (y107.length : Int) then (if ((FloatKind.format .f64).order (rdOf (0 : Nat) y107 (l0.length : Int)) 4620130267728707584 == some .eq) = true then (if 0 ≤ (wrap64 ((l0.length : Int) + 1)) then (if (wrap64 ((l0.length : Int) + 1)) < (y107.length : Int) then (some ((FloatKind.format .f64).order (rdOf (0 : Nat) y107 (wrap64 ((l0.length : Int) + 1))) 4620974692658839552 == some .eq)) else (none)) else (none)) else (some false)) else (none)) else (some false))) else (some false)))) else (some false)))) = some r := H
     have A11 := Zs.mk A110
     clear A110
     replace H := Option.bind_eq_some_iff.mp H
     obtain ⟨t124, A120, H⟩ := H
     replace H : ((qt0a.f k t121 t124).bind fun t127 => (if t127 = true then ((qob.f k y110 a1.toNat).bind fun t128 => ((qt0b.f k l0 a1).bind fun t129 => (if t128 = t129 then ((qt0a.f k y110 l0).bind fun t130 => (if t130 = true then (if (l0.length : Int) < (y107.length : Int) then (if ((FloatKind.format .f64).order (rdOf (0 : Nat) y107 (l0.length : Int)) 4620130267728707584 == some .eq) = true then (if 0 ≤ (wrap64 ((l0.length : Int) + 1)) then (if (wrap64 ((l0.length : Int) + 1)) < (y107.length : Int) then (some ((FloatKind.format .f64).order (rdOf (0 : Nat) y107 (wrap64 ((l0.length : Int) + 1))) 4620974692658839552 == some .eq)) else (none)) else (none)) else (some false)) else (none)) else (some false))) else (some false)))) else (some false))) = some r := H
     have A12 := Zs.mk A120
     clear A120
     replace H := Option.bind_eq_some_iff.mp H
     obtain ⟨t127, A130, H⟩ := H
     replace H : (if t127 = true then ((qob.f k y110 a1.toNat).bind fun t128 => ((qt0b.f k l0 a1).bind fun t129 => (if t128 = t129 then ((qt0a.f k y110 l0).bind fun t130 => (if t130 = true then (if (l0.length : Int) < (y107.length : Int) then (if ((FloatKind.format .f64).order (rdOf (0 : Nat) y107 (l0.length : Int)) 4620130267728707584 == some .eq) = true then (if 0 ≤ (wrap64 ((l0.length : Int) + 1)) then (if (wrap64 ((l0.length : Int) + 1)) < (y107.length : Int) then (some ((FloatKind.format .f64).order (rdOf (0 : Nat) y107 (wrap64 ((l0.length : Int) + 1))) 4620974692658839552 == some .eq)) else (none)) else (none)) else (some false)) else (none)) else (some false))) else (some false)))) else (some false)) = some r := H
     have A13 := Zs.mk A130
     clear A130
     by_cases c14 : t127 = true
     ·subst c14
      have H1 : ((qob.f k y110 a1.toNat).bind fun t128 => ((qt0b.f k l0 a1).bind fun t129 => (if t128 = t129 then ((qt0a.f k y110 l0).bind fun t130 => (if t130 = true then (if (l0.length : Int) < (y107.length : Int) then (if ((FloatKind.format .f64).order (rdOf (0 : Nat) y107 (l0.length : Int)) 4620130267728707584 == some .eq) = true then (if 0 ≤ (wrap64 ((l0.length : Int) + 1)) then (if (wrap64 ((l0.length : Int) + 1)) < (y107.length : Int) then (some ((FloatKind.format .f64).order (rdOf (0 : Nat) y107 (wrap64 ((l0.length : Int) + 1))) 4620974692658839552 == some .eq)) else (none)) else (none)) else (some false)) else (none)) else (some false))) else (some false)))) = some r := by rw [if_pos rfl] at H; exact H
      clear H
      have H := H1
      clear H1
      replace H := Option.bind_eq_some_iff.mp H
      obtain ⟨t128, A150, H⟩ := H
      replace H : ((qt0b.f k l0 a1).bind fun t129 => (if t128 = t129 then ((qt0a.f k y110 l0).bind fun t130 => (if t130 = true then (if (l0.length : Int) < (y107.length : Int) then (if ((FloatKind.format .f64).order (rdOf (0 : Nat) y107 (l0.length : Int)) 4620130267728707584 == some .eq) = true then (if 0 ≤ (wrap64 ((l0.length : Int) + 1)) then (if (wrap64 ((l0.length : Int) + 1)) < (y107.length : Int) then (some ((FloatKind.format .f64).order (rdOf (0 : Nat) y107 (wrap64 ((l0.length : Int) + 1))) 4620974692658839552 == some .eq)) else (none)) else (none)) else (some false)) else (none)) else (some false))) else (some false))) = some r := H
      have A15 := Zs.mk A150
      clear A150
      replace H := Option.bind_eq_some_iff.mp H
      obtain ⟨t129, A160, H⟩ := H
      replace H : (if t128 = t129 then ((qt0a.f k y110 l0).bind fun t130 => (if t130 = true then (if (l0.length : Int) < (y107.length : Int) then (if ((FloatKind.format .f64).order (rdOf (0 : Nat) y107 (l0.length : Int)) 4620130267728707584 == some .eq) = true then (if 0 ≤ (wrap64 ((l0.length : Int) + 1)) then (if (wrap64 ((l0.length : Int) + 1)) < (y107.length : Int) then (some ((FloatKind.format .f64).order (rdOf (0 : Nat) y107 (wrap64 ((l0.length : Int) + 1))) 4620974692658839552 == some .eq)) else (none)) else (none)) else (some false)) else (none)) else (some false))) else (some false)) = some r := H
      have A16 := Zs.mk A160
      clear A160
      by_cases c17 : t128 = t129
      ·rw [if_pos c17] at H
       have c17b0 : (t128 == t129) = true := beq_iff_eq.mpr c17
       have c17b1 : (t128 != t129) = false := bne_eq_false_iff_eq.mpr c17
       clear c17
       replace H := Option.bind_eq_some_iff.mp H
       obtain ⟨t130, A180, H⟩ := H
       replace H : (if t130 = true then (if (l0.length : Int) < (y107.length : Int) then (if ((FloatKind.format .f64).order (rdOf (0 : Nat) y107 (l0.length : Int)) 4620130267728707584 == some .eq) = true then (if 0 ≤ (wrap64 ((l0.length : Int) + 1)) then (if (wrap64 ((l0.length : Int) + 1)) < (y107.length : Int) then (some ((FloatKind.format .f64).order (rdOf (0 : Nat) y107 (wrap64 ((l0.length : Int) + 1))) 4620974692658839552 == some .eq)) else (none)) else (none)) else (some false)) else (none)) else (some false)) = some r := H
       have A18 := Zs.mk A180
       clear A180
       by_cases c19 : t130 = true
       ·subst c19
        have H1 : (if (l0.length : Int) < (y107.length : Int) then (if ((FloatKind.format .f64).order (rdOf (0 : Nat) y107 (l0.length : Int)) 4620130267728707584 == some .eq) = true then (if 0 ≤ (wrap64 ((l0.length : Int) + 1)) then (if (wrap64 ((l0.length : Int) + 1)) < (y107.length : Int) then (some ((FloatKind.format .f64).order (rdOf (0 : Nat) y107 (wrap64 ((l0.length : Int) + 1))) 4620974692658839552 == some .eq)) else (none)) else (none)) else (some false)) else (none)) = some r := by rw [if_pos rfl] at H; exact H
        clear H
        have H := H1
        clear H1
        by_cases c20 : (l0.length : Int) < (y107.length : Int)
        ·rw [if_pos c20] at H
         have c20b0 : decide ((l0.length : Int) < (y107.length : Int)) = true := decide_eq_true c20
         have c20b1 : decide (l0.length < y107.length) = true := decide_eq_true (Int.ofNat_lt.mp c20)
         clear c20
         by_cases c21 : ((FloatKind.format .f64).order (rdOf (0 : Nat) y107 (l0.length : Int)) 4620130267728707584 == some .eq) = true
         ·rw [if_pos c21] at H
          have c21b0 : ((FloatKind.format .f64).order (rdOf (0 : Nat) y107 (l0.length : Int)) 4620130267728707584 == some .eq) = true := c21
          (try (have c21b1 : decide ((FloatKind.format .f64).order (rdOf (0 : Nat) y107 (l0.length : Int)) 4620130267728707584 = some .eq) = true := by simpa using c21))
          (try (have c21b2 : ((FloatKind.format .f64).order (rdOf (0 : Nat) y107 (l0.length : Int)) 4620130267728707584 == some .eq) = true := by simpa using c21))
          clear c21
          obtain ⟨ji22, hji22⟩ : ∃ j_ : Int, (wrap64 ((l0.length : Int) + 1)) = j_ := ⟨_, rfl⟩
          replace H : (if 0 ≤ (ji22) then (if (ji22) < (y107.length : Int) then (some ((FloatKind.format .f64).order (rdOf (0 : Nat) y107 (ji22)) 4620974692658839552 == some .eq)) else (none)) else (none)) = some r := by first | (rw [hji22] at H; exact H) | (simp only [hji22] at H ⊢; exact H)
          (try rw [hji22] at A3)
          (try rw [hji22] at A7)
          (try rw [hji22] at A8)
          (try rw [hji22] at A9)
          (try rw [hji22] at A11)
          (try rw [hji22] at A12)
          (try rw [hji22] at A13)
          (try rw [hji22] at A15)
          (try rw [hji22] at A16)
          (try rw [hji22] at A18)
          have hji22w : (IntKind.i64.wrap ((l0.length : Int) + 1)) = ji22 := (i64_w _).trans hji22
          by_cases c23 : 0 ≤ (ji22)
          ·rw [if_pos c23] at H
           have c23b0 : decide (0 ≤ (ji22)) = true := decide_eq_true c23
           clear c23
           by_cases c24 : (ji22) < (y107.length : Int)
           ·rw [if_pos c24] at H
            have c24b0 : decide ((ji22) < (y107.length : Int)) = true := decide_eq_true c24
            clear c24
            obtain rfl := Option.some.inj H
            go_enter Try.func9, Try.ntmps9
            go_wp2_with (first | ((with_reducible refine gate_callee (f := 43) rfl ?_); refine goesL_ (some 10) rfl rfl Try.func43 (by kernel_rfl) rfl #[.slice A0 l0.length c0] rfl (by (try simp only [List.map_toArray, List.map_cons, List.map_nil]); first | done | rfl | (simp only [List.length_drop, List.length_take]; rfl)) ?_; (with_reducible refine (qt0l.calls k _ _ l0 t101 _ ?side1 ?side2 A3.out).mono ?_); (case side1 => repeat (first | exact HR0.out | (with_reducible refine Kd.C_alloc ?_ _) | (with_reducible refine Kd.C_drewN ?_ _) | (with_reducible refine Kd.C_drew ?_))); (case side2 => exact HC0.out); rintro e w25 ⟨v102, rfl, ho0, hb⟩; refine ⟨_, rfl, ?_⟩; have n0_ := Zs.mk (Kd.R_lower ho0 (below_size (by repeat (first | (with_reducible first | exact HB.out | apply zA | apply zB | apply zC) | exact HB.out)))); have n1_ := Zs.mk (below_step (by repeat (first | (with_reducible first | exact HB.out | apply zA | apply zB | apply zC) | exact HB.out)) hb); clear HB; have HO103 := n0_; have HB := n1_; clear n0_ n1_; (try clear hb); (try clear hb2); (try clear hk); (try clear hi); (try clear ho0)) | ((with_reducible refine gate_dst (N := 11) rfl ?_); (try (refine gate_guard (by rfl) ?_; dsimp only)); refine Kd.R_lit (Kd.scalar (Value.float .f64) (fun _ => rfl)) _ 23 ?hg (N := 11) ?hd (xs := ([4620130267728707584, 4620974692658839552] : List Nat)) (inner := [.float .f64 4620130267728707584, .float .f64 4620974692658839552]) (ok := fun _ => True) (okp := fun _ => True) ?hr ?hp (fun _ hk => hk) trivial (Below.refl _ _) (Nat.le_refl _) (by simp) ?_; (case hd => rfl); (case hg => rfl); (case hr => first | (go_simp; done) | (go_simp; rfl)); (case hp => exact (Reps.one (show Kd.M (Kd.scalar (Value.float .f64) (fun _ => rfl)) _ _ _ 4620130267728707584 [.float .f64 4620130267728707584] from rfl) (Reps.one (show Kd.M (Kd.scalar (Value.float .f64) (fun _ => rfl)) _ _ _ 4620974692658839552 [.float .f64 4620974692658839552] from rfl) (Reps.none _ _)))); intro v105 w26 ho27 hb hg_ hnew_; clear hg_ hnew_; (first | rw [← Ny104.out] at ho27 | (simp only [Int.reduceToNat] at ho27; rw [← Ny104.out] at ho27)); have n0_ := Zs.mk (Kd.R_elder' (by (with_reducible repeat (first | apply Kd.R_alloc | apply Kd.R_drewN | apply Kd.R_drew)); exact HO103.out) (Kd.R_base ho27) hb); have n1_ := Zs.mk (Kd.R_lower (Kd.R_new' ho27 (Kd.R_lt (by (with_reducible repeat (first | apply Kd.R_alloc | apply Kd.R_drewN | apply Kd.R_drew)); exact HO103.out))) (below_size (by repeat (first | (with_reducible first | exact HB.out | apply zA | apply zB | apply zC) | exact HB.out)))); have n2_ := Zs.mk (below_step (by repeat (first | (with_reducible first | exact HB.out | apply zA | apply zB | apply zC) | exact HB.out)) hb); clear HO103; clear HB; have HO103 := n0_; have HO106 := n1_; have HB := n2_; clear n0_ n1_ n2_; clear hb ho27; obtain ⟨Ao29, co29, eo29⟩ := Kd.R_slice HO106.out; subst eo29) | ((with_reducible refine gate_builtin (b := .append) (xs := #[.tmp 10, .tmp 11]) rfl ?_); (try (refine gate_guard (by rfl) ?_; dsimp only)); at_builtin; refine Kd.R_append_rows (Kd.scalar (Value.float .f64) (fun _ => rfl)) (w0 := w) w.heap.size rfl (.tmp 10) (.tmp 11) 70 23 (.float .f64 0) 8 rfl Try.underlying70 info23 rfl (by decide) (by omega) v102 t101 y104 _ _ _ (fun k_ => some k_ ≠ (.slice Ao29 y104.length co29 : Value).ownBlock) (fun _ => False) rfl rfl ?aO ?aR (fun _ _ h => h) (fun _ h => h.elim) ?aF ?aB ?aS ?aL ?_; (case aR => repeat (first | exact (Kd.R_reads' HO106.out).2.2 | (with_reducible refine Kd.C_alloc ?_ _) | (with_reducible refine Kd.C_drewN ?_ _) | (with_reducible refine Kd.C_drew ?_))); (case aB => exact (by repeat (first | (with_reducible first | exact HB.out | apply zA | apply zB | apply zC) | exact HB.out))); (case aF => exact (fun k_ hk => Kd.fresh' (Kd.R_lt (by (with_reducible repeat (first | apply Kd.R_alloc | apply Kd.R_drewN | apply Kd.R_drew)); exact HO106.out)) k_ hk)); (case aO => exact (by (with_reducible repeat (first | apply Kd.R_alloc | apply Kd.R_drewN | apply Kd.R_drew)); exact Kd.R_mono HO103.out (fun _ hk => hk.2))); (case aS => exact (below_size (by repeat (first | (with_reducible first | exact HB.out | apply zA | apply zB | apply zC) | exact HB.out)))); (case aL => have := LMc4.out; omega); intro v108 w28 ho hb hg hat; rw [← Ny107.out] at ho; have n0_ := Zs.mk (Kd.R_after (ok := (fun _ => True)) (by (with_reducible repeat (first | apply Kd.R_alloc | apply Kd.R_drewN | apply Kd.R_drew)); exact HO106.out) hg hat); have n1_ := Zs.mk (hb); have n2_ := Zs.mk (ho); clear HO106; clear HB; clear HO103; have HO106 := n0_; have HB := n1_; have HO109 := n2_; clear n0_ n1_ n2_; clear ho hb hg hat; obtain ⟨Ao31, co31, eo31⟩ := Kd.R_slice HO109.out; subst eo31; have q30 : ((l0.length : Int) : Int) ≤ ((y107.length : Int) : Int) := of_decide_eq_true (by first | (with_reducible assumption) | assumption); obtain ⟨i030, hi030, _, hsz30, _⟩ := info_parts info23; have hroom30 : y107.length ≤ co31 := (Kd.R_reads' HO109.out).2.1; have hC30 : Kd.C (Kd.scalar (Value.float .f64) (fun _ => rfl)) _ Ao31 y107.length y107 := (Kd.R_reads' HO109.out).2.2; have hcut30 := cut_to (P := Try.prog) 70 23 .i64 Try.underlying70 hi030 Ao31 y107.length co31 (l0.length : Int) (of_decide_eq_true (by first | (with_reducible assumption) | assumption)) q30 hroom30; have hr30 := Kd.C_take (m := ((l0.length : Int) : Int).toNat) hC30 (by omega); have hy30 : y110.length = ((l0.length : Int) : Int).toNat := (by rw [Ny110.out, List.length_take]; omega); rw [← Ny110.out] at hr30; rw [← hy30] at hcut30; have HR113 := Zs.mk hr30; have HC113 := Zs.mk (show y110.length ≤ co31 from by omega); clear hr30 hC30 hroom30 hi030 hsz30; have KY30 := Zs.mk hy30; clear hy30; have KL30 := Zs.mk (show ((l0.length : Int) : Int).toNat ≤ y107.length from by omega); replace q30 := eq_true q30) | ((with_reducible refine gate_callee (f := 45) rfl ?_); refine goesL_ (some 20) rfl rfl Try.func45 (by kernel_rfl) rfl #[.slice Ao31 y110.length co31] rfl (by (try simp only [List.map_toArray, List.map_cons, List.map_nil]); first | done | rfl | (simp only [List.length_drop, List.length_take]; rfl)) ?_; (with_reducible refine (qos.calls k _ _ y110 t114 _ ?side1 ?side2 A7.out).mono ?_); (case side1 => repeat (first | exact (by repeat (first | (with_reducible exact HR113.out) | (with_reducible refine Kd.C_alloc ?_ _) | (with_reducible refine Kd.C_drewN ?_ _) | (with_reducible refine Kd.C_drew ?_) | exact HR113.out)) | (with_reducible refine Kd.C_alloc ?_ _) | (with_reducible refine Kd.C_drewN ?_ _) | (with_reducible refine Kd.C_drew ?_))); (case side2 => exact HC113.out); rintro e w32 ⟨v115, rfl, ho0, hb⟩; refine ⟨_, rfl, ?_⟩; have n0_ := Zs.mk (Kd.R_elder' (by (with_reducible repeat (first | apply Kd.R_alloc | apply Kd.R_drewN | apply Kd.R_drew)); exact HO106.out) (Kd.R_base ho0) hb); have n1_ := Zs.mk (Kd.R_elder' (by (with_reducible repeat (first | apply Kd.R_alloc | apply Kd.R_drewN | apply Kd.R_drew)); exact HO109.out) (Kd.R_base ho0) hb); have n2_ := Zs.mk (Kd.R_lower (Kd.R_new' (Kd.R_new' ho0 (Kd.R_lt (by (with_reducible repeat (first | apply Kd.R_alloc | apply Kd.R_drewN | apply Kd.R_drew)); exact HO106.out))) (Kd.R_lt (by (with_reducible repeat (first | apply Kd.R_alloc | apply Kd.R_drewN | apply Kd.R_drew)); exact HO109.out))) (below_size (by repeat (first | (with_reducible first | exact HB.out | apply zA | apply zB | apply zC) | exact HB.out)))); have n3_ := Zs.mk (Kd.C_below (by repeat (first | (with_reducible exact HR113.out) | (with_reducible refine Kd.C_alloc ?_ _) | (with_reducible refine Kd.C_drewN ?_ _) | (with_reducible refine Kd.C_drew ?_) | exact HR113.out)) hb); have n4_ := Zs.mk (below_step (by repeat (first | (with_reducible first | exact HB.out | apply zA | apply zB | apply zC) | exact HB.out)) hb); clear HO106; clear HO109; clear HR113; clear HB; have HO106 := n0_; have HO109 := n1_; have HO116 := n2_; have HR113 := n3_; have HB := n4_; clear n0_ n1_ n2_ n3_ n4_; (try clear hb); (try clear hb2); (try clear hk); (try clear hi); (try clear ho0)) | ((with_reducible refine gate_callee (f := 46) rfl ?_); refine goesL_ (some 22) rfl rfl Try.func46 (by kernel_rfl) rfl #[.slice A0 l0.length c0] rfl (by (try simp only [List.map_toArray, List.map_cons, List.map_nil]); first | done | rfl | (simp only [List.length_drop, List.length_take]; rfl)) ?_; (with_reducible refine (qt0s.calls k _ _ l0 t117 _ ?side1 ?side2 A8.out).mono ?_); (case side1 => repeat (first | exact (Kd.C_below HR0.out HB.out) | (with_reducible refine Kd.C_alloc ?_ _) | (with_reducible refine Kd.C_drewN ?_ _) | (with_reducible refine Kd.C_drew ?_))); (case side2 => exact HC0.out); rintro e w33 ⟨v118, rfl, ho0, hb⟩; refine ⟨_, rfl, ?_⟩; have n0_ := Zs.mk (Kd.R_below (by (with_reducible repeat (first | apply Kd.R_alloc | apply Kd.R_drewN | apply Kd.R_drew)); exact HO106.out) hb); have n1_ := Zs.mk (Kd.R_below (by (with_reducible repeat (first | apply Kd.R_alloc | apply Kd.R_drewN | apply Kd.R_drew)); exact HO109.out) hb); have n2_ := Zs.mk (Kd.R_below (by (with_reducible repeat (first | apply Kd.R_alloc | apply Kd.R_drewN | apply Kd.R_drew)); exact HO116.out) hb); have n3_ := Zs.mk (Kd.R_lower ho0 (below_size (by repeat (first | (with_reducible first | exact HB.out | apply zA | apply zB | apply zC) | exact HB.out)))); have n4_ := Zs.mk (Kd.C_below (by repeat (first | (with_reducible exact HR113.out) | (with_reducible refine Kd.C_alloc ?_ _) | (with_reducible refine Kd.C_drewN ?_ _) | (with_reducible refine Kd.C_drew ?_) | exact HR113.out)) hb); have n5_ := Zs.mk (below_step (by repeat (first | (with_reducible first | exact HB.out | apply zA | apply zB | apply zC) | exact HB.out)) hb); clear HO106; clear HO109; clear HO116; clear HR113; clear HB; have HO106 := n0_; have HO109 := n1_; have HO116 := n2_; have HO119 := n3_; have HR113 := n4_; have HB := n5_; clear n0_ n1_ n2_ n3_ n4_ n5_; (try clear hb); (try clear hb2); (try clear hk); (try clear hi); (try clear ho0); obtain ⟨Ao34, co34, eo34⟩ := Kd.R_slice HO116.out; subst eo34; obtain ⟨Ao35, co35, eo35⟩ := Kd.R_slice HO119.out; subst eo35) | ((with_reducible refine gate_callee (f := 44) rfl ?_); refine goesL_ (some 23) rfl rfl Try.func44 (by kernel_rfl) rfl #[.slice Ao34 t114.length co34, .slice Ao35 t117.length co35] rfl (by (try simp only [List.map_toArray, List.map_cons, List.map_nil]); first | done | rfl | (simp only [List.length_drop, List.length_take]; rfl)) ?_; (with_reducible refine (qt0a.calls k _ _ t114 _ _ t117 true _ ?side1 ?side2 ?side3 ?side4 A9.out).mono ?_); (case side1 => repeat (first | exact (Kd.R_reads' HO116.out).2.2 | (with_reducible refine Kd.C_alloc ?_ _) | (with_reducible refine Kd.C_drewN ?_ _) | (with_reducible refine Kd.C_drew ?_))); (case side2 => exact (Kd.R_reads' HO116.out).2.1); (case side3 => repeat (first | exact (Kd.R_reads' HO119.out).2.2 | (with_reducible refine Kd.C_alloc ?_ _) | (with_reducible refine Kd.C_drewN ?_ _) | (with_reducible refine Kd.C_drew ?_))); (case side4 => exact (Kd.R_reads' HO119.out).2.1); rintro e w' ⟨rfl, ⟨nd, rfl⟩⟩; refine ⟨_, rfl, ?_⟩) | (go_at_call 47; (with_reducible refine (qod.calls _ _ y110 t121 _ ?side1 ?side2 A11.out).mono ?_); (case side1 => repeat (first | exact (by repeat (first | (with_reducible exact HR113.out) | (with_reducible refine Kd.C_alloc ?_ _) | (with_reducible refine Kd.C_drewN ?_ _) | (with_reducible refine Kd.C_drew ?_) | exact HR113.out)) | (with_reducible refine Kd.C_alloc ?_ _) | (with_reducible refine Kd.C_drewN ?_ _) | (with_reducible refine Kd.C_drew ?_))); (case side2 => exact HC113.out); rintro e w36 ⟨v122, rfl, ho0, hb⟩; have n0_ := Zs.mk (Kd.R_elder' (by (with_reducible repeat (first | apply Kd.R_alloc | apply Kd.R_drewN | apply Kd.R_drew)); exact HO106.out) (Kd.R_base ho0) hb); have n1_ := Zs.mk (Kd.R_elder' (by (with_reducible repeat (first | apply Kd.R_alloc | apply Kd.R_drewN | apply Kd.R_drew)); exact HO109.out) (Kd.R_base ho0) hb); have n2_ := Zs.mk (Kd.R_elder' (by (with_reducible repeat (first | apply Kd.R_alloc | apply Kd.R_drewN | apply Kd.R_drew)); exact HO116.out) (Kd.R_base ho0) hb); have n3_ := Zs.mk (Kd.R_below (by (with_reducible repeat (first | apply Kd.R_alloc | apply Kd.R_drewN | apply Kd.R_drew)); exact HO119.out) hb); have n4_ := Zs.mk (Kd.R_lower (Kd.R_new' (Kd.R_new' (Kd.R_new' ho0 (Kd.R_lt (by (with_reducible repeat (first | apply Kd.R_alloc | apply Kd.R_drewN | apply Kd.R_drew)); exact HO106.out))) (Kd.R_lt (by (with_reducible repeat (first | apply Kd.R_alloc | apply Kd.R_drewN | apply Kd.R_drew)); exact HO109.out))) (Kd.R_lt (by (with_reducible repeat (first | apply Kd.R_alloc | apply Kd.R_drewN | apply Kd.R_drew)); exact HO116.out))) (below_size (by repeat (first | (with_reducible first | exact HB.out | apply zA | apply zB | apply zC) | exact HB.out)))); have n5_ := Zs.mk (Kd.C_below (by repeat (first | (with_reducible exact HR113.out) | (with_reducible refine Kd.C_alloc ?_ _) | (with_reducible refine Kd.C_drewN ?_ _) | (with_reducible refine Kd.C_drew ?_) | exact HR113.out)) hb); have n6_ := Zs.mk (below_step (by repeat (first | (with_reducible first | exact HB.out | apply zA | apply zB | apply zC) | exact HB.out)) hb); clear HO106; clear HO109; clear HO116; clear HO119; clear HR113; clear HB; have HO106 := n0_; have HO109 := n1_; have HO116 := n2_; have HO119 := n3_; have HO123 := n4_; have HR113 := n5_; have HB := n6_; clear n0_ n1_ n2_ n3_ n4_ n5_ n6_; (try clear hb); (try clear hb2); (try clear hk); (try clear hi); (try clear ho0)) | (go_at_call 48; (with_reducible refine (qt0d.calls k _ _ l0 t124 _ ?side1 ?side2 A12.out).mono ?_); (case side1 => repeat (first | exact (Kd.C_below HR0.out HB.out) | (with_reducible refine Kd.C_alloc ?_ _) | (with_reducible refine Kd.C_drewN ?_ _) | (with_reducible refine Kd.C_drew ?_))); (case side2 => exact HC0.out); rintro e w37 ⟨v125, rfl, ho0, hb⟩; have n0_ := Zs.mk (Kd.R_below (by (with_reducible repeat (first | apply Kd.R_alloc | apply Kd.R_drewN | apply Kd.R_drew)); exact HO106.out) hb); have n1_ := Zs.mk (Kd.R_below (by (with_reducible repeat (first | apply Kd.R_alloc | apply Kd.R_drewN | apply Kd.R_drew)); exact HO109.out) hb); have n2_ := Zs.mk (Kd.R_below (by (with_reducible repeat (first | apply Kd.R_alloc | apply Kd.R_drewN | apply Kd.R_drew)); exact HO116.out) hb); have n3_ := Zs.mk (Kd.R_elder' (by (with_reducible repeat (first | apply Kd.R_alloc | apply Kd.R_drewN | apply Kd.R_drew)); exact HO119.out) (Kd.R_base ho0) hb); have n4_ := Zs.mk (Kd.R_below (by (with_reducible repeat (first | apply Kd.R_alloc | apply Kd.R_drewN | apply Kd.R_drew)); exact HO123.out) hb); have n5_ := Zs.mk (Kd.R_lower (Kd.R_new' ho0 (Kd.R_lt (by (with_reducible repeat (first | apply Kd.R_alloc | apply Kd.R_drewN | apply Kd.R_drew)); exact HO119.out))) (below_size (by repeat (first | (with_reducible first | exact HB.out | apply zA | apply zB | apply zC) | exact HB.out)))); have n6_ := Zs.mk (Kd.C_below (by repeat (first | (with_reducible exact HR113.out) | (with_reducible refine Kd.C_alloc ?_ _) | (with_reducible refine Kd.C_drewN ?_ _) | (with_reducible refine Kd.C_drew ?_) | exact HR113.out)) hb); have n7_ := Zs.mk (below_step (by repeat (first | (with_reducible first | exact HB.out | apply zA | apply zB | apply zC) | exact HB.out)) hb); clear HO106; clear HO109; clear HO116; clear HO119; clear HO123; clear HR113; clear HB; have HO106 := n0_; have HO109 := n1_; have HO116 := n2_; have HO119 := n3_; have HO123 := n4_; have HO126 := n5_; have HR113 := n6_; have HB := n7_; clear n0_ n1_ n2_ n3_ n4_ n5_ n6_ n7_; (try clear hb); (try clear hb2); (try clear hk); (try clear hi); (try clear ho0); obtain ⟨Ao38, co38, eo38⟩ := Kd.R_slice HO123.out; subst eo38; obtain ⟨Ao39, co39, eo39⟩ := Kd.R_slice HO126.out; subst eo39) | (go_at_call 44; (with_reducible refine (qt0a.calls k _ _ t121 _ _ t124 true _ ?side1 ?side2 ?side3 ?side4 A13.out).mono ?_); (case side1 => repeat (first | exact (Kd.R_reads' HO123.out).2.2 | (with_reducible refine Kd.C_alloc ?_ _) | (with_reducible refine Kd.C_drewN ?_ _) | (with_reducible refine Kd.C_drew ?_))); (case side2 => exact (Kd.R_reads' HO123.out).2.1); (case side3 => repeat (first | exact (Kd.R_reads' HO126.out).2.2 | (with_reducible refine Kd.C_alloc ?_ _) | (with_reducible refine Kd.C_drewN ?_ _) | (with_reducible refine Kd.C_drew ?_))); (case side4 => exact (Kd.R_reads' HO126.out).2.1); rintro e w' ⟨rfl, ⟨nd, rfl⟩⟩) | (go_at_call 49; (with_reducible refine (qob.calls k _ _ y110 a1.toNat t128 _ ?side1 ?side2 A15.out).mono ?_); (case side1 => repeat (first | exact (by repeat (first | (with_reducible exact HR113.out) | (with_reducible refine Kd.C_alloc ?_ _) | (with_reducible refine Kd.C_drewN ?_ _) | (with_reducible refine Kd.C_drew ?_) | exact HR113.out)) | (with_reducible refine Kd.C_alloc ?_ _) | (with_reducible refine Kd.C_drewN ?_ _) | (with_reducible refine Kd.C_drew ?_))); (case side2 => exact HC113.out); rintro e w' ⟨rfl, ⟨nd, rfl⟩⟩) | (go_at_call 50; (with_reducible refine (qt0b.calls k _ _ l0 a1 t129 _ ?side1 ?side2 A16.out).mono ?_); (case side1 => repeat (first | exact (Kd.C_below HR0.out (by repeat (first | (with_reducible first | exact HB.out | apply zA | apply zB | apply zC) | exact HB.out))) | (with_reducible refine Kd.C_alloc ?_ _) | (with_reducible refine Kd.C_drewN ?_ _) | (with_reducible refine Kd.C_drew ?_))); (case side2 => exact HC0.out); rintro e w' ⟨rfl, ⟨nd, rfl⟩⟩) | (go_at_call 44; (with_reducible refine (qt0a.calls k _ _ y110 _ _ l0 true _ ?side1 ?side2 ?side3 ?side4 A18.out).mono ?_); (case side1 => repeat (first | exact (by repeat (first | (with_reducible exact HR113.out) | (with_reducible refine Kd.C_alloc ?_ _) | (with_reducible refine Kd.C_drewN ?_ _) | (with_reducible refine Kd.C_drew ?_) | exact HR113.out)) | (with_reducible refine Kd.C_alloc ?_ _) | (with_reducible refine Kd.C_drewN ?_ _) | (with_reducible refine Kd.C_drew ?_))); (case side2 => exact HC113.out); (case side3 => repeat (first | exact (Kd.C_below HR0.out (by repeat (first | (with_reducible first | exact HB.out | apply zA | apply zB | apply zC) | exact HB.out))) | (with_reducible refine Kd.C_alloc ?_ _) | (with_reducible refine Kd.C_drewN ?_ _) | (with_reducible refine Kd.C_drew ?_))); (case side4 => exact HC0.out); rintro e w' ⟨rfl, ⟨nd, rfl⟩⟩; have p131 : 0 ≤ ((l0.length : Int) : Int) := of_decide_eq_true (by first | (with_reducible assumption) | assumption); have q131 : (l0.length : Int) < (y107.length : Int) := of_decide_eq_true (by first | (with_reducible assumption) | assumption); obtain ⟨ad131, e131, hx131_0⟩ := Kd.at_flo (Kd.R_reads' HO109.out).2.2 (l0.length : Int) p131 q131; cases e131; (try simp only [Go.IntWalk.toNatUp] at hx131_0); replace p131 := eq_true p131; replace q131 := eq_true q131; have p132 : 0 ≤ ((ji22) : Int) := of_decide_eq_true (by first | (with_reducible assumption) | assumption); have q132 : (ji22) < (y107.length : Int) := of_decide_eq_true (by first | (with_reducible assumption) | assumption); obtain ⟨ad132, e132, hx132_0⟩ := Kd.at_flo (Kd.R_reads' HO109.out).2.2 (ji22) p132 q132; obtain rfl : ad131 = ad132 := (by injection e132); replace p132 := eq_true p132; replace q132 := eq_true q132))
            go_ret
            exact ⟨by first | rfl | (simp [zE, zF] <;> rfl) | (simp only [← hji22]; first | rfl | (simp [zE, zF] <;> rfl)) | (simp [*, zE, zF] <;> rfl), by repeat (first | (with_reducible first | exact HB.out | apply zA | apply zB | apply zC) | exact HB.out)⟩
           ·rw [if_neg c24] at H
            exact absurd H (by simp)
          ·rw [if_neg c23] at H
           exact absurd H (by simp)
         ·rw [if_neg c21] at H
          have c21b0 : ((FloatKind.format .f64).order (rdOf (0 : Nat) y107 (l0.length : Int)) 4620130267728707584 == some .eq) = false := by simpa using c21
          (try (have c21b1 : decide ((FloatKind.format .f64).order (rdOf (0 : Nat) y107 (l0.length : Int)) 4620130267728707584 = some .eq) = false := by simpa using c21))
          (try (have c21b2 : ((FloatKind.format .f64).order (rdOf (0 : Nat) y107 (l0.length : Int)) 4620130267728707584 == some .eq) = false := by simpa using c21))
          (try (have c21b3 : ¬ ((FloatKind.format .f64).order (rdOf (0 : Nat) y107 (l0.length : Int)) 4620130267728707584 = some .eq) := by simpa using c21))
          clear c21
          exact absurd (Option.some.inj H).symm hrt
        ·rw [if_neg c20] at H
         exact absurd H (by simp)
       ·replace c19 := Bool.eq_false_iff.mpr c19
        subst c19
        have H1 : (some false) = some r := by rw [if_neg (show ¬ (false = true) by decide)] at H; exact H
        clear H
        have H := H1
        clear H1
        exact absurd (Option.some.inj H).symm hrt
      ·rw [if_neg c17] at H
       have c17b0 : (t128 == t129) = false := beq_eq_false_iff_ne.mpr c17
       have c17b1 : (t128 != t129) = true := bne_iff_ne.mpr c17
       exact absurd (Option.some.inj H).symm hrt
     ·replace c14 := Bool.eq_false_iff.mpr c14
      subst c14
      have H1 : (some false) = some r := by rw [if_neg (show ¬ (false = true) by decide)] at H; exact H
      clear H
      have H := H1
      clear H1
      exact absurd (Option.some.inj H).symm hrt
    ·replace c10 := Bool.eq_false_iff.mpr c10
     subst c10
     have H1 : (some false) = some r := by rw [if_neg (show ¬ (false = true) by decide)] at H; exact H
     clear H
     have H := H1
     clear H1
     exact absurd (Option.some.inj H).symm hrt
   ·rw [if_neg c6] at H
    exact absurd H (by simp)
  ·rw [if_neg c5] at H
   exact absurd H (by simp)
 ·rw [if_neg c4] at H
  exact absurd H (by simp)

def qt0ol.Pure : Prop := ∀ (l0 : List Int) (a1 : Int), l0.length ≤ maxLen → l0.length * 8 ≤ 140737488351232 → (∀ x ∈ l0, (Lit.int .u64 x).wf = true) → (Lit.int .u64 a1).wf = true → ∃ k, qt0ol.f k l0 a1 = some true
theorem qt0ol.walk (P : qt0ol.Pure) (a0 : Option Addr) (len0 cap0 : Nat) (z0 : List Int) (a1 : Int) (w : World) (w0 : (a0 = none ∧ len0 = 0 ∧ cap0 = 0 ∧ z0 = []) ∨ ∃ x, a0 = some x ∧ len0 ≤ cap0 ∧ cap0 ≤ maxLen ∧ z0.length = cap0 ∧ (∀ i, i < z0.length → w.cell? (x.add i) = some (.int .u64 (z0.getD i 0))) ∧ ∀ n ∈ z0, (Lit.int .u64 n).wf = true) (y0 : len0 * 8 ≤ 140737488351232) (w1 : (Lit.int .u64 a1).wf = true) :
  Calls Try.prog 9 #[.slice a0 len0 cap0, .int .u64 a1] w fun e w' => e = .returned (.bool true) ∧ Below w.heap.size w w' := by
 obtain ⟨l0, rfl, hr0, hm0, hw0, hc0⟩ := ReadsInt.ofRowC w0
 obtain ⟨k, h⟩ := P l0 a1 hm0 y0 hw0 w1
 refine (qt0ol.calls k _ _ l0 a1 true w (Kd.C_of_reads (d := (0 : Int)) (h1 := fun _ => rfl) hr0) hc0 h (by decide)).mono ?_
 rintro e w' ⟨rfl, hd⟩
 exact ⟨rfl, hd⟩
end Go.Proofs.Ytkmbgfhkdopigaa.P
namespace Go.Proofs.Ytkmbgfhkdopigaa.Stab
structure Stab {α : Type} (key : α → Int) (l r : List α) : Prop where
  perm : r.Perm l
  filt : ∀ k, r.filter (fun x => decide (key x = k)) = l.filter (fun x => decide (key x = k))

def Rises {α : Type} (key : α → Int) (l : List α) : Prop := l.Pairwise (fun x y => key x ≤ key y)

variable {α : Type} {key : α → Int}

theorem Stab.refl (l : List α) : Stab key l l := ⟨.refl _, fun _ => rfl⟩
theorem Stab.symm {a b : List α} (h : Stab key a b) : Stab key b a := ⟨h.perm.symm, fun k => (h.filt k).symm⟩
theorem Stab.trans {a b c : List α} (h : Stab key a b) (g : Stab key b c) : Stab key a c :=
  ⟨g.perm.trans h.perm, fun k => (g.filt k).trans (h.filt k)⟩
theorem Stab.append {a b c d : List α} (h : Stab key a b) (g : Stab key c d) : Stab key (a ++ c) (b ++ d) :=
  ⟨h.perm.append g.perm, fun k => by rw [List.filter_append, List.filter_append, h.filt, g.filt]⟩
theorem Stab.swap {u v : List α} (h : ∀ x ∈ u, ∀ y ∈ v, key x ≠ key y) : Stab key (u ++ v) (v ++ u) := by
  refine ⟨List.perm_append_comm, fun k => ?_⟩
  rw [List.filter_append, List.filter_append]
  by_cases hu : u.filter (fun x => decide (key x = k)) = []
  · rw [hu, List.append_nil, List.nil_append]
  · obtain ⟨x, hx⟩ := List.exists_mem_of_ne_nil _ hu
    rw [List.mem_filter] at hx
    have hv : v.filter (fun x => decide (key x = k)) = [] := by
      rw [List.filter_eq_nil_iff]
      intro y hy hk
      exact h x hx.1 y hy ((of_decide_eq_true hx.2).trans (of_decide_eq_true hk).symm)
    rw [hv, List.append_nil, List.nil_append]
theorem Stab.length {l r : List α} (h : Stab key l r) : r.length = l.length := h.perm.length_eq
theorem Stab.mem {l r : List α} (h : Stab key l r) (x : α) : x ∈ r ↔ x ∈ l := h.perm.mem_iff

theorem Rises.head {x : α} {l : List α} (h : Rises key (x :: l)) : ∀ y ∈ l, key x ≤ key y := (List.pairwise_cons.1 h).1
theorem Rises.tail {x : α} {l : List α} (h : Rises key (x :: l)) : Rises key l := (List.pairwise_cons.1 h).2
theorem Rises.nil : Rises key ([] : List α) := List.Pairwise.nil
theorem Rises.single (x : α) : Rises key [x] := List.pairwise_singleton _ _
theorem Rises.append {a b : List α} (ha : Rises key a) (hb : Rises key b) (h : ∀ x ∈ a, ∀ y ∈ b, key x ≤ key y) : Rises key (a ++ b) :=
  List.pairwise_append.2 ⟨ha, hb, h⟩
theorem Rises.left {a b : List α} (h : Rises key (a ++ b)) : Rises key a := (List.pairwise_append.1 h).1
theorem Rises.right {a b : List α} (h : Rises key (a ++ b)) : Rises key b := (List.pairwise_append.1 h).2.1
theorem Rises.across {a b : List α} (h : Rises key (a ++ b)) : ∀ x ∈ a, ∀ y ∈ b, key x ≤ key y := (List.pairwise_append.1 h).2.2

theorem Stab.unique : ∀ {a b : List α}, Stab key a b → Rises key a → Rises key b → a = b := by
  intro a
  induction a with
  | nil => intro b h _ _; exact (List.length_eq_zero_iff.1 h.length).symm
  | cons x a ih =>
    intro b h ha hb
    cases b with
    | nil => have := h.length; simp at this
    | cons y b =>
      have hy : key x ≤ key y := by
        have := (h.mem y).1 (List.mem_cons_self)
        rcases List.mem_cons.1 this with e | m
        · rw [e]; exact Int.le_refl _
        · exact ha.head y m
      have hx : key y ≤ key x := by
        have := (h.mem x).2 (List.mem_cons_self)
        rcases List.mem_cons.1 this with e | m
        · rw [e]; exact Int.le_refl _
        · exact hb.head x m
      have e : key y = key x := by omega
      have hf := h.filt (key x)
      rw [List.filter_cons_of_pos (by simpa using e), List.filter_cons_of_pos (by simp)] at hf
      have exy : y = x := (List.cons.inj hf).1
      subst exy
      have : Stab key a b := by
        refine ⟨(List.perm_cons _).1 h.perm, fun k => ?_⟩
        by_cases hk : key y = k
        · subst hk; exact (List.cons.inj hf).2
        · have := h.filt k
          rwa [List.filter_cons_of_neg (by simpa using hk), List.filter_cons_of_neg (by simpa using hk)] at this
      rw [ih this ha.tail hb.tail]

def lek (key : α → Int) (x y : α) : Bool := decide (key x ≤ key y)
theorem lek_trans (a b c : α) : lek key a b = true → lek key b c = true → lek key a c = true := by
  unfold lek; simp only [decide_eq_true_eq]; omega
theorem lek_total (a b : α) : (lek key a b || lek key b a) = true := by
  unfold lek; simp only [Bool.or_eq_true, decide_eq_true_eq]; omega
def msort (key : α → Int) (l : List α) : List α := l.mergeSort (lek key)
theorem rises_msort (l : List α) : Rises key (msort key l) := by
  have := List.pairwise_mergeSort (le := lek key) lek_trans lek_total l
  exact this.imp (fun h => of_decide_eq_true h)
theorem pw_all {R : α → α → Prop} : ∀ l : List α, (∀ x ∈ l, ∀ y ∈ l, R x y) → l.Pairwise R
  | [], _ => List.Pairwise.nil
  | x :: l, h => List.pairwise_cons.2 ⟨fun y hy => h x List.mem_cons_self y (List.mem_cons_of_mem _ hy), pw_all l fun a ha b hb => h a (List.mem_cons_of_mem _ ha) b (List.mem_cons_of_mem _ hb)⟩
theorem stab_msort (l : List α) : Stab key l (msort key l) := by
  refine ⟨List.mergeSort_perm l _, fun k => ?_⟩
  have hp : (l.filter (fun x => decide (key x = k))).Pairwise (fun x y => lek key x y = true) := by
    refine pw_all _ fun x hx y hy => ?_
    have h1 := of_decide_eq_true (List.mem_filter.1 hx).2
    have h2 := of_decide_eq_true (List.mem_filter.1 hy).2
    exact decide_eq_true (by omega)
  have hs : (l.filter (fun x => decide (key x = k))).Sublist (msort key l) := List.sublist_mergeSort lek_trans lek_total hp List.filter_sublist
  have h2 := hs.filter (fun x => decide (key x = k))
  rw [List.filter_filter] at h2
  simp only [Bool.and_self] at h2
  exact (h2.eq_of_length (((List.mergeSort_perm l (lek key)).filter _).length_eq.symm)).symm
theorem length_msort (l : List α) : (msort key l).length = l.length := (stab_msort l).length
theorem msort_eq {l r : List α} (h : Stab key l r) (hr : Rises key r) : r = msort key l :=
  Stab.unique (h.symm.trans (stab_msort l)) hr (rises_msort l)
theorem msort_of_rises {l : List α} (h : Rises key l) : msort key l = l := (msort_eq (Stab.refl l) h).symm
theorem msort_of_stab {l r : List α} (h : Stab key l r) : msort key r = msort key l := msort_eq (h.trans (stab_msort r)) (rises_msort r)
theorem Rises.of_sublist {a b : List α} (h : Rises key b) (s : a.Sublist b) : Rises key a := List.Pairwise.sublist s h

theorem merge_parts {u1 u2 v1 v2 : List α} (hu : Rises key (u1 ++ u2)) (hv : Rises key (v1 ++ v2))
    (h1 : ∀ x ∈ u1, ∀ y ∈ v2, key x ≤ key y) (h2 : ∀ x ∈ u2, ∀ y ∈ v1, key y < key x) :
    msort key (u1 ++ v1) ++ msort key (u2 ++ v2) = msort key ((u1 ++ u2) ++ (v1 ++ v2)) := by
  refine msort_eq ?_ ?_
  · have a : Stab key ((u1 ++ u2) ++ (v1 ++ v2)) ((u1 ++ v1) ++ (u2 ++ v2)) := by
      rw [show (u1 ++ u2) ++ (v1 ++ v2) = u1 ++ ((u2 ++ v1) ++ v2) by simp, show (u1 ++ v1) ++ (u2 ++ v2) = u1 ++ ((v1 ++ u2) ++ v2) by simp]
      refine (Stab.refl u1).append (Stab.append (Stab.swap fun x hx y hy e => ?_) (Stab.refl v2))
      have := h2 x hx y hy
      omega
    exact a.trans ((stab_msort _).append (stab_msort _))
  · refine (rises_msort _).append (rises_msort _) fun x hx y hy => ?_
    rw [(stab_msort _).mem, List.mem_append] at hx hy
    rcases hx with hx | hx <;> rcases hy with hy | hy
    · exact hu.across x hx y hy
    · exact h1 x hx y hy
    · exact Int.le_of_lt (h2 y hy x hx)
    · exact hv.across x hx y hy

def Runs (key : α → Int) (n : Nat) (l : List α) : Prop := ∀ i : Nat, Rises key ((l.drop (i * n)).take n)
theorem Runs.nil (n : Nat) : Runs key n ([] : List α) := fun i => by simp only [List.drop_nil, List.take_nil]; exact Rises.nil
theorem Runs.all {n : Nat} {l : List α} (h : Runs key n l) (hl : l.length ≤ n) : Rises key l := by
  have := h 0
  rwa [Nat.zero_mul, List.drop_zero, List.take_of_length_le hl] at this
theorem Runs.one {n : Nat} {l : List α} (h : Rises key l) (hl : l.length ≤ n) : Runs key n l := by
  intro i
  exact h.of_sublist ((List.take_sublist _ _).trans (List.drop_sublist _ _))
theorem Runs.cons {n : Nat} {u q : List α} (hn : u.length = n) : Runs key n (u ++ q) ↔ Rises key u ∧ Runs key n q := by
  constructor
  · intro h
    refine ⟨?_, fun i => ?_⟩
    · have := h 0
      rwa [Nat.zero_mul, List.drop_zero, List.take_left' hn] at this
    · have := h (i + 1)
      rwa [Nat.succ_mul, Nat.add_comm, ← List.drop_drop, List.drop_left' hn] at this
  · rintro ⟨hu, hq⟩ i
    cases i with
    | zero => rwa [Nat.zero_mul, List.drop_zero, List.take_left' hn]
    | succ i => rw [Nat.succ_mul, Nat.add_comm, ← List.drop_drop, List.drop_left' hn]; exact hq i
theorem Runs.snoc {n c : Nat} {p w : List α} (hp : Runs key n p) (hc : p.length = c * n) (hw : Rises key w) (hn : w.length ≤ n) : Runs key n (p ++ w) := by
  induction c generalizing p with
  | zero =>
    have : p = [] := List.length_eq_zero_iff.1 (by omega)
    subst this
    exact Runs.one hw hn
  | succ c ih =>
    have hl : (p.take n).length = n := by
      rw [List.length_take, hc, Nat.succ_mul]; omega
    have e : p = p.take n ++ p.drop n := (List.take_append_drop n p).symm
    rw [e, Runs.cons hl] at hp
    rw [e, List.append_assoc, Runs.cons hl]
    refine ⟨hp.1, ih hp.2 ?_⟩
    rw [List.length_drop, hc, Nat.succ_mul]; omega
end Go.Proofs.Ytkmbgfhkdopigaa.Stab
namespace Go.Proofs.Ytkmbgfhkdopigaa.Stab
set_option linter.unusedSimpArgs false
open Go.RowKit Go.Proofs.Ytkmbgfhkdopigaa.P Go.Proofs.YtkmbgfhkdopigaaW.PrintWords
def kf (x : Nat) : Int := (qok.f x).getD 0
theorem key_some (x : Nat) : qok.f x = some (kf x) := by
  unfold kf qok.f
  split
  · rfl
  · split <;> rfl
theorem compare_lt {a b : Nat} (h : kf a < kf b) : qoc.f a b = some (-1) := by
  unfold qoc.f qccu6.f qcinnu6.f
  rw [key_some, key_some]
  simp [h]
theorem compare_gt {a b : Nat} (h : kf b < kf a) : qoc.f a b = some 1 := by
  unfold qoc.f qccu6.f qcinnu6.f
  rw [key_some, key_some]
  have h2 : ¬ kf a < kf b := by omega
  simp [h, h2]
theorem compare_eq {a b : Nat} (h : kf a = kf b) : qoc.f a b = some 0 := by
  unfold qoc.f qccu6.f qcinnu6.f
  rw [key_some, key_some, h]
  simp
theorem compare_ge {a b : Nat} (h : kf b ≤ kf a) : ∃ c, qoc.f a b = some c ∧ 0 ≤ c := by
  by_cases e : kf a = kf b
  · exact ⟨0, compare_eq e, by omega⟩
  · exact ⟨1, compare_gt (by omega), by omega⟩

theorem evTo {α : Type} {g : Nat → Option α} {r r' : α} (e : r' = r) (h : Ev g r') : Ev g r := e ▸ h
theorem someBind {α β : Type} (a : α) (f : α → Option β) : (some a).bind f = f a := rfl
theorem w64 {x : Int} (h : -9223372036854775808 ≤ x) (h2 : x ≤ 9223372036854775807) : wrap64 x = x := by unfold wrap64; omega
theorem w64' {x : Int} {n : Nat} (e : x = n) (h2 : n ≤ 9223372036854775807) : wrap64 x = (n : Int) := by rw [e]; exact w64 (by omega) (by omega)
theorem wadd {i : Nat} (h : i ≤ 4611686018427387904) : wrap64 ((i : Int) + 1) = ((i + 1 : Nat) : Int) := w64' (by omega) (by omega)
theorem wpre {i : Nat} (h : i ≤ 4611686018427387904) : wrap64 (((i + 1 : Nat) : Int) - 1) = ((i : Nat) : Int) := w64' (by omega) (by omega)
theorem wsum {a b : Nat} (h : a + b ≤ 4611686018427387904) : wrap64 ((a : Int) + (b : Int)) = ((a + b : Nat) : Int) := w64' (by omega) (by omega)
theorem wdif {a b : Nat} (h1 : b ≤ a) (h : a ≤ 4611686018427387904) : wrap64 ((a : Int) - (b : Int)) = ((a - b : Nat) : Int) := w64' (by omega) (by omega)
theorem whalf {a b : Nat} (h : a + b ≤ 4611686018427387904) : wrap64 ((IntKind.u64.wrap (wrap64 ((a : Int) + (b : Int)))) / 2) = (((a + b) / 2 : Nat) : Int) := by
  rw [wsum h, IntKind.wrap_u64, show ((a + b : Nat) : Int) % 18446744073709551616 = ((a + b : Nat) : Int) by omega]
  exact w64' (by omega) (by omega)

theorem rdN (l : List Nat) (i : Nat) : rdOf (0 : Nat) l (i : Int) = l.getD i 0 := by unfold rdOf; rw [Int.toNat_natCast]
theorem rd_at {l p s : List Nat} {x i : Nat} (e : l = p ++ x :: s) (hi : i = p.length) : rdOf (0 : Nat) l (i : Int) = x := by
  subst e; subst hi
  rw [rdN, List.getD_eq_getElem?_getD]; simp
theorem set_at {l p s : List Nat} {x y i : Nat} (e : l = p ++ x :: s) (hi : i = p.length) : l.set i y = p ++ y :: s := by
  subst e; subst hi
  simp
theorem swap_at {l p m s : List Nat} {x y i j : Nat} (e : l = p ++ x :: (m ++ y :: s)) (hi : i = p.length) (hj : j = p.length + 1 + m.length) :
    (l.set i (rdOf (0 : Nat) l (j : Int))).set j (rdOf (0 : Nat) l (i : Int)) = p ++ y :: (m ++ x :: s) := by
  rw [rd_at e hi, rd_at (p := p ++ x :: m) (x := y) (s := s) (by rw [e]; simp) (by simp <;> omega), set_at e hi]
  rw [set_at (p := p ++ y :: m) (x := y) (s := s) (by simp) (by simp <;> omega)]
  simp
theorem swap_at' {l p m s : List Nat} {x y i j : Nat} (e : l = p ++ x :: (m ++ y :: s)) (hi : i = p.length) (hj : j = p.length + 1 + m.length) :
    (l.set j (rdOf (0 : Nat) l (i : Int))).set i (rdOf (0 : Nat) l (j : Int)) = p ++ y :: (m ++ x :: s) := by
  rw [List.set_comm _ _ (by omega)]
  exact swap_at e hi hj

theorem ins_inner {p s : List Nat} {y b i : Nat} {r : List Nat} (hi : i ≤ 2305843009213693952) : ∀ (n : Nat) (u v : List Nat) (l : List Nat) (j : Nat), u.length = n → l = p ++ (u ++ y :: v) ++ s → j = p.length + u.length → l.length ≤ 2305843009213693952 →
    Rises kf (u ++ v) → (∀ z ∈ v, kf y < kf z) →
    Ev (fun k => qsiscff6.l0 k (p ++ msort kf (u ++ v ++ [y]) ++ s) (p.length : Nat) b ((i + 1 : Nat) : Int)) r →
    Ev (fun k => qsiscff6.l1 k l (p.length : Nat) b i j) r := by
  intro n
  induction n with
  | zero =>
    intro u v l j hu e hj hl hr hv h
    have hu0 : u = [] := List.length_eq_zero_iff.1 hu
    subst hu0
    have em : msort kf ([] ++ v ++ [y]) = y :: v := by
      rw [List.nil_append]
      refine (msort_eq ?_ ?_).symm
      · exact Stab.swap (v := [y]) fun x hx z hz hk => by
          rw [List.mem_singleton.1 hz] at hk
          have := hv x hx; omega
      · exact List.pairwise_cons.2 ⟨fun z hz => Int.le_of_lt (hv z hz), hr.right⟩
    rw [em] at h
    refine Ev.step (fun k => ?_) h
    simp only [qsiscff6.l1]
    have hn : ¬ ((j : Int) > (p.length : Int)) := by simp only [List.length_nil] at hj; omega
    rw [if_neg hn, wadd (by omega), e]
    simp
  | succ n ih =>
    intro u v l j hu e hj hl hr hv h
    obtain ⟨u', z, rfl⟩ : ∃ u' z, u = u' ++ [z] := by
      rcases List.eq_nil_or_concat u with h0 | ⟨u', z, h0⟩
      · rw [h0] at hu; simp at hu
      · exact ⟨u', z, by rw [h0, List.concat_eq_append]⟩
    have hu' : u'.length = n := by simpa using hu
    obtain ⟨j', rfl⟩ : ∃ j', j = j' + 1 := ⟨j - 1, by rw [hj]; simp <;> omega⟩
    have hj' : j' = p.length + u'.length := by simp at hj; omega
    have hll : l.length = p.length + u'.length + 2 + v.length + s.length := by rw [e]; simp <;> omega
    have e1 : l = (p ++ u') ++ z :: ([] ++ y :: (v ++ s)) := by rw [e]; simp
    have rz : Zs (rdOf (0 : Nat) l (j' : Int) = z) := ⟨rd_at e1 (by rw [hj']; simp <;> omega)⟩
    have ry : Zs (rdOf (0 : Nat) l ((j' + 1 : Nat) : Int) = y) := ⟨rd_at (p := p ++ u' ++ [z]) (s := v ++ s) (by rw [e1]; simp) (by rw [hj']; simp <;> omega)⟩
    have b1 : ((j' + 1 : Nat) : Int) > (p.length : Int) := by omega
    have b2 : (0 : Int) ≤ ((j' + 1 : Nat) : Int) := by omega
    have b3 : ((j' + 1 : Nat) : Int) < (l.length : Int) := by omega
    have b4 : (0 : Int) ≤ (j' : Int) := by omega
    have b5 : (j' : Int) < (l.length : Int) := by omega
    have e2 := Zs.mk (wpre (i := j') (by omega))
    by_cases hlt : kf y < kf z
    · have IH := ih u' (z :: v) ((p ++ u') ++ y :: ([] ++ z :: (v ++ s))) j' hu' (by simp) hj' (by simp <;> omega) (by simpa using hr)
        (fun x hx => by
          rcases List.mem_cons.1 hx with rfl | hx
          · exact hlt
          · exact hv x hx)
        (by simpa using h)
      clear ih h
      refine Ev.step (fun k => ?_) IH
      simp only [qsiscff6.l1]
      have hcmp : qoc.f (rdOf (0 : Nat) l ((j' + 1 : Nat) : Int)) (rdOf (0 : Nat) l (j' : Int)) = some (-1) := by rw [ry.out, rz.out]; exact compare_lt hlt
      rw [if_pos b1, if_pos b2, if_pos b3, e2.out, if_pos b4, if_pos b5, hcmp, someBind, if_pos (by decide), Int.toNat_natCast, Int.toNat_natCast, swap_at' e1 (by rw [hj']; simp <;> omega) (by rw [hj']; simp <;> omega)]
    · obtain ⟨c, hc, hc0⟩ := compare_ge (a := y) (b := z) (by omega)
      have hz : ∀ x ∈ u', kf x ≤ kf z := fun x hx => by
        have := hr.left (a := u' ++ [z]) (b := v)
        exact this.across x hx z (by simp)
      have em : msort kf (u' ++ [z] ++ v ++ [y]) = u' ++ [z] ++ y :: v := by
        refine (msort_eq ?_ ?_).symm
        · rw [List.append_assoc (u' ++ [z])]
          exact (Stab.refl _).append (Stab.swap (v := [y]) fun x hx w hw hk => by
            rw [List.mem_singleton.1 hw] at hk
            have := hv x hx; omega)
        · refine hr.left.append (List.pairwise_cons.2 ⟨fun x hx => Int.le_of_lt (hv x hx), hr.right⟩) fun x hx w hw => ?_
          have hxy : kf x ≤ kf y := by
            rcases List.mem_append.1 hx with hx | hx
            · have := hz x hx; omega
            · rw [List.mem_singleton.1 hx]; omega
          rcases List.mem_cons.1 hw with rfl | hw
          · exact hxy
          · have := hv w hw; omega
      rw [em] at h
      clear ih
      refine Ev.step (fun k => ?_) h
      simp only [qsiscff6.l1]
      rw [if_pos b1, if_pos b2, if_pos b3, e2.out, if_pos b4, if_pos b5, ry.out, rz.out, hc, someBind, if_neg (by omega), wadd (by omega), e]
theorem ins_outer {p s : List Nat} {b : Nat} : ∀ (q w l : List Nat) (i : Nat), l = p ++ (w ++ q) ++ s → i = p.length + w.length → b = p.length + w.length + q.length → l.length ≤ 2305843009213693952 → Rises kf w →
    Ev (fun k => qsiscff6.l0 k l (p.length : Nat) b i) (p ++ msort kf (w ++ q) ++ s) := by
  intro q
  induction q with
  | nil =>
    intro w l i e hi hb hl hw
    refine Ev.step (fun k => ?_) (Ev.now _)
    simp only [qsiscff6.l0]
    rw [if_neg (by simp only [List.length_nil] at hb; omega), e, List.append_nil, msort_of_rises hw]
  | cons y q ih =>
    intro w l i e hi hb hl hw
    have hll : l.length = p.length + w.length + 1 + q.length + s.length := by rw [e]; simp <;> omega
    have hlm := length_msort (key := kf) (w ++ [y])
    have IH := ih (msort kf (w ++ [y])) (p ++ (msort kf (w ++ [y]) ++ q) ++ s) (i + 1) rfl (by rw [hlm]; simp <;> omega) (by rw [hlm]; simp at hb ⊢; omega) (by simp [hlm]; omega) (rises_msort _)
    rw [msort_of_stab (show Stab kf (w ++ y :: q) (msort kf (w ++ [y]) ++ q) by
      rw [show w ++ y :: q = (w ++ [y]) ++ q by simp]
      exact (stab_msort _).append (Stab.refl q))] at IH
    clear ih
    refine Ev.step (fun k => ?_) (ins_inner (p := p) (s := q ++ s) (y := y) (b := b) (i := i) (by omega) w.length w [] l i rfl (by rw [e]; simp) hi hl (by simpa using hw) (by simp) (by simpa using IH))
    simp only [qsiscff6.l0]
    rw [if_pos (by simp only [List.length_cons] at hb; omega)]
theorem ins {p u s l : List Nat} {a b : Nat} (e : l = p ++ u ++ s) (ha : a = p.length) (hb : b = p.length + u.length) (hl : l.length ≤ 2305843009213693952) :
    Ev (fun k => qsiscff6.f k l a b) (p ++ msort kf u ++ s) := by
  subst ha
  have hll : l.length = p.length + u.length + s.length := by rw [e]; simp <;> omega
  cases u with
  | nil =>
    refine Ev.congr (fun k => ?_) (Ev.step (f := fun _ => some (p ++ msort kf [] ++ s)) (g := fun k => qsiscff6.l0 k l (p.length : Nat) b ((p.length + 1 : Nat) : Int)) (fun k => ?_) (Ev.now _))
    · simp only [qsiscff6.f]
      rw [wadd (by omega)]
    · simp only [qsiscff6.l0]
      rw [if_neg (by simp only [List.length_nil] at hb; omega), e, msort_of_rises Rises.nil]
  | cons x q =>
    refine Ev.congr (fun k => ?_) (ins_outer (p := p) (s := s) (b := b) q [x] l (p.length + 1) (by rw [e]; simp) (by simp) (by rw [hb]; simp <;> omega) hl (Rises.single x))
    simp only [qsiscff6.f]
    rw [wadd (by omega)]

theorem range_l0 {P M Q : List Nat} {a b n : Nat} : ∀ (U V A B l : List Nat) (i : Nat), U.length = V.length → A.length = i → B.length = i → l = P ++ (A ++ U) ++ M ++ (B ++ V) ++ Q → a = P.length → b = P.length + n + M.length → n = i + U.length → l.length ≤ 2305843009213693952 →
    Ev (fun k => qssrcff6.l0 k l a b n i) (P ++ (A ++ V) ++ M ++ (B ++ U) ++ Q) := by
  intro U
  induction U with
  | nil =>
    intro V A B l i hUV hA hB e ha hb hn hl
    have hV : V = [] := List.length_eq_zero_iff.1 (by simpa using hUV.symm)
    subst hV
    refine Ev.step (fun k => ?_) (Ev.now _)
    simp only [qssrcff6.l0]
    rw [if_neg (by simp only [List.length_nil] at hn; omega), e]
  | cons x U ih =>
    intro V A B l i hUV hA hB e ha hb hn hl
    cases V with
    | nil => simp at hUV
    | cons y V =>
      have hUV' : U.length = V.length := by simpa using hUV
      have hn' : n = i + 1 + U.length := by simp at hn; omega
      have hll : l.length = P.length + i + 1 + U.length + M.length + i + 1 + V.length + Q.length := by rw [e]; simp [hA, hB]; omega
      have e1 : l = (P ++ A) ++ x :: ((U ++ M ++ B) ++ y :: (V ++ Q)) := by rw [e]; simp
      have IH := ih V (A ++ [y]) (B ++ [x]) ((P ++ A) ++ y :: ((U ++ M ++ B) ++ x :: (V ++ Q))) (i + 1) hUV' (by simp [hA]) (by simp [hB]) (by simp) ha hb hn' (by simp [hA, hB]; omega)
      clear ih
      have e2 := Zs.mk (wsum (a := b) (b := i) (by omega))
      have e3 := Zs.mk (wsum (a := a) (b := i) (by omega))
      have b1 : (i : Int) < (n : Int) := by omega
      have b2 : (0 : Int) ≤ ((b + i : Nat) : Int) := by omega
      have b3 : ((b + i : Nat) : Int) < (l.length : Int) := by omega
      have b4 : (0 : Int) ≤ ((a + i : Nat) : Int) := by omega
      have b5 : ((a + i : Nat) : Int) < (l.length : Int) := by omega
      have sw := swap_at (i := a + i) (j := b + i) e1 (by simp [hA]; omega) (by simp [hA, hB]; omega)
      refine evTo (by simp) (Ev.step (fun k => ?_) IH)
      simp only [qssrcff6.l0]
      rw [if_pos b1, e2.out, if_pos b2, if_pos b3, e3.out, if_pos b4, if_pos b5, Int.toNat_natCast, Int.toNat_natCast, sw, wadd (by omega)]
theorem range {P U M V Q l : List Nat} {a b n : Nat} (e : l = P ++ U ++ M ++ V ++ Q) (ha : a = P.length) (hb : b = P.length + U.length + M.length) (hn : n = U.length) (hUV : U.length = V.length) (hl : l.length ≤ 2305843009213693952) :
    Ev (fun k => qssrcff6.f k l a b n) (P ++ V ++ M ++ U ++ Q) := by
  have := range_l0 (P := P) (M := M) (Q := Q) (a := a) (b := b) (n := n) U V [] [] l 0 hUV rfl rfl (by simpa using e) ha (by omega) (by omega) hl
  exact Ev.congr (fun k => rfl) this

theorem rot_l0 : ∀ (n : Nat) (P u v Q l : List Nat) (m i j : Nat), u.length + v.length ≤ n → l = P ++ u ++ v ++ Q → m = P.length + u.length → i = u.length → j = v.length → 0 < i → 0 < j → l.length ≤ 1152921504606846976 →
    Ev (fun k => qsrcff6.l0 k l m i j) (P ++ v ++ u ++ Q) := by
  intro n
  induction n with
  | zero => intro P u v Q l m i j hn e hm hi hj h0 h1 hl; omega
  | succ n ih =>
    intro P u v Q l m i j hn e hm hi hj h0 h1 hl
    have hll : l.length = P.length + u.length + v.length + Q.length := by rw [e]; simp <;> omega
    have e1 := Zs.mk (wdif (a := m) (b := i) (by omega) (by omega))
    by_cases hij : i = j
    · have R := range (P := P) (U := u) (M := []) (V := v) (Q := Q) (l := l) (a := m - i) (b := m) (n := i) (by rw [e]; simp) (by omega) (by simp <;> omega) hi (by omega) (by omega)
      refine evTo (by simp) (Ev.step (fun k => ?_) (Ev.bind (f := fun _ t => some t) R (Ev.now _)))
      simp only [qsrcff6.l0]
      rw [if_pos (by omega), e1.out]
    · by_cases hgt : i > j
      · obtain ⟨u1, u2, rfl, hu1⟩ : ∃ u1 u2, u = u1 ++ u2 ∧ u1.length = j := ⟨u.take j, u.drop j, (List.take_append_drop j u).symm, by rw [List.length_take]; omega⟩
        have hl2 : u2.length = i - j := by simp at hi; omega
        have R := range (P := P) (U := u1) (M := u2) (V := v) (Q := Q) (l := l) (a := m - i) (b := m) (n := j) (by rw [e]; simp) (by omega) (by simp at hm; omega) hu1.symm (by omega) (by omega)
        have IH := ih (P ++ v) u2 u1 Q (P ++ v ++ u2 ++ u1 ++ Q) m (i - j) j (by simp at hn; omega) rfl (by simp at hm ⊢; omega) hl2.symm hu1.symm (by omega) h1 (by simp at hll ⊢; omega)
        have e2 := Zs.mk (wdif (a := i) (b := j) (by omega) (by omega))
        refine evTo (by simp) (Ev.step (fun k => ?_) (Ev.bind (f := fun k t => qsrcff6.l0 k t m ((i - j : Nat) : Int) j) R IH))
        simp only [qsrcff6.l0]
        rw [if_neg (by omega), if_pos (by omega), e1.out, e2.out]
      · obtain ⟨v1, v2, rfl, hv2⟩ : ∃ v1 v2, v = v1 ++ v2 ∧ v2.length = i := ⟨v.take (j - i), v.drop (j - i), (List.take_append_drop _ v).symm, by rw [List.length_drop]; omega⟩
        have hl1 : v1.length = j - i := by simp at hj; omega
        have R := range (P := P) (U := u) (M := v1) (V := v2) (Q := Q) (l := l) (a := m - i) (b := m + j - i) (n := i) (by rw [e]; simp) (by omega) (by omega) hi (by omega) (by omega)
        have IH := ih P v2 v1 (u ++ Q) (P ++ v2 ++ v1 ++ u ++ Q) m i (j - i) (by simp at hn; omega) (by simp) (by omega) hv2.symm hl1.symm h0 (by omega) (by simp at hll ⊢; omega)
        have e2 := Zs.mk (wdif (a := j) (b := i) (by omega) (by omega))
        have e3 := Zs.mk (wsum (a := m) (b := j) (by omega))
        have e4 := Zs.mk (wdif (a := m + j) (b := i) (by omega) (by omega))
        refine evTo (by simp) (Ev.step (fun k => ?_) (Ev.bind (f := fun k t => qsrcff6.l0 k t m i ((j - i : Nat) : Int)) R IH))
        simp only [qsrcff6.l0]
        rw [if_neg (by omega), if_neg (by omega), e1.out, e3.out, e4.out, e2.out]
theorem rot {P u v Q l : List Nat} {a m b : Nat} (e : l = P ++ u ++ v ++ Q) (ha : a = P.length) (hm : m = P.length + u.length) (hb : b = P.length + u.length + v.length) (h0 : 0 < u.length) (h1 : 0 < v.length) (hl : l.length ≤ 1152921504606846976) :
    Ev (fun k => qsrcff6.f k l a m b) (P ++ v ++ u ++ Q) := by
  have hll : l.length = P.length + u.length + v.length + Q.length := by rw [e]; simp <;> omega
  refine Ev.congr (fun k => ?_) (rot_l0 (u.length + v.length) P u v Q l m (m - a) (b - m) (Nat.le_refl _) e hm (by omega) (by omega) (by omega) (by omega) hl)
  simp only [qsrcff6.f]
  rw [wdif (by omega) (by omega), wdif (by omega) (by omega)]
end Go.Proofs.Ytkmbgfhkdopigaa.Stab
