/- Texts that the statement's proof leans on, part 18. -/
import Derived.Test.YtkmbgfhkdopigaaDoorTB4
import Derived.Test.YtkmbgfhkdopigaaDoorTB13
import Derived.Test.YtkmbgfhkdopigaaDoorTB17
import Derived.Maps.OwnOps
import Derived.Maps.OwnSet
import Derived.Maps.RangeWalk
namespace Go.Proofs.YtkmbgfhkdopigaaDoor.P
open Go.RowKit Go.Maps Go.Proofs.YtkmbgfhkdopigaaDoorW.PrintWords Go.Proofs.YtkmbgfhkdopigaaDoorW.PrintLast Go.Proofs.YtkmbgfhkdopigaaDoorW.PrintMore
attribute [local go_sem] Go.Proofs.YtkmbgfhkdopigaaDoor.Fl.store_float Go.Proofs.YtkmbgfhkdopigaaDoor.Fl.call58 Go.Proofs.YtkmbgfhkdopigaaDoor.Fl.call62
set_option linter.unusedVariables false
set_option linter.unusedSimpArgs false
def qod.key (x : Nat) : Int := (qok.f x).getD 0
def qod.num (x : Nat) : Bool := (FloatKind.format .f64).order x x == some .eq
def qod.at_ (k : Int) : Nat := ((qoa.f k).getD (0, 0)).1
def qod.keys (l : List Nat) : List Int := (l.filter qod.num).map qod.key
def qod.ded : List Int → List Int
  | [] => []
  | x :: l => if x ∈ l then qod.ded l else x :: qod.ded l
theorem qod.mem_ded (x : Int) : ∀ l : List Int, x ∈ qod.ded l ↔ x ∈ l
  | [] => by simp [qod.ded]
  | y :: l => by
    rw [qod.ded]
    split
    · rename_i h
      rw [qod.mem_ded x l, List.mem_cons]
      exact ⟨Or.inr, fun hh => hh.elim (fun e => e ▸ h) id⟩
    · rw [List.mem_cons, List.mem_cons, qod.mem_ded x l]
theorem qod.nodup_ded : ∀ l : List Int, (qod.ded l).Nodup
  | [] => List.nodup_nil
  | y :: l => by
    rw [qod.ded]
    split
    · exact qod.nodup_ded l
    · rename_i h
      exact List.nodup_cons.2 ⟨fun hh => h ((qod.mem_ded y l).1 hh), qod.nodup_ded l⟩
def qod.f (l : List Nat) : Option (List Nat) :=
  if l.length < 17592186044416 then some (((qod.ded (qod.keys l)).mergeSort (fun x y => decide (x ≤ y))).map qod.at_) else none
theorem qod.key_some (x : Nat) : qok.f x = some (qod.key x) := by
  unfold qod.key qok.f
  split
  · rfl
  · split <;> rfl
theorem qod.u64_wf (n : Int) : (Lit.int .u64 (IntKind.u64.wrap n)).wf = true := by
  simp only [Lit.wf, IntKind.min, IntKind.max, IntKind.signed, IntKind.bits, IntKind.wrap_u64, Bool.and_eq_true, decide_eq_true_eq, if_false, Bool.false_eq_true]
  omega
theorem qod.key_wf (x : Nat) : (Lit.int .u64 (qod.key x)).wf = true := by
  unfold qod.key qok.f
  split
  · rfl
  · split
    · exact qod.u64_wf _
    · exact qod.u64_wf _
theorem qod.at_some (k : Int) : ∃ e, qoa.f k = some (qod.at_ k, e) := by
  unfold qod.at_
  have : ∃ p, qoa.f k = some p := by
    unfold qoa.f qmnn.f
    split
    · exact ⟨_, rfl⟩
    · split
      · exact ⟨_, rfl⟩
      · split <;> exact ⟨_, rfl⟩
  obtain ⟨p, hp⟩ := this
  exact ⟨p.2, by rw [hp]; rfl⟩

def Met (D : DataW Unit) (ks : List Int) : Prop := IsMap D ∧ (∀ x, has D (.int .u64 x) = true ↔ x ∈ ks)
theorem Met.nil : Met (.map []) [] := ⟨isMap_empty, fun x => by simp [has]⟩
theorem Met.put {D : DataW Unit} {ks : List Int} (h : Met D ks) (x : Int) (d : DataW Unit) : Met (D.put (.int .u64 x) d) (ks ++ [x]) := by
  refine ⟨h.1.put _ _, fun y => ?_⟩
  by_cases e : y = x
  · subst e; simp [has_put_same h.1 (show WideAt.IsKeyLit (.int .u64 y) from trivial)]
  · rw [has_put_other (by intro hh; exact e (by injection hh))]
    simp [h.2 y, e]
def Coll (D0 : DataW Unit) (left : Lit → Bool) (ss : List Int) : Prop := ss.Nodup ∧ ∀ x, x ∈ ss ↔ (has D0 (.int .u64 x) = true ∧ left (.int .u64 x) = false)
theorem Coll.start (D0 : DataW Unit) : Coll D0 (has D0) [] := ⟨List.nodup_nil, fun x => by cases has D0 (.int .u64 x) <;> simp⟩
theorem Coll.step {D0 : DataW Unit} {left : Lit → Bool} {ss : List Int} (h : Coll D0 left ss) {x : Int} {y : DataW Unit} (hlk : left (.int .u64 x) = true) (hat : ∀ zd, D0.atKey (.int .u64 x) zd = y) :
    Coll D0 (fun z => left z && !z.sameKey (.int .u64 x)) (ss ++ [x]) := by
  have hhas : has D0 (.int .u64 x) = true := has_true_of_atKey hat
  have hnew : x ∉ ss := fun hx => by have := ((h.2 x).1 hx).2; rw [hlk] at this; cases this
  refine ⟨List.nodup_append.2 ⟨h.1, by simp, fun a ha b hb => by simp at hb; subst hb; exact fun e => hnew (e ▸ ha)⟩, fun y => ?_⟩
  by_cases hy : y = x
  · subst hy; simp [hhas, Lit.sameKey]
  · simp [h.2 y, hy, Lit.sameKey]
theorem Coll.sorted {D0 : DataW Unit} {left : Lit → Bool} {ss ks : List Int} (h : Coll D0 left ss) (hm : Met D0 ks) (hl : ∀ kl, left kl = false) :
    ss.mergeSort (fun x y => decide (x ≤ y)) = (qod.ded ks).mergeSort (fun x y => decide (x ≤ y)) := by
  have hp : ss.Perm (qod.ded ks) := by
    refine (List.perm_ext_iff_of_nodup h.1 ?_).2 fun x => ?_
    · exact qod.nodup_ded ks
    · rw [h.2 x, hm.2 x, hl]; simp [qod.mem_ded]
  have tr : ∀ a b c : Int, decide (a ≤ b) = true → decide (b ≤ c) = true → decide (a ≤ c) = true := fun a b c h1 h2 => by simp at *; omega
  have tot : ∀ a b : Int, (decide (a ≤ b) || decide (b ≤ a)) = true := fun a b => by simp; omega
  refine List.Perm.eq_of_pairwise (le := fun a b => decide (a ≤ b) = true) (fun a b _ _ h1 h2 => ?_) (List.pairwise_mergeSort tr tot ss) (List.pairwise_mergeSort tr tot _) (((List.mergeSort_perm ss _).trans hp).trans (List.mergeSort_perm _ _).symm)
  simp at h1 h2; omega

theorem size_le {w : World} {P : Program} {k : TypeId} {R : Value → Option (DataW Unit × List MemPlace)} {b n : Nat} {D : DataW Unit} (h : w.ownsMap P k R b n D) : size D ≤ n := by
  obtain ⟨es, clock, _, _, hs, rfl⟩ := h
  rw [size_eq, length_sorted]
  simpa using hs
theorem keyed33 : Keyed Tryd.prog 33 := int_keyed Tryd.underlying33
theorem zero3 (w : World) : (zeroValue 3).run Tryd.prog w = .ok (.int .i64 0) w := by kernel_rfl
theorem qod.keys_take_yes {l : List Nat} {j : Nat} (h : j < l.length) (hn : qod.num (rdOf (0 : Nat) l j) = true) : qod.keys (l.take (j + 1)) = qod.keys (l.take j) ++ [qod.key (rdOf (0 : Nat) l j)] := by
  have e : rdOf (0 : Nat) l (j : Int) = l[j] := by unfold rdOf; simp [List.getD_eq_getElem?_getD, h]
  rw [e] at hn ⊢
  unfold qod.keys
  rw [List.take_succ_eq_append_getElem h, List.filter_append, List.map_append]
  simp [hn]
theorem qod.keys_take_no {l : List Nat} {j : Nat} (h : j < l.length) (hn : qod.num (rdOf (0 : Nat) l j) = false) : qod.keys (l.take (j + 1)) = qod.keys (l.take j) := by
  have e : rdOf (0 : Nat) l (j : Int) = l[j] := by unfold rdOf; simp [List.getD_eq_getElem?_getD, h]
  rw [e] at hn
  unfold qod.keys
  rw [List.take_succ_eq_append_getElem h, List.filter_append, List.map_append]
  simp [hn]

set_option maxHeartbeats 8000000 in
set_option maxRecDepth 100000 in
theorem qod.calls (A0 : Option Addr) (c0 : Nat) (l0 : List Nat) (r : List Nat) (w : World) (hr0 : Kd.C (Kd.scalar (Value.float .f64) (fun _ => rfl)) w A0 l0.length l0) (hc0 : l0.length ≤ c0) (h : qod.f l0 = some r) :
    Calls Tryd.prog 7 #[.slice A0 l0.length c0] w fun e w' => ∃ v0_ : Value, e = .returned v0_ ∧ Kd.R (Kd.scalar (Value.float .f64) (fun _ => rfl)) 23 w' w.heap.size (fun _ => True) v0_ r ∧ Below w.heap.size w w' := by
  have HR0 := Zs.mk hr0
  have HC0 := Zs.mk hc0
  clear hr0 hc0
  unfold qod.f at h
  by_cases hlim : l0.length < 17592186044416
  case neg => rw [if_neg hlim] at h; cases h
  rw [if_pos hlim] at h
  have Hr := Zs.mk (Option.some.inj h).symm
  clear h
  have HL := Zs.mk hlim
  clear hlim
  have hmm := @run_makeMap Tryd.prog
  go_enter Tryd.func7, Tryd.ntmps7
  go_wp2
  go_loopw [16] (fun i wr => ∃ j : Nat, j ≤ l0.length ∧ i = .int .i64 j ∧ Zs (∃ D : DataW Unit, wr.ownsMap Tryd.prog 33 (plainElem Tryd.prog 3) w.heap.size j D ∧ Met D (qod.keys (l0.take j))) ∧ Zs (Below w.heap.size w wr))
    (fun i _ => l0.length - (intOf i).toNat)
  case atStart => exact ⟨0, Nat.zero_le _, rfl, ⟨_, World.ownsMap_made _ _ _ _, Met.nil⟩, ⟨(Below.refl _ _).alloc (Nat.le_refl _) _⟩⟩
  case round =>
    obtain ⟨j, hj, rfl, ⟨D, hown, hmet⟩, HB⟩ := hrel
    by_cases hlt : (j : Int) < (l0.length : Int)
    · have hltb : decide ((j : Int) < (l0.length : Int)) = true := decide_eq_true hlt
      obtain ⟨ad, ead, hcell⟩ := Kd.at_flo HR0.out (j : Int) (by omega) hlt
      cases ead
      replace hcell := (HB.out.cell (World.block_lt_of_cell? w _ hcell)).trans hcell
      rw [Int.toNat_natCast] at hcell
      have hjl : j < l0.length := by omega
      have HJ := Zs.mk (show j + 1 ≤ l0.length from hjl)
      have Ky := @qod.keys_take_yes l0 j hjl
      have Kn := @qod.keys_take_no l0 j hjl
      generalize rdOf (0 : Nat) l0 (j : Int) = x at hcell Ky Kn
      cases hn : qod.num x with
      | true =>
        have hnb : ((FloatKind.format .f64).order x x == some .eq) = true := hn
        have Hk := Zs.mk (qod.key_some x)
        have hkw := qod.key_wf x
        have hkey := keyOf_int_mk Tryd.underlying33 hkw
        have HM := Zs.mk (Ky hn)
        clear Ky Kn hn
        generalize qod.key x = kx at Hk hkw hkey HM
        go_wp2_with (first
          | (go_at_call 30; (with_reducible refine (qok.calls x kx _ Hk.out).mono ?_); rintro e w' ⟨rfl, ⟨nd, rfl⟩⟩; have hown1 : (wr.drewN nd).ownsMap Tryd.prog 33 (plainElem Tryd.prog 3) w.heap.size j D := hown)
          | (at_lookup; refine wpList_lookup_own_int _ rfl _ _ 63 rfl 33 3 .i64 keyed33 Tryd.underlying63 Tryd.underlying3 (zero3 _) w.heap.size j _ rfl hown1 _ _ rfl hkey ?_; intro c hat hwc)
          | (at_mapUpdate; refine wpList_mapUpdate_own _ rfl _ _ _ 63 rfl 33 3 keyed33 Tryd.underlying63 _ w.heap.size j _ rfl hown1 (by have := HL.out; unfold maxLen; omega) _ _ _ rfl rfl hkey _ [] (plainElem_int Tryd.underlying3 (wrap64_wf _)) ?_; intro w1 hown2 hgrow1)
          | go_in)
        have HB1 := (zB HB.out nd).grown (row := some w.heap.size) hgrow1 HB.out.size (fun k hk => by cases hk; exact Nat.le_refl _)
        go_roundw
        case rel => exact ⟨j + 1, by have h9 := HJ.out; exact h9, by rw [Pdq.wadd (i := j) (by have h8 := HL.out; have h9 := HJ.out; omega)], ⟨_, hown2, by rw [HM.out]; exact hmet.put kx _⟩, ⟨HB1⟩⟩
        case measure => have h8 := HL.out; have h9 := HJ.out; have e9 : wrap64 ((j : Int) + 1) = ((j + 1 : Nat) : Int) := Pdq.wadd (by omega); rw [e9]; clear e9; simp only [intOf, Int.toNat_natCast]; omega
      | false =>
        have hnb : ((FloatKind.format .f64).order x x == some .eq) = false := hn
        have HM := Zs.mk (Kn hn)
        clear Ky Kn hn
        go_wp2
        go_roundw
        case rel => exact ⟨j + 1, by have := HJ.out; omega, by rw [Pdq.wadd (i := j) (by have h8 := HL.out; have h9 := HJ.out; omega)], ⟨_, hown.mono (Nat.le_succ _), by rw [HM.out]; exact hmet⟩, ⟨HB.out⟩⟩
        case measure => have h8 := HL.out; have h9 := HJ.out; have e9 : wrap64 ((j : Int) + 1) = ((j + 1 : Nat) : Int) := Pdq.wadd (by omega); rw [e9]; clear e9; simp only [intOf, Int.toNat_natCast]; omega
    · have hltb : decide ((j : Int) < (l0.length : Int)) = false := decide_eq_false hlt
      obtain rfl : j = l0.length := by omega
      rw [List.take_length] at hmet
      go_wp2_with (first
        | (at_range; refine wpList_range_own _ rfl _ 63 rfl 33 3 keyed33 Tryd.underlying63 _ w.heap.size l0.length _ rfl hown ?_; intro w0 hrg0 hg0 hs0)
        | go_in)
      have HIT := Zs.mk HB.out.size
      have HB0 := Zs.mk (HB.out.grown (row := none) hg0 HB.out.size (fun k hk => by cases hk))
      have hrg0' := hrg0
      clear hrg0 hg0 hs0
      generalize wr.heap.size = it at hrg0' HIT ⊢
      go_loopw [6] (fun v6 wr2 => ∃ (left : Lit → Bool) (cnt : Nat) (ks : List Int), Zs (wr2.ranges Tryd.prog 33 (plainElem Tryd.prog 3) w.heap.size it l0.length D left cnt) ∧ Zs (Coll D left ks) ∧ Zs (ks.length + cnt ≤ l0.length) ∧
          Zs (Kd.R (Kd.int .u64) 33 wr2 w.heap.size (fun k_ => k_ ≠ w.heap.size ∧ k_ ≠ it) v6 ks) ∧ Zs (Below w.heap.size w wr2))
        (fun _ wr2 => wr2.rangeLeft w.heap.size it)
      case atStart => exact ⟨_, _, [], ⟨hrg0'⟩, ⟨Coll.start D⟩, ⟨by simpa using size_le hown⟩, ⟨Kd.R_nil _ _ _ _ _⟩, ⟨HB0.out⟩⟩
      case round =>
        obtain ⟨left, cnt, ks, HRG, HCL, HCN, HO, HB2⟩ := hrel
        clear hrg0'
        go_wp2_with (first
          | (at_next; refine wpList_next_ranges_ii _ rfl _ rfl 33 3 .u64 .i64 keyed33 Tryd.underlying33 Tryd.underlying3 w.heap.size it l0.length D left cnt rfl HRG.out ?_ ?_)
          | go_in)
        · intro hc0 hl0
          have HSO := HCL.out.sorted hmet hl0
          obtain ⟨kS, HSf⟩ := Ev.rounds (Pdq.sort_ev ks (by have h1 := HCN.out; have h2 := HL.out; omega))
          have hlen : (ks.mergeSort (fun x y => decide (x ≤ y))).length = ks.length := List.length_mergeSort _
          rw [← HSO] at Hr
          generalize ks.mergeSort (fun x y => decide (x ≤ y)) = zs at HSf hlen Hr
          obtain ⟨Ao, co, eo⟩ := Kd.R_slice HO.out
          rw [← hlen] at eo
          subst eo
          have HSF := Zs.mk HSf
          have HZ := Zs.mk (show zs.length ≤ l0.length by have h1 := HCN.out; omega)
          clear HSO HSf hc0 hl0 HCL hmet hlen
          go_wp2_with (first
            | (go_at_call 31; (with_reducible refine (qssu6u6.calls kS (fun k_ => k_ ≠ w.heap.size ∧ k_ ≠ it) _ ks zs w _ HB2.out HO.out HSF.out).mono ?_); rintro e w3 ⟨rfl, ho, hb, hk⟩; have HK3 := Zs.mk (Kd.R_mono ho (fun _ _ => trivial) (ok' := fun _ => True)); have HB3 := Zs.mk hb; clear ho hb hk)
            | go_in)
          go_loopw [8, 43] (fun v8 v43 wr3 => ∃ j : Nat, j ≤ zs.length ∧ v43 = .int .i64 j ∧ Zs (Kd.R (Kd.scalar (Value.float .f64) (fun _ => rfl)) 23 wr3 w.heap.size (fun _ => True) v8 ((zs.take j).map qod.at_)) ∧
              Zs (Kd.R (Kd.int .u64) 33 wr3 w.heap.size (fun _ => True) (.slice Ao zs.length co) zs) ∧ Zs (Below w.heap.size w wr3))
            (fun _ v43 _ => zs.length - (intOf v43).toNat)
          case atStart => exact ⟨0, Nat.zero_le _, rfl, ⟨Kd.R_nil _ _ _ _ _⟩, ⟨HK3.out⟩, ⟨HB3.out⟩⟩
          case round =>
            obtain ⟨j, hj, rfl, HOut, HKey, HB4⟩ := hrel
            by_cases hlt : (j : Int) < (zs.length : Int)
            · have hltb : decide ((j : Int) < (zs.length : Int)) = true := decide_eq_true hlt
              obtain ⟨ad, ead, hcell⟩ := Kd.at_int (Kd.R_reads' HKey.out).2.2 (j : Int) (by omega) hlt
              cases ead
              rw [Int.toNat_natCast] at hcell
              have hjl : j < zs.length := by omega
              have HJ3 := Zs.mk (show j + 1 ≤ zs.length from hjl)
              have HT := Zs.mk (show (zs.take (j + 1)).map qod.at_ = (zs.take j).map qod.at_ ++ [qod.at_ (rd zs (j : Int))] by
                rw [List.take_succ_eq_append_getElem hjl, List.map_append, show rd zs (j : Int) = zs[j] by unfold rd; simp [List.getD_eq_getElem?_getD, hjl]]; rfl)
              obtain ⟨er, hAt⟩ := qod.at_some (rd zs (j : Int))
              have HAT := Zs.mk hAt
              clear hAt hjl
              generalize rd zs (j : Int) = y at hcell HT HAT
              generalize qod.at_ y = fy at HT HAT
              have HLn := Zs.mk (show ((zs.take j).map qod.at_).length ≤ zs.length by rw [List.length_map, List.length_take]; omega)
              generalize (zs.take j).map qod.at_ = os at HT HOut HLn
              go_wp2_with (first
                | (go_at_call 32; (with_reducible refine (qoa.calls y fy er _ HAT.out).mono ?_); rintro e w' ⟨rfl, ⟨nd, rfl⟩⟩)
                | ((with_reducible refine gate_builtin (b := .append) (xs := #[.tmp 52, .tmp 54]) rfl ?_); at_builtin; refine Kd.R_append (Kd.scalar (Value.float .f64) (fun _ => rfl)) (w0 := w) w.heap.size rfl (.tmp 52) (.tmp 54) 22 23 (.float .f64 0) 8 rfl Tryd.underlying22 info23 rfl (by decide) (by omega) _ os fy [.float .f64 fy] (fun _ => True) (fun _ => False) rfl rfl ?aP (fun _ hk => hk.elim) ?aF ?aO ?aB ?aS ?aL ?_; (case aP => exact rfl); (case aB => exact zB HB4.out nd); (case aF => exact fun _ _ => trivial); (case aO => exact Kd.R_drewN HOut.out nd); (case aS => exact HB4.out.size); (case aL => have h1 := HLn.out; have h2 := HL.out; have h3 := HZ.out; omega); intro v1 w5 ho hb hg hat2; have HK5 := Zs.mk (Kd.R_over (Kd.R_drewN HKey.out nd) (Kd.R_drewN HOut.out nd) (by intro q hq; simp [Kd.int, Kd.scalar] at hq; omega) hg))
                | go_in)
              go_roundw
              case rel => exact ⟨j + 1, HJ3.out, by rw [Pdq.wadd (i := j) (by have h1 := HL.out; have h2 := HZ.out; have h9 := HJ3.out; omega)], ⟨by rw [HT.out]; exact ho⟩, ⟨HK5.out⟩, ⟨hb⟩⟩
              case measure => have h8 := HL.out; have h7 := HZ.out; have h9 := HJ3.out; have e9 : wrap64 ((j : Int) + 1) = ((j + 1 : Nat) : Int) := Pdq.wadd (by omega); rw [e9]; clear e9; simp only [intOf, Int.toNat_natCast]; omega
            · have hltb : decide ((j : Int) < (zs.length : Int)) = false := decide_eq_false hlt
              obtain rfl : j = zs.length := by omega
              rw [List.take_length, ← Hr.out] at HOut
              go_wp2
              go_ret
              exact ⟨_, rfl, HOut.out, HB4.out⟩
        · intro x c w1 cnt1 hwx hwc hlx hat hrg1 hlt hg1 hs1 hen
          have HO1 := Zs.mk (Kd.R_grown HO.out hg1 (fun k hk e => hk.2 (by injection e)))
          have HB3 := Zs.mk (HB2.out.grown (row := some it) hg1 HB2.out.size (fun k hk => by cases hk; exact HIT.out))
          have HR1 := Zs.mk hrg1
          have HC1 := Zs.mk (HCL.out.step hlx hat)
          have HLT := Zs.mk hlt
          have hb1 := hrg1.owns.lt
          have hr1 := hrg1.lt
          have HF := Zs.mk (show ∀ k, w1.heap.size ≤ k → k ≠ w.heap.size ∧ k ≠ it from fun k hk => by omega)
          clear hrg1 hlt hlx hat hs1 hb1 hr1 hg1
          go_wp2_with (first
            | ((with_reducible refine gate_builtin (b := .append) (xs := #[.tmp 35, .tmp 37]) rfl ?_); at_builtin; refine Kd.R_append (Kd.int .u64) (w0 := w) w.heap.size rfl (.tmp 35) (.tmp 37) 26 33 (.int .u64 0) 8 rfl Tryd.underlying26 info33 rfl (by decide) (by omega) _ ks x [.int .u64 x] (fun k_ => k_ ≠ w.heap.size ∧ k_ ≠ it) (fun _ => False) rfl rfl ?aP (fun _ hk => hk.elim) ?aF ?aO ?aB ?aS ?aL ?_; (case aP => exact rfl); (case aB => exact HB3.out); (case aF => exact HF.out); (case aO => exact HO1.out); (case aS => exact HB3.out.size); (case aL => have h1 := HCN.out; have h2 := HL.out; have h3 := HLT.out; omega); intro v1 w5 ho hb hg hat2)
            | go_in)
          have HR2 := HR1.out.kept hg (Kd.R_away HO1.out (fun k hk => hk.1)) (Kd.R_away HO1.out (fun k hk => hk.2))
          go_roundw
          case rel => exact ⟨_, cnt1, ks ++ [x], ⟨HR2⟩, ⟨HC1.out⟩, ⟨by have h1 := HCN.out; have h3 := HLT.out; simp; omega⟩, ⟨ho⟩, ⟨hb⟩⟩
          case measure => rw [HR2.left_eq, HRG.out.left_eq]; exact HLT.out
end Go.Proofs.YtkmbgfhkdopigaaDoor.P
