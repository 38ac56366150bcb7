/- The walk of demesneref25.Type. -/
import Derived.Test.YtfebpmaaaiaccaaTyp
import Derived.Test.YtfebpmaaaiaccaaTells
set_option linter.unusedSimpArgs false
set_option linter.unusedVariables false
namespace Go.Proofs.Ytfebpmaaaiaccaa
open Go.RowKit Go.Proofs.Grow

/-- What its first loop has found no fault with. -/
def okTo (m : Int) (l : List Ow) (k : Nat) : Prop := ∀ (i : Nat) (h : i < l.length), i < k → badR m (i == 0) l[i] = false

def LoopBad (m : Int) (k : Nat) (L : List Ow) (bd : Bool) : Prop := ∃ h : k < L.length, badR m (k == 0) L[k] = bd
theorem okTo_succ {m : Int} {L : List Ow} {k : Nat} {bd : Bool} (h : okTo m L k) (hb : LoopBad m k L bd) (e : bd = false) : okTo m L (k + 1) := fun i hi hlt => by
  rcases Nat.lt_or_ge i k with h1 | h1
  · exact h i hi h1
  · obtain rfl : i = k := by omega
    obtain ⟨_, e2⟩ := hb
    rw [e2, e]
theorem typ_bad (t : Ty) (m : Int) (l L : List Ow) (k : Nat) (bd : Bool) (hL : L = t.o0 :: l) (hO : t.owners = L) (hb : LoopBad m k L bd) (e : bd = true) : (if t.o0.k ∈ firsts m then typO t m else 19) = 19 := by
  obtain ⟨h, e2⟩ := hb
  rw [e] at e2
  clear e
  subst hL
  rcases k with _ | k
  · rw [show ((0 : Nat) == 0) = true from rfl, List.getElem_cons_zero, badR_first] at e2
    rw [if_neg (by simpa using e2)]
  · rw [show ((k + 1 : Nat) == 0) = false from rfl, List.getElem_cons_succ, badR_behind] at e2
    split
    · unfold typO
      rw [hO, List.drop_one, List.tail_cons, if_pos]
      exact List.all_eq_false.2 ⟨l[k]'(by simpa using h), List.getElem_mem _, by simpa using e2⟩
    · rfl
theorem typ_good (t : Ty) (m : Int) (l L : List Ow) (hL : L = t.o0 :: l) (hO : t.owners = L) (hall : okTo m L L.length) : (if t.o0.k ∈ firsts m then typO t m else 19) = if uniqT t = false then (if (m != 1 || allIn L) = true then 0 else 23) else if l.all (fun o => o.k == 4) = true then 0 else 22 := by
  subst hL
  have h0 := hall 0 (by simp) (by simp)
  rw [show ((0 : Nat) == 0) = true from rfl, List.getElem_cons_zero, badR_first] at h0
  rw [if_pos (by simpa using h0)]
  unfold typO moreT
  rw [hO, List.drop_one, List.tail_cons, if_neg]
  rw [Bool.not_eq_false, List.all_eq_true]
  intro o ho
  obtain ⟨i, hi, rfl⟩ := List.getElem_of_mem ho
  have := hall (i + 1) (by simpa using hi) (by simpa using hi)
  rw [show ((i + 1 : Nat) == 0) = false from rfl, List.getElem_cons_succ, badR_behind] at this
  simpa using this

def Loop4 (k : Nat) (L : List Ow) (bd : Bool) : Prop := ∃ h : k < L.length, (L[k].k == 4) = bd
def All4 (uq : Bool) (L : List Ow) (k : Nat) : Prop := uq = true → ∀ (i : Nat) (h : i < L.length), 1 ≤ i → i < k → (L[i].k == 4) = true
theorem four_succ {uq : Bool} {L : List Ow} {k : Nat} {bd : Bool} (h : All4 uq L k) (hb : Loop4 k L bd) (e : bd = true) : All4 uq L (k + 1) := fun hu i hi h1 hlt => by
  rcases Nat.lt_or_ge i k with h2 | h2
  · exact h hu i hi h1 h2
  · obtain rfl : i = k := by omega
    obtain ⟨_, e2⟩ := hb
    rw [e2, e]
theorem four_bad {L l : List Ow} {o0 : Ow} {k : Nat} {bd : Bool} (hL : L = o0 :: l) (hb : Loop4 k L bd) (e : bd = false) (h1 : 1 ≤ k) : l.all (fun o => o.k == 4) = false := by
  obtain ⟨h, e2⟩ := hb
  subst hL e
  obtain ⟨k, rfl⟩ : ∃ j, k = j + 1 := ⟨k - 1, by omega⟩
  rw [List.getElem_cons_succ] at e2
  exact List.all_eq_false.2 ⟨l[k]'(by simpa using h), List.getElem_mem _, by rw [e2]; decide⟩
theorem four_good {L l : List Ow} {o0 : Ow} (hL : L = o0 :: l) (h : All4 true L L.length) : l.all (fun o => o.k == 4) = true := by
  subst hL
  rw [List.all_eq_true]
  intro o ho
  obtain ⟨i, hi, rfl⟩ := List.getElem_of_mem ho
  have := h rfl (i + 1) (by simpa using hi) (by omega) (by simpa using hi)
  rwa [List.getElem_cons_succ] at this


set_option maxHeartbeats 4000000 in
set_option maxRecDepth 100000 in
theorem refTyp_any (w : World) (A : Option Addr) (c : Nat) (C : List Cl) (t : Ty) (m : Int) (hl : C.length ≤ 9223372036854775807) (hs : Lies w 7 Cl.cells A C) :
    Gives Try.prog 20 #[.slice A C.length c, .agg t.cells.toArray, .int .i64 m] w (.int .i64 (typT C t m)) := by
  refine Gives.mk ?_
  obtain ⟨r, hr⟩ : ∃ r, r = typT C t m := ⟨_, rfl⟩
  rw [← hr]
  have HR := hide hr
  clear hr
  by_cases hk : t.k = 2
  · obtain ⟨na, hna⟩ : ∃ na, arity C t.cls = na := ⟨_, rfl⟩
    have HA := hide (fun (W : World) (hb : Below w.heap.size w W) => refArity_any W A c C t.cls hl (hs.below hb))
    rw [hna] at HA
    obtain ⟨l, hlo⟩ := owners_cons t hk
    have Ho := hide (fun W => refOwners_any t W)
    rw [hlo] at Ho
    have hll : l.length ≤ 3 := by have := owners_le t; rw [hlo] at this; simpa using this
    have HN := hide (show na = arity C t.cls from hna.symm)
    have HO := hide (show t.owners = t.o0 :: l from hlo)
    obtain ⟨uq, huq⟩ : ∃ uq, uniqT t = uq := ⟨_, rfl⟩
    have Hu := hide (fun W => unique5_any t W)
    rw [huq] at Hu
    have HE := hide huq
    have hkb : (t.k != 2) = false := by simp [hk]
    have HK := hide hk
    clear hk hlo hna hs huq
    unfold Ty.cells at Ho Hu ⊢
    go_enter Try.func20, Try.ntmps20
    go_wp2_with fail
    refine (HA.out _ ?_).mono ?_
    · repeat (first | exact Below.refl _ _ | exact Nat.le_refl _ | assumption | refine below_ext ?_ ?_ _ | refine Below.alloc ?_ ?_ _ | refine Below.drew ?_ | refine Below.setCell ?_ ?_ _ | refine Ext.le _ ?_ | refine le_alloc ?_ | refine le_drew ?_ | refine le_setCell ?_)
      all_goals omega
    rintro _ _ ⟨y, rfl, rfl⟩
    have hz1 : w.heap.size < y.val.heap.size := y.lt (by simp)
    rcases Bool.eq_false_or_eq_true (decide (na < 0)) with ha | ha
    · go_wp2_with fail
      go_ret
      refine ⟨ret_int (by rw [HR.out]; unfold typT; rw [if_pos HK.out, ← HN.out, if_pos (of_decide_eq_true ha)]), ?_⟩
      repeat (first | exact Below.refl _ _ | exact Nat.le_refl _ | assumption | refine below_ext ?_ ?_ _ | refine Below.alloc ?_ ?_ _ | refine Below.drew ?_ | refine Below.setCell ?_ ?_ _ | refine Ext.le _ ?_ | refine le_alloc ?_ | refine le_drew ?_ | refine le_setCell ?_)
      all_goals omega
    · have HA0 : Hid (¬ na < 0) := of_decide_eq_false ha
      rcases Bool.eq_false_or_eq_true (na != t.n) with hn | hn
      · go_wp2_with fail
        go_ret
        refine ⟨ret_int (by rw [HR.out]; unfold typT; rw [if_pos HK.out, ← HN.out, if_neg (by have := HA0.out; omega), if_neg (by simpa using hn)]), ?_⟩
        repeat (first | exact Below.refl _ _ | exact Nat.le_refl _ | assumption | refine below_ext ?_ ?_ _ | refine Below.alloc ?_ ?_ _ | refine Below.drew ?_ | refine Below.setCell ?_ ?_ _ | refine Ext.le _ ?_ | refine le_alloc ?_ | refine le_drew ?_ | refine le_setCell ?_)
        all_goals omega
      · have HR1 : Hid (r = if t.o0.k ∈ firsts m then typO t m else 19) := by
          have e := HR.out
          unfold typT at e
          rw [if_pos HK.out, ← HN.out, if_neg HA0.out, if_pos (show na = t.n by simpa using hn)] at e
          exact e
        clear HR HA HN HK HA0
        go_wp2_with fail
        refine (Ho.out _).mono ?_
        rintro _ _ ⟨z, A', c', rfl, rfl, h1, h2, h3⟩
        have hz3 : w.heap.size < z.val.heap.size := z.lt hz1
        clear Ho h1 h2
        obtain ⟨L, hL⟩ : ∃ L, L = t.o0 :: l := ⟨_, rfl⟩
        rw [← hL] at h3 HO
        have HL := hide hL
        have hLl : L.length ≤ 4 := by rw [hL]; simp; omega
        have hlen : (t.o0 :: l).length = L.length := by rw [hL]
        have HS := hide h3
        rw [hlen]
        clear hL h3 hlen
        go_wp2_with fail
        go_loopw [9] (fun s9 wr => ∃ k : Nat, k ≤ L.length ∧ s9 = .int .i64 k ∧ (∃ u : Ext z.val, wr = u.val) ∧ okTo m L k) (fun s9 _ => L.length - (intOf s9).toNat)
        case atStart => exact ⟨0, Nat.zero_le _, rfl, ⟨Ext.here _, rfl⟩, fun i _ h => absurd h (Nat.not_lt_zero i)⟩
        case round =>
          obtain ⟨k, hk, rfl, ⟨u, rfl⟩, hall⟩ := hrel
          have hz5 : w.heap.size < u.val.heap.size := u.lt hz3
          by_cases hlt : k < L.length
          · obtain ⟨bb, of2, rfl, hbb, hcell⟩ := HS.out k hlt
            have hlt' : (k : Int) < (L.length : Int) := by omega
            have c0 : z.val.cell? ⟨bb, of2 + k * 2, none⟩ = some (.int .i64 L[k].k) := by simpa using hcell 0 _ rfl
            obtain ⟨bd, hbd⟩ : ∃ bd, badR m (k == 0) L[k] = bd := ⟨_, rfl⟩
            have HB : LoopBad m k L bd := ⟨hlt, hbd⟩
            obtain ⟨o, ho⟩ : ∃ o, o = L[k] := ⟨_, rfl⟩
            rw [← ho] at c0 hbd
            obtain ⟨f, hf⟩ : ∃ f, ((k : Int) == 0) = f := ⟨_, rfl⟩
            have hf2 : (k == 0) = f := by rw [← hf, Bool.eq_iff_iff]; simp
            have HM := hide (fun W => may_any o.k m f W)
            obtain ⟨my, hmy⟩ : ∃ my, mayT o.k m f = my := ⟨_, rfl⟩
            rw [hmy] at HM
            unfold badR at hbd
            rw [hf2, hmy] at hbd
            have HBD := hide hbd
            have HK := hide hlt
            clear hbd hmy hf2 hcell hlt ho
            cases my
            · rcases Bool.eq_false_or_eq_true (m != 2) with h2 | h2
              · have HX := hide (show true = bd by rw [← HBD.out, h2]; rfl)
                go_wp2_with (go_at_call 39; refine (HM.out _).mono ?_; rintro _ _ ⟨v, rfl, rfl⟩)
                go_ret
                refine ⟨ret_int (by rw [HR1.out]; exact (typ_bad t m l L k bd HL.out HO.out HB HX.out.symm).symm), ?_⟩
                repeat (first | exact Below.refl _ _ | exact Nat.le_refl _ | assumption | refine below_ext ?_ ?_ _ | refine Below.alloc ?_ ?_ _ | refine Below.drew ?_ | refine Below.setCell ?_ ?_ _ | refine Ext.le _ ?_ | refine le_alloc ?_ | refine le_drew ?_ | refine le_setCell ?_)
                all_goals omega
              · rcases Bool.eq_false_or_eq_true (o.k != 6) with h6 | h6
                · have HX := hide (show true = bd by rw [← HBD.out, h6]; simp)
                  go_wp2_with (go_at_call 39; refine (HM.out _).mono ?_; rintro _ _ ⟨v, rfl, rfl⟩)
                  go_ret
                  refine ⟨ret_int (by rw [HR1.out]; exact (typ_bad t m l L k bd HL.out HO.out HB HX.out.symm).symm), ?_⟩
                  repeat (first | exact Below.refl _ _ | exact Nat.le_refl _ | assumption | refine below_ext ?_ ?_ _ | refine Below.alloc ?_ ?_ _ | refine Below.drew ?_ | refine Below.setCell ?_ ?_ _ | refine Ext.le _ ?_ | refine le_alloc ?_ | refine le_drew ?_ | refine le_setCell ?_)
                  all_goals omega
                · have HX := hide (show false = bd by rw [← HBD.out, h6, h2]; rfl)
                  go_wp2_with (go_at_call 39; refine (HM.out _).mono ?_; rintro _ _ ⟨v, rfl, rfl⟩)
                  go_roundw
                  case rel => exact ⟨k + 1, HK.out, by go_num, ⟨u.step v.below, rfl⟩, okTo_succ hall HB HX.out.symm⟩
                  case measure => have := HK.out; simp [intOf]; omega
            · have HX := hide (show false = bd by rw [← HBD.out]; rfl)
              go_wp2_with (go_at_call 39; refine (HM.out _).mono ?_; rintro _ _ ⟨v, rfl, rfl⟩)
              go_roundw
              case rel => exact ⟨k + 1, HK.out, by go_num, ⟨u.step v.below, rfl⟩, okTo_succ hall HB HX.out.symm⟩
              case measure => have := HK.out; simp [intOf]; omega
          · obtain rfl : k = L.length := by omega
            have hlt' : ¬ (L.length : Int) < (L.length : Int) := by omega
            have HR2 := hide (HR1.out.trans (typ_good t m l L HL.out HO.out hall))
            rw [HE.out] at HR2
            clear hall HR1
            go_wp2_with fail
            go_loopw [10] (fun s10 wr => ∃ k : Nat, 1 ≤ k ∧ k ≤ L.length ∧ s10 = .int .i64 k ∧ (∃ v : Ext u.val, wr = v.val) ∧ All4 uq L k) (fun s10 _ => L.length - (intOf s10).toNat)
            case atStart => exact ⟨1, Nat.le_refl _, by rw [HL.out]; simp, rfl, ⟨Ext.here _, rfl⟩, fun _ i _ h1 h2 => absurd h2 (Nat.not_lt.2 h1)⟩
            case round =>
              obtain ⟨k2, hk1, hk2, rfl, ⟨v, rfl⟩, hall⟩ := hrel
              have hz6 : w.heap.size < v.val.heap.size := v.lt hz5
              by_cases hlt : k2 < L.length
              · obtain ⟨bb, of2, rfl, hbb, hcell⟩ := HS.out k2 hlt
                have hlt' : (k2 : Int) < (L.length : Int) := by omega
                have c0 : z.val.cell? ⟨bb, of2 + k2 * 2, none⟩ = some (.int .i64 L[k2].k) := by simpa using hcell 0 _ rfl
                obtain ⟨bd, hbd⟩ : ∃ bd, (L[k2].k == 4) = bd := ⟨_, rfl⟩
                have HB : Loop4 k2 L bd := ⟨hlt, hbd⟩
                obtain ⟨o, ho⟩ : ∃ o, o = L[k2] := ⟨_, rfl⟩
                rw [← ho] at c0 hbd
                have hbb2 : bb < u.val.heap.size := u.lt hbb
                have hbb3 : bb < v.val.heap.size := v.lt hbb2
                have HBD := hide hbd
                have HK := hide hlt
                have HK1 := hide hk1
                have HA4 : All4 uq L k2 := hall
                clear hbd hcell hlt ho hall hk1
                cases uq
                · go_wp2_with (go_at_call 23; refine (Hu.out _).mono ?_; rintro _ _ ⟨v2, rfl, rfl⟩)
                  go_roundw
                  case rel => exact ⟨k2 + 1, by have := HK1.out; omega, HK.out, by go_num, ⟨v.step v2.below, rfl⟩, fun h => (by cases h)⟩
                  case measure => have := HK.out; simp [intOf]; omega
                · rcases Bool.eq_false_or_eq_true (o.k != 4) with h4 | h4
                  · have HX := hide (show false = bd by rw [← HBD.out]; simpa using h4)
                    go_wp2_with (go_at_call 23; refine (Hu.out _).mono ?_; rintro _ _ ⟨v2, rfl, rfl⟩; have hbb4 : bb < v2.val.heap.size := v2.lt hbb3)
                    go_ret
                    have hbad : l.all (fun o => o.k == 4) = false := four_bad HL.out HB HX.out.symm HK1.out
                    refine ⟨ret_int (by rw [HR2.out, hbad]; rfl), ?_⟩
                    repeat (first | exact Below.refl _ _ | exact Nat.le_refl _ | assumption | refine below_ext ?_ ?_ _ | refine Below.alloc ?_ ?_ _ | refine Below.drew ?_ | refine Below.setCell ?_ ?_ _ | refine Ext.le _ ?_ | refine le_alloc ?_ | refine le_drew ?_ | refine le_setCell ?_)
                    all_goals omega
                  · have HX := hide (show true = bd by rw [← HBD.out]; simpa using h4)
                    go_wp2_with (go_at_call 23; refine (Hu.out _).mono ?_; rintro _ _ ⟨v2, rfl, rfl⟩; have hbb4 : bb < v2.val.heap.size := v2.lt hbb3)
                    go_roundw
                    case rel => exact ⟨k2 + 1, by have := HK1.out; omega, HK.out, by go_num, ⟨v.step v2.below, rfl⟩, four_succ HA4 HB HX.out.symm⟩
                    case measure => have := HK.out; simp [intOf]; omega
              · obtain rfl : k2 = L.length := by omega
                have hlt' : ¬ (L.length : Int) < (L.length : Int) := by omega
                have HA4 : All4 uq L L.length := hall
                clear hall
                cases uq
                · rcases Bool.eq_false_or_eq_true (m == 1) with hm | hm
                  · obtain ⟨al, hal⟩ : ∃ al, allIn L = al := ⟨_, rfl⟩
                    have HAl := hide (fun (W : World) (hb : Below z.val.heap.size z.val W) => refAll_any W A' c' L (by omega) (HS.out.below hb))
                    rw [hal] at HAl HR2
                    have hmb : (m != 1) = false := by simpa [bne] using hm
                    obtain ⟨rv, hrv⟩ : ∃ rv : Int, (if (m != 1 || al) = true then (0 : Int) else 23) = rv := ⟨_, rfl⟩
                    have HV : Hid (r = rv) := by rw [← hrv]; exact HR2.out
                    rw [hmb] at hrv
                    have HRV := hide hrv
                    clear hmb hrv HR2
                    cases al
                    all_goals
                      go_wp2_with (first | (go_at_call 23; refine (Hu.out _).mono ?_; rintro _ _ ⟨v2, rfl, rfl⟩; have hz7 := v2.lt hz6) | (go_at_call 14; refine (HAl.out _ (u.step (v.step v2.below).below).below).mono ?_; rintro _ _ ⟨v3, rfl, rfl⟩; have hz8 := v3.lt hz7))
                      go_ret
                      refine ⟨ret_int (by rw [HV.out]; exact HRV.out), ?_⟩
                      repeat (first | exact Below.refl _ _ | exact Nat.le_refl _ | assumption | refine below_ext ?_ ?_ _ | refine Below.alloc ?_ ?_ _ | refine Below.drew ?_ | refine Below.setCell ?_ ?_ _ | refine Ext.le _ ?_ | refine le_alloc ?_ | refine le_drew ?_ | refine le_setCell ?_)
                      all_goals omega
                  · have hmb : (m != 1) = true := by simpa [bne] using hm
                    have HV : Hid (r = 0) := by have e := HR2.out; rw [hmb] at e; exact e
                    clear hmb HR2
                    go_wp2_with (first | (go_at_call 23; refine (Hu.out _).mono ?_; rintro _ _ ⟨v2, rfl, rfl⟩))
                    go_ret
                    refine ⟨ret_int HV.out.symm, ?_⟩
                    repeat (first | exact Below.refl _ _ | exact Nat.le_refl _ | assumption | refine below_ext ?_ ?_ _ | refine Below.alloc ?_ ?_ _ | refine Below.drew ?_ | refine Below.setCell ?_ ?_ _ | refine Ext.le _ ?_ | refine le_alloc ?_ | refine le_drew ?_ | refine le_setCell ?_)
                    all_goals omega
                · have HG := hide (four_good HL.out HA4)
                  rcases Bool.eq_false_or_eq_true (m == 1) with hm | hm
                  all_goals
                    go_wp2_with (first | (go_at_call 23; refine (Hu.out _).mono ?_; rintro _ _ ⟨v2, rfl, rfl⟩))
                    go_ret
                    refine ⟨ret_int (by rw [HR2.out, HG.out]; rfl), ?_⟩
                    repeat (first | exact Below.refl _ _ | exact Nat.le_refl _ | assumption | refine below_ext ?_ ?_ _ | refine Below.alloc ?_ ?_ _ | refine Below.drew ?_ | refine Below.setCell ?_ ?_ _ | refine Ext.le _ ?_ | refine le_alloc ?_ | refine le_drew ?_ | refine le_setCell ?_)
                    all_goals omega
  · have hkb : (t.k != 2) = true := by simp [hk]
    have HK := hide hk
    clear hk
    unfold Ty.cells
    go_enter Try.func20, Try.ntmps20
    go_wp2_with fail
    go_ret
    refine ⟨ret_int (by rw [HR.out]; unfold typT; rw [if_neg HK.out]), ?_⟩
    repeat (first | exact Below.refl _ _ | exact Nat.le_refl _ | assumption | refine below_ext ?_ ?_ _ | refine Below.alloc ?_ ?_ _ | refine Below.drew ?_ | refine Below.setCell ?_ ?_ _ | refine Ext.le _ ?_ | refine le_alloc ?_ | refine le_drew ?_ | refine le_setCell ?_)
    all_goals omega
end Go.Proofs.Ytfebpmaaaiaccaa
