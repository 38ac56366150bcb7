/- The walk of legal.Type. -/
import Derived.Test.YtfebpmaaaiaccaaTyp
import Derived.Test.YtfebpmaaaiaccaaTells
set_option linter.unusedSimpArgs false
set_option linter.unusedVariables false
namespace Go.Proofs.Ytfebpmaaaiaccaa
open Go.RowKit Go.Proofs.Grow

def Ext.new {w : World} (x : Ext w) (o : Obj) : Ext w := ⟨x.val.alloc o, x.below.alloc x.below.size o⟩
theorem of_mem (b1 b2 : Nat) (B : Bool) (g : FuncId) : ∀ u ∈ (#[.func (.func 56) #[] #[.pointer (some ⟨b1, 0, none⟩)], .func (.func 56) #[] #[.pointer (some ⟨b2, 0, none⟩)], .bool B, .func (.func g) #[] #[]] : Array Value).toList, u.oneCell' = true := by
  intro v hv
  simp only [List.mem_cons, List.not_mem_nil, or_false] at hv
  rcases hv with rfl | rfl | rfl | rfl <;> rfl
theorem one_ow (a b : Int) : ∀ u ∈ (#[.int .i64 a, .int .i64 b] : Array Value).toList, u.oneCell' = true := by
  intro v hv
  simp only [List.mem_cons, List.not_mem_nil, or_false] at hv
  rcases hv with rfl | rfl <;> rfl

def NoneIf (c : Nat) (l : List Ow) : Prop := c = 1 → l.length = 0
theorem more_any (t : Ty) (m : Int) (g : FuncId) (h : m = 1 ∧ g = 15 ∨ m ≠ 1 ∧ g = 49) (W : World) : Gives Try.prog g #[.agg t.cells.toArray] W (.bool (moreT t m)) := by
  rcases h with ⟨rfl, rfl⟩ | ⟨h, rfl⟩
  · have := type_any t W
    simpa [moreT] using this
  · have := of1_any t W
    have e : moreT t m = true := by unfold moreT; rw [bne_iff_ne.2 h]; rfl
    rw [e]
    exact this

set_option maxHeartbeats 4000000 in
set_option maxRecDepth 100000 in
theorem legType_any (w : World) (A : Option Addr) (c : Nat) (C : List Cl) (t : Ty) (m : Int) (hl : C.length ≤ 9223372036854775807) (hs : Lies w 7 Cl.cells A C) :
    Gives Try.prog 19 #[.slice A C.length c, .agg t.cells.toArray, .int .i64 m] w (.int .i64 (typT C t m)) := by
  refine Gives.mk ?_
  obtain ⟨r, hr⟩ : ∃ r, r = typT C t m := ⟨_, rfl⟩
  rw [← hr]
  have HR := hide hr
  clear hr
  by_cases hk : t.k = 2
  · obtain ⟨na, hna⟩ : ∃ na, arity C t.cls = na := ⟨_, rfl⟩
    have HF := hide (fun W => of_ex m W)
    have HA := hide (fun (W : World) (hb : Below w.heap.size w W) => arity_any W A c C t.cls hl (hs.below hb))
    rw [hna] at HA
    obtain ⟨l, hlo⟩ := owners_cons t hk
    have Ho := hide (fun W => owners_any t W)
    rw [hlo] at Ho
    have hll : l.length ≤ 3 := by have := owners_le t; rw [hlo] at this; simpa using this
    have HN := hide (show na = arity C t.cls from hna.symm)
    have HO := hide (show t.owners.drop 1 = l by rw [hlo]; rfl)
    obtain ⟨uq, huq⟩ : ∃ uq, uniqT t = uq := ⟨_, rfl⟩
    have Hu := hide (fun W => kunique_any t W)
    rw [huq] at Hu
    obtain ⟨mt, hmt⟩ : ∃ mt, moreT t m = mt := ⟨_, rfl⟩
    have HM := hide (fun g h W => more_any t m g h W)
    rw [hmt] at HM
    have HE := hide (And.intro huq hmt)
    have hkb : (t.k != 2) = false := by simp [hk]
    have HK := hide hk
    clear hk hlo hna hs huq hmt
    unfold Ty.cells at Ho Hu HM ⊢
    go_enter Try.func19, Try.ntmps19
    go_wp2_with fail
    refine (HF.out _).mono ?_
    rintro _ _ ⟨x, b1, b2, g, rfl, hg, rfl, hv1, hv2⟩
    have hz0 : w.heap.size < x.val.heap.size := x.lt (by simp)
    have HG := hide hg
    have HV2 := hide (fun (W : World) (hb : Below x.val.heap.size x.val W) (k : Int) => within_call (hv2.ext ⟨W, hb⟩) k)
    obtain ⟨q, hq⟩ : ∃ q, decide (t.o0.k ∈ firsts m) = q := ⟨_, rfl⟩
    have HV1 := hide (fun (W : World) (hb : Below x.val.heap.size x.val W) => within_call (hv1.ext ⟨W, hb⟩) t.o0.k)
    rw [hq] at HV1
    have HQ := hide hq
    clear hg hv1 hv2 hq
    go_wp2_with (refine wpList_store_new rfl 64 (.tmp 7) (.tmp 18) rfl _ _ _ x.val.heap.size rfl rfl rfl (show _ = some 4 by kernel_rfl) rfl (of_mem b1 b2 _ g) ?_)
    refine (HA.out _ ?_).mono ?_
    · repeat (first | exact Below.refl _ _ | exact Nat.le_refl _ | assumption | refine below_ext ?_ ?_ _ | refine Below.alloc ?_ ?_ _ | refine Below.drew ?_ | refine Below.setCell ?_ ?_ _ | refine Ext.le _ ?_ | refine le_alloc ?_ | refine le_drew ?_ | refine le_setCell ?_)
      all_goals omega
    rintro _ _ ⟨y, rfl, rfl⟩
    have hz1 : w.heap.size < y.val.heap.size := y.lt (by simp; omega)
    have hz2 : x.val.heap.size < y.val.heap.size := y.lt (by simp)
    rcases Bool.eq_false_or_eq_true (decide (na < 0)) with ha | ha
    · go_wp2_with fail
      go_ret
      refine ⟨ret_int (by rw [HR.out]; unfold typT; rw [if_pos HK.out, ← HN.out, if_pos (of_decide_eq_true ha)]), ?_⟩
      repeat (first | exact Below.refl _ _ | exact Nat.le_refl _ | assumption | refine below_ext ?_ ?_ _ | refine Below.alloc ?_ ?_ _ | refine Below.drew ?_ | refine Below.setCell ?_ ?_ _ | refine Ext.le _ ?_ | refine le_alloc ?_ | refine le_drew ?_ | refine le_setCell ?_)
      all_goals omega
    · have HA0 : Hid (¬ na < 0) := of_decide_eq_false ha
      rcases Bool.eq_false_or_eq_true (na != t.n) with hn | hn
      · go_wp2_with fail
        go_ret
        refine ⟨ret_int (by rw [HR.out]; unfold typT; rw [if_pos HK.out, ← HN.out, if_neg (by have := HA0.out; omega), if_neg (by simpa using hn)]), ?_⟩
        repeat (first | exact Below.refl _ _ | exact Nat.le_refl _ | assumption | refine below_ext ?_ ?_ _ | refine Below.alloc ?_ ?_ _ | refine Below.drew ?_ | refine Below.setCell ?_ ?_ _ | refine Ext.le _ ?_ | refine le_alloc ?_ | refine le_drew ?_ | refine le_setCell ?_)
        all_goals omega
      · have HN0 := hide (show na = t.n by simpa using hn)
        go_wp2_with fail
        refine (HV1.out _ ?_).mono ?_
        · repeat (first | exact Below.refl _ _ | exact Nat.le_refl _ | assumption | refine below_ext ?_ ?_ _ | refine Below.alloc ?_ ?_ _ | refine Below.drew ?_ | refine Below.setCell ?_ ?_ _ | refine Ext.le _ ?_ | refine le_alloc ?_ | refine le_drew ?_ | refine le_setCell ?_)
          all_goals omega
        rintro _ _ ⟨rfl, rfl⟩
        cases q
        · go_wp2_with fail
          go_ret
          refine ⟨ret_int (by rw [HR.out]; unfold typT; rw [if_pos HK.out, ← HN.out, if_neg (by have := HA0.out; omega), if_pos HN0.out, if_neg (of_decide_eq_false HQ.out)]), ?_⟩
          repeat (first | exact Below.refl _ _ | exact Nat.le_refl _ | assumption | refine below_ext ?_ ?_ _ | refine Below.alloc ?_ ?_ _ | refine Below.drew ?_ | refine Below.setCell ?_ ?_ _ | refine Ext.le _ ?_ | refine le_alloc ?_ | refine le_drew ?_ | refine le_setCell ?_)
          all_goals omega
        · have HR1 : Hid (r = if l.all (fun o => decide (o.k ∈ behinds m)) = false then 19 else if uq = false then (if mt = true then 0 else 23) else if l.all (fun o => o.k == 4) = true then 0 else 22) := by
            have e := HR.out
            unfold typT typO at e
            rw [if_pos HK.out, ← HN.out, if_neg (by have := HA0.out; omega), if_pos HN0.out, if_pos (of_decide_eq_true HQ.out), HO.out, HE.out.1, HE.out.2] at e
            exact e
          clear HR HQ HN0 HA0 HO HE HV1 HA HF HN HK
          go_wp2_with fail
          refine (Ho.out _).mono ?_
          rintro _ _ ⟨z, A', c', rfl, rfl, h1, h2, h3⟩
          have hz3 : w.heap.size < z.val.heap.size := z.lt hz1
          have hz4 : x.val.heap.size < z.val.heap.size := z.lt hz2
          have h1' : l.length + 1 ≤ c' := by simpa using h1
          have hcut := h3.cut (k := 1) (c := c') (by simp) h1
          obtain ⟨b, off, rfl, _⟩ := h3 0 (by simp)
          clear h3 Ho h1
          obtain ⟨A1, hA1⟩ : ∃ A1 : Option Addr, A1 = (if c' = 1 then some ⟨b, off, none⟩ else some ⟨b, off + 2, none⟩) := ⟨_, rfl⟩
          have HS := hide (show Lies z.val 2 Ow.cells A1 l by
            rw [hA1]
            simpa [Addr.add] using hcut)
          clear hcut
          have hzl : NoneIf c' l := fun e => by omega
          by_cases hc1 : c' = 1
          all_goals
            first | rw [if_pos hc1] at hA1 | rw [if_neg hc1] at hA1
            first | subst hc1 | skip
            go_wp2_with fail
            try rw [← hA1]
            clear hA1
            go_loopw [45] (fun s45 wr => ∃ k : Nat, k ≤ l.length ∧ s45 = .int .i64 k ∧ (∃ u : Ext z.val, wr = u.val) ∧ Hid ((l.take k).all (fun o => decide (o.k ∈ behinds m)) = true)) (fun s45 _ => l.length - (intOf s45).toNat)
            case atStart => exact ⟨0, Nat.zero_le _, rfl, ⟨Ext.here _, rfl⟩, rfl⟩
            case round =>
              obtain ⟨k, hk, rfl, ⟨u, rfl⟩, hall⟩ := hrel
              have hz5 : w.heap.size < u.val.heap.size := u.lt hz3
              have hz6 : x.val.heap.size < u.val.heap.size := u.lt hz4
              by_cases hlt : k < l.length
              · first
                | (exfalso; have := hzl rfl; omega)
                | (
                  obtain ⟨bb, of2, rfl, hbb, hcell⟩ := HS.out k hlt
                  have hlt' : (k : Int) < (l.length : Int) := by omega
                  have HT := hide (List.take_succ_eq_append_getElem hlt)
                  have HMm := hide (List.getElem_mem hlt)
                  obtain ⟨o, ho⟩ : ∃ o, o = l[k] := ⟨_, rfl⟩
                  rw [← ho] at hcell HT HMm
                  have hrange : Hid (u.val.rangeAt bb (of2 + k * 2) [.int .i64 o.k, .int .i64 o.n]) := fun j v h => (u.cell hbb).trans (hcell j v h)
                  obtain ⟨q2, hq2⟩ : ∃ q2, decide (o.k ∈ behinds m) = q2 := ⟨_, rfl⟩
                  have HV := hide (fun (W : World) (hb : Below x.val.heap.size x.val W) => HV2.out W hb o.k)
                  rw [hq2] at HV
                  have HQ2 := hide hq2
                  have HL := hide hlt
                  clear hlt hcell ho hq2
                  go_wp2_with (first | (refine wpList_load_mid rfl 23 (.tmp 48) rfl _ _ rfl _ _ hrange.out Try.underlying23 rfl (by kernel_rfl) ?_) | (refine wpList_load_mid rfl 23 (.tmp 47) rfl bb (of2 + k * 2) rfl [.int .i64 o.k, .int .i64 o.n] _ hrange.out Try.underlying23 rfl (by kernel_rfl) ?_))
                  refine (HV.out _ ?_).mono ?_
                  · repeat (first | exact Below.refl _ _ | exact Nat.le_refl _ | assumption | refine below_ext ?_ ?_ _ | refine Below.alloc ?_ ?_ _ | refine Below.drew ?_ | refine Below.setCell ?_ ?_ _ | refine Ext.le _ ?_ | refine le_alloc ?_ | refine le_drew ?_ | refine le_setCell ?_)
                    all_goals omega
                  rintro _ _ ⟨rfl, rfl⟩
                  cases q2
                  · go_wp2_with fail
                    go_ret
                    have hbad : l.all (fun o => decide (o.k ∈ behinds m)) = false := List.all_eq_false.2 ⟨o, HMm.out, by rw [HQ2.out]; decide⟩
                    refine ⟨ret_int (by rw [HR1.out, if_pos hbad]), ?_⟩
                    repeat (first | exact Below.refl _ _ | exact Nat.le_refl _ | assumption | refine below_ext ?_ ?_ _ | refine Below.alloc ?_ ?_ _ | refine Below.drew ?_ | refine Below.setCell ?_ ?_ _ | refine Ext.le _ ?_ | refine le_alloc ?_ | refine le_drew ?_ | refine le_setCell ?_)
                    all_goals omega
                  · go_wp2_with fail
                    go_roundw
                    case rel =>
                      refine ⟨k + 1, HL.out, by go_num, ⟨Ext.new u _, rfl⟩, ?_⟩
                      show List.all _ _ = true
                      rw [HT.out, List.all_append, hall.out]
                      simp [HQ2.out]
                    case measure => have := HL.out; simp [intOf]; omega
                  )
              · obtain rfl : k = l.length := by omega
                have hlt' : ¬ (l.length : Int) < (l.length : Int) := by omega
                have HR2 : Hid (r = if uq = false then (if mt = true then 0 else 23) else if l.all (fun o => o.k == 4) = true then 0 else 22) := by
                  have e := hall.out
                  rw [List.take_length] at e
                  have e2 := HR1.out
                  rw [if_neg (by rw [e]; decide)] at e2
                  exact e2
                clear HR1 hall
                go_wp2_with fail
                refine (Hu.out _).mono ?_
                rintro _ _ ⟨v, rfl, rfl⟩
                have hz7 : w.heap.size < v.val.heap.size := v.lt hz5
                have hz8 : x.val.heap.size < v.val.heap.size := v.lt hz6
                cases uq
                · have HMg := hide (HM.out g HG.out)
                  have hgg : g = 15 ∨ g = 49 := by rcases HG.out with h | h; exact .inl h.2; exact .inr h.2
                  clear HM HG
                  rcases hgg with rfl | rfl
                  all_goals
                    go_wp2_with fail
                    refine (HMg.out _).mono ?_
                    rintro _ _ ⟨v2, rfl, rfl⟩
                    cases mt
                    · go_wp2_with fail
                      go_ret
                      refine ⟨ret_int (by rw [HR2.out]; rfl), ?_⟩
                      repeat (first | exact Below.refl _ _ | exact Nat.le_refl _ | assumption | refine below_ext ?_ ?_ _ | refine Below.alloc ?_ ?_ _ | refine Below.drew ?_ | refine Below.setCell ?_ ?_ _ | refine Ext.le _ ?_ | refine le_alloc ?_ | refine le_drew ?_ | refine le_setCell ?_)
                      all_goals omega
                    · go_wp2_with fail
                      go_ret
                      refine ⟨ret_int (by rw [HR2.out]; rfl), ?_⟩
                      repeat (first | exact Below.refl _ _ | exact Nat.le_refl _ | assumption | refine below_ext ?_ ?_ _ | refine Below.alloc ?_ ?_ _ | refine Below.drew ?_ | refine Below.setCell ?_ ?_ _ | refine Ext.le _ ?_ | refine le_alloc ?_ | refine le_drew ?_ | refine le_setCell ?_)
                      all_goals omega
                · clear HM HG HV2 Hu
                  have HSv := hide (HS.out.ext (u.step v.below))
                  go_wp2_with fail
                  go_loopw [66] (fun s66 wr => ∃ k : Nat, k ≤ l.length ∧ s66 = .int .i64 k ∧ (∃ u : Ext v.val, wr = u.val) ∧ Hid ((l.take k).all (fun o => o.k == 4) = true)) (fun s66 _ => l.length - (intOf s66).toNat)
                  case atStart => exact ⟨0, Nat.zero_le _, rfl, ⟨Ext.here _, rfl⟩, rfl⟩
                  case round =>
                    obtain ⟨k2, hk2, rfl, ⟨u2, rfl⟩, hall⟩ := hrel
                    by_cases hlt : k2 < l.length
                    · first
                      | (exfalso; have := hzl rfl; omega)
                      | (
                        obtain ⟨bb, of2, rfl, hbb, hcell⟩ := HSv.out k2 hlt
                        have hlt' : (k2 : Int) < (l.length : Int) := by omega
                        have HT := hide (List.take_succ_eq_append_getElem hlt)
                        have HMm := hide (List.getElem_mem hlt)
                        obtain ⟨o, ho⟩ : ∃ o, o = l[k2] := ⟨_, rfl⟩
                        rw [← ho] at hcell HT HMm
                        have hrange : Hid (u2.val.rangeAt bb (of2 + k2 * 2) [.int .i64 o.k, .int .i64 o.n]) := fun j v h => (u2.cell hbb).trans (hcell j v h)
                        have HL := hide hlt
                        clear hlt hcell ho
                        rcases Bool.eq_false_or_eq_true (o.k != 4) with h4 | h4
                        · have HQ2 := hide h4
                          go_wp2_with (first | (refine wpList_load_mid rfl 23 (.tmp 68) rfl bb (of2 + k2 * 2) rfl [.int .i64 o.k, .int .i64 o.n] _ hrange.out Try.underlying23 rfl (by kernel_rfl) ?_))
                          go_ret
                          have hbad : l.all (fun o => o.k == 4) = false := List.all_eq_false.2 ⟨o, HMm.out, by have := HQ2.out; simpa using this⟩
                          refine ⟨ret_int (by rw [HR2.out, hbad]; rfl), ?_⟩
                          repeat (first | exact Below.refl _ _ | exact Nat.le_refl _ | assumption | refine below_ext ?_ ?_ _ | refine Below.alloc ?_ ?_ _ | refine Below.drew ?_ | refine Below.setCell ?_ ?_ _ | refine Ext.le _ ?_ | refine le_alloc ?_ | refine le_drew ?_ | refine le_setCell ?_)
                          all_goals omega
                        · have HQ2 := hide h4
                          go_wp2_with (first | (refine wpList_load_mid rfl 23 (.tmp 68) rfl bb (of2 + k2 * 2) rfl [.int .i64 o.k, .int .i64 o.n] _ hrange.out Try.underlying23 rfl (by kernel_rfl) ?_))
                          go_roundw
                          case rel =>
                            refine ⟨k2 + 1, HL.out, by go_num, ⟨Ext.new u2 _, rfl⟩, ?_⟩
                            show List.all _ _ = true
                            rw [HT.out, List.all_append, hall.out]
                            have := HQ2.out
                            simpa using this
                          case measure => have := HL.out; simp [intOf]; omega
                        )
                    · obtain rfl : k2 = l.length := by omega
                      have hlt' : ¬ (l.length : Int) < (l.length : Int) := by omega
                      have hgood : Hid (l.all (fun o => o.k == 4) = true) := by
                        have e := hall.out
                        rw [List.take_length] at e
                        exact e
                      clear hall
                      go_wp2_with fail
                      go_ret
                      refine ⟨ret_int (by rw [HR2.out, hgood.out]; rfl), ?_⟩
                      repeat (first | exact Below.refl _ _ | exact Nat.le_refl _ | assumption | refine below_ext ?_ ?_ _ | refine Below.alloc ?_ ?_ _ | refine Below.drew ?_ | refine Below.setCell ?_ ?_ _ | refine Ext.le _ ?_ | refine le_alloc ?_ | refine le_drew ?_ | refine le_setCell ?_)
                      all_goals omega
  · have hkb : (t.k != 2) = true := by simp [hk]
    have HK := hide hk
    clear hk
    unfold Ty.cells
    go_enter Try.func19, Try.ntmps19
    go_wp2_with fail
    go_ret
    refine ⟨ret_int (by rw [HR.out]; unfold typT; rw [if_neg HK.out]), ?_⟩
    repeat (first | exact Below.refl _ _ | exact Nat.le_refl _ | assumption | refine below_ext ?_ ?_ _ | refine Below.alloc ?_ ?_ _ | refine Below.drew ?_ | refine Below.setCell ?_ ?_ _ | refine Ext.le _ ?_ | refine le_alloc ?_ | refine le_drew ?_ | refine le_setCell ?_)
    all_goals omega
end Go.Proofs.Ytfebpmaaaiaccaa
