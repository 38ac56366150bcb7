/- The walks of arena.body and its iterator. -/
import Derived.Test.YtmpdmelkbemabaaGreatRows
import Derived.Test.YtmpdmelkbemabaaGreatSlotP
import Derived.BigGuardPart
import Derived.Shelf.Abstract
set_option linter.unusedSimpArgs false
set_option linter.unusedVariables false
namespace Go.Proofs.YtmpdmelkbemabaaGreat
open Go.RowKit Go.Proofs.Grow
attribute [local go_sem] Oper.semAt_some

def InnerOk (l : List St) : Prop := ∀ (A : Option Addr) (cap : Nat) (d : Int),
    Pushes Tryz.prog 45 (fun y => #[.slice A l.length cap, .int .i64 d, y]) Li.args (fun W => RdB W A l) isTrue isFalse (liAll l d (bkA A) (ofA A))

set_option maxHeartbeats 2000000 in
set_option maxRecDepth 100000 in
theorem inner_step (l : List St) (ihb : ∀ s ∈ l, InnerOk s.body) (ihe : ∀ s ∈ l, InnerOk s.els) : InnerOk l := by
  intro A cap d n ln J Jx pre O W hH h0
  have HH := hide hH
  have IHB := hide ihb
  have IHE := hide ihe
  have hl63 : l.length ≤ 9223372036854775807 := by have := (HH.out.read _ _ _ h0).len; unfold maxLen at this; omega
  have hj0 := hide h0
  clear hH ihb ihe h0
  refine callsIn_of_wp Tryz.func45 rfl trivial ?_ rfl
  simp only [Tryz.ntmps45, List.size_toArray, List.length_cons, List.length_nil, Nat.reduceAdd, Nat.reduceSub, Array.replicate_succ, Array.replicate_zero, List.push_toArray, List.append_toArray, List.nil_append, List.cons_append]
  gi_wp2
  gi_loopw [7, 10] (fun s7 s10 wr => ∃ (k : Nat) (O' : Nat → Prop), k ≤ l.length ∧ s10 = .int .i64 k ∧
    Hid (SubO O W.heap.size O' ∧ KeepsBut O W wr ∧ J (pre ++ liAll (l.take k) d (bkA A) (ofA A)) O' wr)) (fun _ s10 _ => l.length - (intOf s10).toNat)
  case atStart => exact ⟨0, O, Nat.zero_le _, rfl, SubO.refl _ _, KeepsBut.refl _ _, by simpa [liAll] using hj0.out⟩
  case round =>
    obtain ⟨k, O', hk, rfl, hF⟩ := hrel
    clear hj0
    by_cases hlt : k < l.length
    · obtain ⟨b, off, hA, hb, hc⟩ := (HH.out.read _ _ _ hF.out.2.2).at_ k hlt
      have hlt' : (k : Int) < (l.length : Int) := by omega
      have HT := liAll_take d (bkA A) (ofA A) l k hlt
      rw [liOne_eq] at HT
      have HP := hide (liAll_prefix d (bkA A) (ofA A) l (k + 1))
      have hmem := List.getElem_mem hlt
      have HRd : Hid (∀ s O X, J s O X → X.cell? ⟨b, off + k * 23 + 20, none⟩ = some (.slice l[k].bA l[k].body.length l[k].bc) ∧ X.cell? ⟨b, off + k * 23 + 21, none⟩ = some (.slice l[k].eA l[k].els.length l[k].ec)) := fun s O X h => by
        obtain ⟨b', off', hA', _, _, h20, h21, _⟩ := (HH.out.read _ _ _ h).at_ k hlt
        rw [hA] at hA'
        cases hA'
        exact ⟨h20, h21⟩
      obtain ⟨e, he⟩ : ∃ e, e = l[k] := ⟨_, rfl⟩
      rw [← he] at HT hmem HRd
      have IHb := hide (IHB.out e hmem)
      have IHe := hide (IHE.out e hmem)
      have HM := hide hmem
      have HT9 := hide HT
      have hlt9 := hide hlt
      subst hA
      clear hc he HT hmem hlt
      obtain ⟨fn, tmps, assign, body, hy, hR⟩ := HH.out.round (n - 1) _ ⟨d, b, off + k * 23, e⟩ O' wr hF.out.2.2 (by
        refine List.IsPrefix.trans ?_ HP.out
        rw [HT9.out]
        exact (List.prefix_append_right_inj _).2 (by simp [bkA, ofA]))
      dsimp only [Li.args] at hy
      have HX := hide (show liAll l d (bkA (some ⟨b, off, none⟩)) (ofA (some ⟨b, off, none⟩)) = liAll l d b off from rfl)
      have hJ9 := hF.out.2.2
      have HPx : Hid (liAll (l.take k) d b off ++ (⟨d, b, off + k * 23, e⟩ :: (liAll e.body (wrap64 (d + 1)) (bkA e.bA) (ofA e.bA) ++ liAll e.els (wrap64 (d + 1)) (bkA e.eA) (ofA e.eA))) <+: liAll l d b off) := by
        show _ <+: _
        have h := HP.out
        rw [HT9.out] at h
        exact h
      have HTk : Hid (liAll (l.take (k + 1)) d b off = liAll (l.take k) d b off ++ (⟨d, b, off + k * 23, e⟩ :: (liAll e.body (wrap64 (d + 1)) (bkA e.bA) (ofA e.bA) ++ liAll e.els (wrap64 (d + 1)) (bkA e.eA) (ofA e.eA)))) := HT9.out
      have HF1 := hide hF.out.1
      have HF2 := hide hF.out.2.1
      clear hF HP HT9 hJ9
      gi_wp2
      refine ⟨fun h => (by simp [Fence.wide] at h), ?_⟩
      refine hR.mono ?_
      clear hy hR
      rintro e3 W3 ⟨O3, hs3, hk3, ⟨he, hJ3⟩ | ⟨he, q, hq, hJ3⟩⟩
      · obtain rfl : e3 = .returned (.bool true) := he
        have c20 := (HRd.out _ _ _ hJ3).1
        have hw3 : W.heap.size ≤ W3.heap.size := Nat.le_trans HF2.out.size hk3.size
        have hB := IHb.out e.bA e.bc (wrap64 (d + 1)) (n - 1) ln J Jx _ O3 W3 (by
          refine HH.out.mono (ys := liAll e.body (wrap64 (d + 1)) (bkA e.bA) (ofA e.bA)) hw3 (fun X hX => hX.body HM.out) (liAll (l.take k) d b off ++ [⟨d, b, off + k * 23, e⟩]) ?_
          refine List.IsPrefix.trans ?_ HPx.out
          rw [List.append_assoc]
          refine (List.prefix_append_right_inj _).2 ?_
          rw [List.singleton_append, List.cons_prefix_cons]
          exact ⟨rfl, List.prefix_append _ _⟩) (by rw [← List.append_assoc]; exact hJ3)
        have HB := hide hB
        have HS3 := hide hs3
        have HK3 := hide hk3
        have HW3 := hide hw3
        clear hB hJ3 hs3 hk3 hw3
        gi_wp2
        refine ⟨trivial, fun h => (by simp [Fence.wide] at h), ?_⟩
        refine HB.out.mono ?_
        clear HB
        rintro e4 W4 ⟨O4, hs4, hk4, ⟨he, hJ4⟩ | ⟨he, q, hq, hJ4⟩⟩
        · obtain rfl : e4 = .returned (.bool true) := he
          have c21 := (HRd.out _ _ _ hJ4).2
          have hw4 : W.heap.size ≤ W4.heap.size := Nat.le_trans HW3.out hk4.size
          have hB := IHe.out e.eA e.ec (wrap64 (d + 1)) (n - 1) ln J Jx _ O4 W4 (by
            refine HH.out.mono (ys := liAll e.els (wrap64 (d + 1)) (bkA e.eA) (ofA e.eA)) hw4 (fun X hX => hX.els HM.out) (liAll (l.take k) d b off ++ (⟨d, b, off + k * 23, e⟩ :: liAll e.body (wrap64 (d + 1)) (bkA e.bA) (ofA e.bA))) ?_
            refine List.IsPrefix.trans ?_ HPx.out
            rw [List.append_assoc]
            exact List.prefix_refl _) (by simpa using hJ4)
          have HB := hide hB
          have HS4 := hide (HS3.out.trans hs4 HK3.out.size)
          have HK4 := hide (HK3.out.trans hk4 HS3.out)
          have HW4 := hide hw4
          clear hB hJ4 hs4 hk4 hw4 c20 HS3 HK3 HW3
          gi_wp2
          refine ⟨trivial, fun h => (by simp [Fence.wide] at h), ?_⟩
          refine HB.out.mono ?_
          clear HB
          rintro e5 W5 ⟨O5, hs5, hk5, ⟨he, hJ5⟩ | ⟨he, q, hq, hJ5⟩⟩
          · obtain rfl : e5 = .returned (.bool true) := he
            have HG : Hid (SubO O W.heap.size O5 ∧ KeepsBut O W W5 ∧ J (pre ++ liAll (l.take (k + 1)) d b off) O5 W5) := by
              refine ⟨HF1.out.trans (HS4.out.trans hs5 HK4.out.size) HF2.out.size, HF2.out.trans (HK4.out.trans hk5 HS4.out) HF1.out, ?_⟩
              rw [HTk.out]
              simpa using hJ5
            clear hJ5 hs5 hk5 HS4 HK4 HW4 c21
            gi_wp2
            go_roundw
            case rel => exact ⟨k + 1, O5, hlt9.out, by go_num, HG⟩
            case measure => have := hlt9.out; simp [intOf]; omega
          · obtain rfl : e5 = .returned (.bool false) := he
            have HG : Hid (SubO O W.heap.size O5 ∧ KeepsBut O W W5 ∧ ∃ q, q <+: liAll l d b off ∧ Jx (pre ++ q) O5 W5) := by
              refine ⟨HF1.out.trans (HS4.out.trans hs5 HK4.out.size) HF2.out.size, HF2.out.trans (HK4.out.trans hk5 HS4.out) HF1.out, liAll (l.take k) d b off ++ (⟨d, b, off + k * 23, e⟩ :: (liAll e.body (wrap64 (d + 1)) (bkA e.bA) (ofA e.bA) ++ q)), ?_, by simpa using hJ5⟩
              refine List.IsPrefix.trans ?_ HPx.out
              refine (List.prefix_append_right_inj _).2 ?_
              rw [List.cons_prefix_cons]
              exact ⟨rfl, (List.prefix_append_right_inj _).2 hq⟩
            clear hJ5 hs5 hk5 HS4 HK4 HW4 c21
            gi_wp2
            go_ret
            exact ⟨O5, HG.out.1, HG.out.2.1, .inr ⟨rfl, HG.out.2.2⟩⟩
        · obtain rfl : e4 = .returned (.bool false) := he
          have HG : Hid (SubO O W.heap.size O4 ∧ KeepsBut O W W4 ∧ ∃ q, q <+: liAll l d b off ∧ Jx (pre ++ q) O4 W4) := by
            refine ⟨HF1.out.trans (HS3.out.trans hs4 HK3.out.size) HF2.out.size, HF2.out.trans (HK3.out.trans hk4 HS3.out) HF1.out, liAll (l.take k) d b off ++ (⟨d, b, off + k * 23, e⟩ :: q), ?_, by simpa using hJ4⟩
            refine List.IsPrefix.trans ?_ HPx.out
            refine (List.prefix_append_right_inj _).2 ?_
            rw [List.cons_prefix_cons]
            exact ⟨rfl, hq.trans (List.prefix_append _ _)⟩
          clear hJ4 hs4 hk4 HS3 HK3 HW3 c20
          gi_wp2
          refine ⟨trivial, ?_⟩
          gi_wp2
          go_ret
          exact ⟨O4, HG.out.1, HG.out.2.1, .inr ⟨rfl, HG.out.2.2⟩⟩
      · obtain rfl : e3 = .returned (.bool false) := he
        have HG : Hid (SubO O W.heap.size O3 ∧ KeepsBut O W W3 ∧ ∃ q, q <+: liAll l d b off ∧ Jx (pre ++ q) O3 W3) := by
          refine ⟨HF1.out.trans hs3 HF2.out.size, HF2.out.trans hk3 HF1.out, liAll (l.take k) d b off ++ q, ?_, by rw [← List.append_assoc]; exact hJ3⟩
          refine List.IsPrefix.trans ?_ HPx.out
          refine (List.prefix_append_right_inj _).2 ?_
          exact hq.trans (by simp)
        clear hJ3 hs3 hk3
        gi_wp2
        refine ⟨trivial, ?_⟩
        gi_wp2
        refine ⟨trivial, ?_⟩
        gi_wp2
        go_ret
        exact ⟨O3, HG.out.1, HG.out.2.1, .inr ⟨rfl, HG.out.2.2⟩⟩
    · obtain rfl : k = l.length := by omega
      have hlt' : ¬ (l.length : Int) < (l.length : Int) := by omega
      have HG : Hid (SubO O W.heap.size O' ∧ KeepsBut O W wr ∧ J (pre ++ liAll l d (bkA A) (ofA A)) O' wr) := ⟨hF.out.1, hF.out.2.1, by have := hF.out.2.2; rwa [List.take_length] at this⟩
      clear hF
      gi_wp2
      go_ret
      exact ⟨O', HG.out.1, HG.out.2.1, .inl ⟨rfl, HG.out.2.2⟩⟩

theorem inner_ok : ∀ l : List St, InnerOk l := fun l => inner_step l
  (fun s hs => have h1 := List.sizeOf_lt_of_mem hs; have h2 := s.body_size
               inner_ok s.body)
  (fun s hs => have h1 := List.sizeOf_lt_of_mem hs; have h2 := s.els_size
               inner_ok s.els)
termination_by l => SizeOf.sizeOf l
end Go.Proofs.YtmpdmelkbemabaaGreat
set_option linter.unusedSimpArgs false
set_option linter.unusedVariables false
namespace Go.Proofs.YtmpdmelkbemabaaGreat
open Go.RowKit Go.Proofs.Grow
attribute [local go_sem] Oper.semAt_some

set_option maxRecDepth 100000 in
theorem body1_push (B : Nat) (A : Option Addr) (c : Nat) (l : List St) :
    Pushes Tryz.prog 44 (fun y => #[y] ++ #[.pointer (some ⟨B, 0, none⟩)]) Li.args (fun W => RdB W A l ∧ W.cell? ⟨B, 15, none⟩ = some (.slice A l.length c)) isDone isDone (liAll l 0 (bkA A) (ofA A)) := by
  intro n ln J Jx pre O W hH h0
  have hc := (hH.read _ _ _ h0).2
  have hC := hide (inner_ok l A c 0 (n - 1) ln J Jx pre O W (by have := hH.mono (ys := liAll l 0 (bkA A) (ofA A)) (Nat.le_refl _) (fun X hX => hX.1) [] (List.prefix_refl _); simpa using this) h0)
  clear hH h0
  refine callsIn_of_wp Tryz.func44 rfl trivial ?_ rfl
  simp only [Tryz.ntmps44, List.size_toArray, List.length_cons, List.length_nil, Nat.reduceAdd, Nat.reduceSub, Array.replicate_succ, Array.replicate_zero, List.push_toArray, List.append_toArray, List.nil_append, List.cons_append]
  gi_wp2
  refine ⟨trivial, fun h => (by simp [Fence.wide] at h), ?_⟩
  refine hC.out.mono ?_
  rintro e W' ⟨O', hs, hk, ⟨he, hJ⟩ | ⟨he, q, hq, hJ⟩⟩
  · obtain rfl : e = .returned (.bool true) := he
    have HG := hide (And.intro hs (And.intro hk hJ))
    clear hs hk hJ
    gi_wp2
    go_end0
    exact ⟨O', HG.out.1, HG.out.2.1, .inl ⟨⟨_, rfl⟩, HG.out.2.2⟩⟩
  · obtain rfl : e = .returned (.bool false) := he
    have HG := hide (And.intro hs (And.intro hk hJ))
    clear hs hk hJ
    gi_wp2
    go_end0
    exact ⟨O', HG.out.1, HG.out.2.1, .inr ⟨⟨_, rfl⟩, q, hq, HG.out.2.2⟩⟩

/-- arena.body: its closure over a copy of the method. -/
theorem body_seq (m : Me) (w : World) : Calls Tryz.prog 27 #[.agg m.cells.toArray] w fun e w' => e = .returned (.func (.func 44) #[] #[.pointer (some ⟨w.heap.size, 0, none⟩)]) ∧ w' = w.alloc (.cells m.cells.toArray 43) := by
  obtain ⟨v, hv⟩ : ∃ v, v = m.cells.toArray := ⟨_, rfl⟩
  rw [← hv]
  have HV := hide hv
  clear hv
  go_enter Tryz.func27, Tryz.ntmps27
  go_wp2
  go_ret
  exact ⟨rfl, rfl⟩
end Go.Proofs.YtmpdmelkbemabaaGreat
