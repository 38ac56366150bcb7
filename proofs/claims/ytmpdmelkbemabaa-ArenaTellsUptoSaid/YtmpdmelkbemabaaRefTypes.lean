/- The walk of demesneref12.Types. -/
import Derived.Test.YtmpdmelkbemabaaRtL3
set_option linter.unusedSimpArgs false
set_option linter.unusedVariables false
namespace Go.Proofs.Grow
open Go.RowKit
theorem rnP_prefix (l : List Cl) (k : Nat) : rnP (l.take k) <+: rnP l := by
  have h : rnP l = rnP (l.take k ++ l.drop k) := by rw [List.take_append_drop]
  rw [h]
  unfold rnP
  rw [List.mapIdx_append, List.flatten_append]
  exact List.prefix_append _ _
end Go.Proofs.Grow
namespace Go.Proofs.Ytmpdmelkbemabaa
open Go.RowKit Go.Proofs.Grow
set_option maxHeartbeats 0 in
set_option maxRecDepth 1000000 in
theorem refTypes_any (w : World) (A : Option Addr) (c : Nat) (l : List Cl) (hl63 : l.length ≤ 9223372036854775807) (hs : Lies w 7 Cl.cells A l) (hin : ∀ cl ∈ l, ClIn w cl) (hn : (rnP l).length ≤ 1000000000000)
    (hb : ∀ cl ∈ l, ∀ m ∈ cl.methods, (liAll m.body 0 (bkA m.bA) (ofA m.bA)).length ≤ 400000000000) :
    GivesOwn Try.prog 8 #[.slice A l.length c] w 40 15 Nt.cells (rnP l) := by
  unfold GivesOwn
  obtain ⟨i0, z0, hi0, hz0, hz1, hz2, hzs⟩ := info_row infoRn
  have HS := hide hs
  have HI := hide hin
  have HN := hide hn
  have HB := hide hb
  clear hs hin hn hb
  go_enter Try.func8, Try.ntmps8
  go_wp2_with fail
  go_loopw [3, 4] (fun v s4 wr => ∃ k : Nat, s4 = .int .i64 k ∧ k ≤ l.length ∧ ∃ x : Ext w, wr = x.val ∧ Hid (Grow.Own x.val w.heap.size 40 15 Nt.cells v (rnP (l.take k)))) (fun _ s4 _ => l.length - (intOf s4).toNat)
  case atStart => exact ⟨0, rfl, Nat.zero_le _, Ext.here w, rfl, (show Grow.Own _ _ _ _ _ _ _ by simpa [rnP] using Own.nil)⟩
  case round =>
    obtain ⟨k, rfl, hk, x, rfl, hown⟩ := hrel
    by_cases hlt : k < l.length
    · obtain ⟨b, off, hA, hb, hcell⟩ := HS.out k hlt
      have hlt' : (k : Int) < (l.length : Int) := by omega
      have hmem := List.getElem_mem hlt
      have HT := rnP_take l k hlt
      have hpl := (rnP_prefix l (k + 1)).length_le
      obtain ⟨cl, hcl⟩ : ∃ cl, cl = l[k] := ⟨_, rfl⟩
      rw [← hcl] at hcell hmem HT
      have hIn := hide (HI.out cl hmem)
      have HBm := hide (HB.out cl hmem)
      have HLen : Hid ((rnP (l.take k)).length + cl.fields.length + (rnMs k cl.methods).length ≤ 1000000000000) := by
        rw [HT] at hpl
        have := HN.out
        unfold rnC at hpl
        simp only [List.length_append, rnV, List.length_mapIdx] at hpl
        show _ ≤ _
        omega
      have HT9 := hide HT
      have hlt9 := hide hlt
      obtain ⟨T, hT⟩ : ∃ T, T = rnP (l.take k) := ⟨_, rfl⟩
      rw [← hT] at hown HLen HT9
      obtain ⟨F, hF⟩ : ∃ F, F = cl.fields := ⟨_, rfl⟩
      obtain ⟨M, hM⟩ : ∃ M, M = cl.methods := ⟨_, rfl⟩
      have HF : Hid (Lies w 13 Va.cells cl.fA F) := by show Lies _ _ _ _ _; rw [hF]; exact hIn.out.fields
      have HM : Hid (Lies w 17 Me.cells cl.mA M) := by show Lies _ _ _ _ _; rw [hM]; exact hIn.out.methods
      have HMI : Hid (∀ m ∈ M, MeIn w m) := by show ∀ m ∈ M, _; rw [hM]; exact hIn.out.each
      have HMB : Hid (∀ m ∈ M, (liAll m.body 0 (bkA m.bA) (ofA m.bA)).length ≤ 400000000000) := by show ∀ m ∈ M, _; rw [hM]; exact HBm.out
      have hF63 : F.length ≤ 9223372036854775807 := by rw [hF]; have h1 := hIn.out.fc; have h2 := hIn.out.fm; unfold maxLen at h2; omega
      have hM63 : M.length ≤ 9223372036854775807 := by rw [hM]; have h1 := hIn.out.mc; have h2 := hIn.out.mm; unfold maxLen at h2; omega
      rw [← hF, ← hM] at HLen
      have p4 : Hid (∀ y : Ext w, y.val.cell? ⟨b, off + k * 7 + 4, none⟩ = some (.slice cl.fA F.length cl.fc)) := fun y => by rw [y.cell hb, hF]; exact hcell 4 _ rfl
      have p5 : Hid (∀ y : Ext w, y.val.cell? ⟨b, off + k * 7 + 5, none⟩ = some (.slice cl.mA M.length cl.mc)) := fun y => by rw [y.cell hb, hM]; exact hcell 5 _ rfl
      have HTn : Hid (rnP (l.take (k + 1)) = T ++ rnV k (-1) F ++ rnMs k M) := by show _ = _; rw [HT9.out, hF, hM, rnC, List.append_assoc]
      subst hA
      have hL2 : Hid (T.length + F.length ≤ 1000000000000) := by have := HLen.out; show _ ≤ _; omega
      have hL3 : Hid ((T ++ rnV k (-1) F).length + (rnMs k M).length ≤ 1000000000000) := by have := HLen.out; show _ ≤ _; simp only [List.length_append, rnV, List.length_mapIdx]; omega
      clear hcell hcl hmem HT hpl hlt hT hF hM
      go_wp2_with fail
      refine rt_l2 w k b off l.length c hlt' F cl.fA cl.fc T i0 z0 hi0 hz0 hz1 hz2 hzs hF63 hl63 hL2 hb p4 HF x _ hown _ _ _ _ _ _ _ _ _ _ _ _ _ _ _ _ _ _ _ _ _ _ _ _ _ _ _ _ _ _ _ _ _ _ _ _ _ _ _ _ _ _ _ _ _ _ _ _ _ _ _ _ _ _ _ _ _ _ _ _ _ _ _ _ _ _ _ _ _ _ _ _ _ _ _ _ _ _ _ _ _ _ _ _ _ _ _ _ _ _ _ _ _ _ _ _ _ _ _ _ _ _ _ _ _ _ _ _ _ _ _ _ _ _ _ _ _ _ _ _ _ _ _ _ _ _ _ _ _ _ _ _ _ _ ?_
      intro r3 r5 r6 r19 r20 r21 r22 r23 r24 r25 r26 r27 r28 r29 r30 r31 r32 r33 r34 r35 r36 r37 r38 r39 r40 r41 r42 r43 r44 r45 r46 x2 hO2
      go_wp2_with fail
      refine rt_l3 w k b off l.length c hlt' M cl.mA cl.mc (T ++ rnV k (-1) F) i0 z0 hi0 hz0 hz1 hz2 hzs hM63 hl63 hL3 hb p5 HM HMI HMB x2 r3 hO2 _ _ _ _ _ _ _ _ _ _ _ _ _ _ _ _ _ _ _ _ _ _ _ _ _ _ _ _ _ _ _ _ _ _ _ _ _ _ _ _ _ _ _ _ _ _ _ _ _ _ _ _ _ _ _ _ _ _ _ _ _ _ _ _ _ _ _ _ _ _ _ _ _ _ _ _ _ _ _ _ _ _ _ _ _ _ _ _ _ _ _ _ _ _ _ _ _ _ _ _ _ _ _ _ _ _ _ _ _ _ _ _ _ _ _ _ _ _ _ _ _ _ _ _ _ _ _ _ _ _ _ _ _ _ (fun _ _ _ _ _ h => h) ?_
      intro z3 z7 z8 z9 z10 z11 z12 z47 z48 z49 z50 z51 z52 z53 z54 z55 z56 z57 z58 z59 z60 z61 z62 z63 z64 z65 z66 z67 z68 z69 z70 z71 z72 z73 z74 z75 z76 z77 z78 z79 z80 z81 z82 z83 z84 z85 z86 z87 z88 z89 z90 z91 z92 z93 z94 z95 z96 z97 z98 z99 z100 z101 z102 z103 z104 z105 z106 z107 z108 z109 z110 z111 z112 z113 z114 z115 z116 z117 z118 z119 z120 z121 z122 z123 z124 z125 z126 z127 z128 z129 z130 z131 z132 z133 z134 z135 x3 hO3
      have hO9 : Hid (Grow.Own x3.val w.heap.size 40 15 Nt.cells z3 (rnP (l.take (k + 1)))) := by show Grow.Own _ _ _ _ _ _ _; rw [HTn.out]; exact hO3.out
      go_wp2_with fail
      go_roundw
      case rel => exact ⟨k + 1, by go_num, Nat.succ_le_of_lt hlt9.out, x3, rfl, hO9⟩
      case measure => have := hlt9.out; simp [intOf]; omega
    · obtain rfl : k = l.length := Nat.le_antisymm hk (Nat.le_of_not_lt hlt)
      have hlt' : ¬ (l.length : Int) < (l.length : Int) := by omega
      have hO9 : Hid (Grow.Own x.val w.heap.size 40 15 Nt.cells u3 (rnP l)) := by have := hown.out; rw [List.take_length] at this; exact this
      clear hown
      go_wp2_with fail
      go_ret
      exact ⟨x, _, rfl, rfl, hO9.out⟩
end Go.Proofs.Ytmpdmelkbemabaa
