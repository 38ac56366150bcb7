/- The statements of a program, each with its place; the walk of demesneref12.Stmts. -/
import Derived.Test.YtmpdmelkbemabaaRefNotes
import Derived.Test.YtmpdmelkbemabaaCls
import Derived.Test.YtmpdmelkbemabaaRtL5
set_option linter.unusedSimpArgs false
set_option linter.unusedVariables false
namespace Go.Proofs.Ytmpdmelkbemabaa
open Go.RowKit Go.Proofs.Grow

/-- The lines of a method, of a class, of a program. -/
def lnM (i k : Int) (m : Me) : List Ln := (liAll m.body 0 (bkA m.bA) (ofA m.bA)).map (Li.ln i k)
def lnMs (i : Int) (l : List Me) : List Ln := (l.mapIdx fun k m => lnM i k m).flatten
def lnP (l : List Cl) : List Ln := (l.mapIdx fun i cl => lnMs i cl.methods).flatten
theorem lnMs_take (i : Int) (l : List Me) (k : Nat) (h : k < l.length) : lnMs i (l.take (k + 1)) = lnMs i (l.take k) ++ lnM i k l[k] := by
  unfold lnMs
  rw [List.take_succ_eq_append_getElem h, List.mapIdx_concat, List.length_take, Nat.min_eq_left (Nat.le_of_lt h), List.flatten_append]
  simp
theorem lnMs_prefix (i : Int) (l : List Me) (k : Nat) : lnMs i (l.take k) <+: lnMs i l := by
  have h : lnMs i l = lnMs i (l.take k ++ l.drop k) := by rw [List.take_append_drop]
  rw [h]
  unfold lnMs
  rw [List.mapIdx_append, List.flatten_append]
  exact List.prefix_append _ _
theorem lnP_take (l : List Cl) (k : Nat) (h : k < l.length) : lnP (l.take (k + 1)) = lnP (l.take k) ++ lnMs k l[k].methods := by
  unfold lnP
  rw [List.take_succ_eq_append_getElem h, List.mapIdx_concat, List.length_take, Nat.min_eq_left (Nat.le_of_lt h), List.flatten_append]
  simp
theorem lnP_prefix (l : List Cl) (k : Nat) : lnP (l.take k) <+: lnP l := by
  have h : lnP l = lnP (l.take k ++ l.drop k) := by rw [List.take_append_drop]
  rw [h]
  unfold lnP
  rw [List.mapIdx_append, List.flatten_append]
  exact List.prefix_append _ _

set_option maxHeartbeats 4000000 in
set_option maxRecDepth 100000 in
theorem refStmts_any (w : World) (A : Option Addr) (c : Nat) (l : List Cl) (hl63 : l.length ≤ 9223372036854775807) (hs : Lies w 7 Cl.cells A l) (hin : ∀ cl ∈ l, ClIn w cl) (hn : (lnP l).length ≤ 400000000000) :
    GivesOwn Try.prog 10 #[.slice A l.length c] w 49 26 Ln.cells (lnP l) := by
  unfold GivesOwn
  obtain ⟨i0, z0, hi0, hz0, hz1, hz2, hzs⟩ := info_row infoLn
  have HS := hide hs
  have HI := hide hin
  have HN := hide hn
  clear hs hin hn
  go_enter Try.func10, Try.ntmps10
  go_wp2_with fail
  go_loopw [3, 4] (fun v s4 wr => ∃ k : Nat, s4 = .int .i64 k ∧ k ≤ l.length ∧ ∃ x : Ext w, wr = x.val ∧ Hid (Grow.Own x.val w.heap.size 49 26 Ln.cells v (lnP (l.take k)))) (fun _ s4 _ => l.length - (intOf s4).toNat)
  case atStart => exact ⟨0, rfl, Nat.zero_le _, Ext.here w, rfl, (show Grow.Own _ _ _ _ _ _ _ by simpa [lnP] using Own.nil)⟩
  case round =>
    obtain ⟨k, rfl, hk, x, rfl, hown⟩ := hrel
    by_cases hlt : k < l.length
    · obtain ⟨b, off, hA, hb, hcell⟩ := HS.out k hlt
      have hlt' : (k : Int) < (l.length : Int) := by omega
      have hmem := List.getElem_mem hlt
      have HT := lnP_take l k hlt
      have hpl := (lnP_prefix l (k + 1)).length_le
      obtain ⟨cl, hcl⟩ : ∃ cl, cl = l[k] := ⟨_, rfl⟩
      rw [← hcl] at hcell hmem HT
      have hIn := hide (HI.out cl hmem)
      have hc5 : w.cell? ⟨b, off + k * 7 + 5, none⟩ = some (.slice cl.mA cl.methods.length cl.mc) := hcell 5 _ rfl
      have HLen : Hid ((lnP (l.take k)).length + (lnMs k cl.methods).length ≤ 400000000000) := by
        rw [HT, List.length_append] at hpl
        have := HN.out
        show _ ≤ _
        omega
      have hm63 : cl.methods.length ≤ 9223372036854775807 := by have h1 := hIn.out.mc; have h2 := hIn.out.mm; unfold maxLen at h2; omega
      have HKW : Hid (wrap64 ((k : Int) + 1) = ((k + 1 : Nat) : Int)) := by
        show wrap64 _ = _
        unfold wrap64
        omega
      have HT9 := hide HT
      have hlt9 := hide hlt
      obtain ⟨T, hT⟩ : ∃ T, T = lnP (l.take k) := ⟨_, rfl⟩
      rw [← hT] at hown HLen HT9
      obtain ⟨M, hM⟩ : ∃ M, M = cl.methods := ⟨_, rfl⟩
      have HM : Hid (Lies w 17 Me.cells cl.mA M) := by show Lies _ _ _ _ _; rw [hM]; exact hIn.out.methods
      have HMI : Hid (∀ m ∈ M, MeIn w m) := by show ∀ m ∈ M, _; rw [hM]; exact hIn.out.each
      rw [← hM] at hc5 hm63 HLen HT9
      subst hA
      clear hcell hcl hmem HT hpl hlt hT hM hIn
      go_wp2_with fail
      go_loopw [3, 5] (fun v s5 wr => ∃ j : Nat, s5 = .int .i64 j ∧ j ≤ M.length ∧ ∃ y : Ext w, wr = y.val ∧ Hid (Grow.Own y.val w.heap.size 49 26 Ln.cells v (T ++ lnMs k (M.take j)))) (fun _ s5 _ => M.length - (intOf s5).toNat)
      case atStart => exact ⟨0, rfl, Nat.zero_le _, x, rfl, (show Grow.Own _ _ _ _ _ _ _ by simpa [lnMs] using hown.out)⟩
      case round =>
        clear hown
        obtain ⟨j, rfl, hj, y, rfl, hown⟩ := hrel
        by_cases hltj : j < M.length
        · obtain ⟨b2, off2, hA2, hb2, hcell2⟩ := HM.out j hltj
          have hltj' : (j : Int) < (M.length : Int) := by omega
          have hmem2 := List.getElem_mem hltj
          have HT2 := lnMs_take k M j hltj
          have hpl2 := (lnMs_prefix k M (j + 1)).length_le
          obtain ⟨m, hm⟩ : ∃ m, m = M[j] := ⟨_, rfl⟩
          rw [← hm] at hcell2 hmem2 HT2
          have hMI := hide (HMI.out m hmem2)
          have hc15 : w.cell? ⟨b2, off2 + j * 17 + 15, none⟩ = some (.slice m.bA m.body.length m.bc) := hcell2 15 _ rfl
          have HL : Hid ((T ++ lnMs k (M.take j)).length + (lnM k j m).length ≤ 400000000000) := by
            rw [HT2, List.length_append] at hpl2
            have := HLen.out
            show _ ≤ _
            rw [List.length_append]
            omega
          have hfew : Hid ((liAll m.body 0 (bkA m.bA) (ofA m.bA)).length ≤ 400000000000) := by
            have h1 := HL.out
            unfold lnM at h1
            rw [List.length_map] at h1
            show _ ≤ _
            omega
          have HJW : Hid (wrap64 ((j : Int) + 1) = ((j + 1 : Nat) : Int)) := by
            show wrap64 _ = _
            unfold wrap64
            omega
          have HT29 := hide HT2
          have hltj9 := hide hltj
          have HC : Hid (∀ z : Ext w, GivesOwn Try.prog 20 #[.slice m.bA m.body.length m.bc, .agg (Ln.mk k j 0 (.mk 0 ⟨#[]⟩ ⟨#[]⟩ ⟨#[]⟩ ⟨0, ⟨#[]⟩, 0, ⟨0, 0⟩, ⟨0, 0⟩, ⟨0, 0⟩, ⟨0, 0⟩⟩ (.mk 0 0 ⟨#[]⟩ none 0 []) none 0 [] none 0 [] none 0 [] 0)).cells.toArray] z.val 49 26 Ln.cells (lnM k j m)) := fun z =>
            lines_ok m.body z.val m.bA m.bc (Ln.mk k j 0 _) (fun s hs => (hMI.out.stmts s hs).ext z) (hMI.out.body.ext z) hMI.out.bc hMI.out.bm hfew.out
          unfold GivesOwn at HC
          rw [hA2] at hc5
          clear hcell2 hm hmem2 HT2 hpl2 hltj
          have hB : Hid (∀ u : Ext y.val, Below w.heap.size w u.val) := fun u => y.below.trans (u.below.mono y.below.size)
          have hs1 : Hid ((T ++ lnMs k (M.take j)).length + (lnM k j m).length ≤ maxLen ∧ ((T ++ lnMs k (M.take j)).length + (lnM k j m).length) * 312 ≤ 140737488355328) := by
            have := HL.out
            show _ ∧ _
            unfold maxLen
            omega
          go_upto_region 7 with (first | (refine wpList_buildV rfl 49 [(0, .tmp 32), (1, .tmp 33)] rfl [(0, .int .i64 k), (1, .int .i64 j)] (by kernel_rfl) (Ln.mk k j 0 (.mk 0 ⟨#[]⟩ ⟨#[]⟩ ⟨#[]⟩ ⟨0, ⟨#[]⟩, 0, ⟨0, 0⟩, ⟨0, 0⟩, ⟨0, 0⟩, ⟨0, 0⟩⟩ (.mk 0 0 ⟨#[]⟩ none 0 []) none 0 [] none 0 [] none 0 [] 0)).cells.toArray (by kernel_rfl) ?_) | (go_at_call 20; ((with_reducible refine Calls.mono (HC.out y) ?_); rintro _ _ ⟨u, v, rfl, rfl, ho⟩; obtain ⟨A', c', rfl, l1, l2, l3⟩ := ho.lies Ln.cells_len; have L3 := hide l3; have hO := hide (hown.out.ext u); clear ho l1 l2 l3)) | (at_builtin; refine wpList_append_list (w1 := w) _ rfl (.tmp 22) (.tmp 35) 31 rfl 49 i0 z0 26 312 Try.underlying31 hi0 hz0 hz1 hz2 hzs (by decide) Ln.cells_len Ln.cells_one (hB.out u) _ (T ++ lnMs k (M.take j)) rfl hO.out A' (lnM k j m).length c' (lnM k j m) rfl rfl L3.out hs1.out.1 hs1.out.2 ?_; intro v' y2 hown' hgr hat; have hO2 := hide hown'; clear hown' hgr hat))
          have hO3 : Hid (Grow.Own y2.val w.heap.size 49 26 Ln.cells v' (T ++ lnMs k (M.take (j + 1)))) := by
            show Grow.Own _ _ _ _ _ _ _
            rw [HT29.out, ← List.append_assoc]
            exact hO2.out
          clear hO2 hown hO L3 HC hc15
          go_wp2_with fail
          go_roundw
          case rel => exact ⟨j + 1, by first | rfl | rw [HJW.out], hltj9.out, y2, rfl, hO3⟩
          case measure =>
            first | rw [HJW.out, intOf_int, intOf_int] | rw [intOf_int, intOf_int]
            have := hltj9.out; omega
        · obtain rfl : j = M.length := by omega
          rw [List.take_length] at hown
          have hO3 : Hid (Grow.Own y.val w.heap.size 49 26 Ln.cells u3 (lnP (l.take (k + 1)))) := by
            show Grow.Own _ _ _ _ _ _ _
            rw [HT9.out]
            exact hown.out
          clear hown
          go_wp2_with fail
          go_roundw
          case rel => exact ⟨k + 1, by first | rfl | rw [HKW.out], hlt9.out, y, rfl, hO3⟩
          case measure =>
            first | rw [HKW.out, intOf_int, intOf_int] | rw [intOf_int, intOf_int]
            have := hlt9.out; omega
    · obtain rfl : k = l.length := by omega
      rw [List.take_length] at hown
      go_wp2_with fail
      refine bodyPost_ret (results_tmp rfl _ _ _) rfl ?_
      exact ⟨x, _, rfl, rfl, hown.out⟩
end Go.Proofs.Ytmpdmelkbemabaa
