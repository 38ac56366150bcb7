/- The walks of arena.slots and its iterator. -/
import Derived.Test.YtmpdmelkbemabaaGreatMethod
import Derived.Test.YtmpdmelkbemabaaGreatSlotP
set_option linter.unusedSimpArgs false
set_option linter.unusedVariables false
namespace Go.Proofs.YtmpdmelkbemabaaGreat
open Go.RowKit Go.Proofs.Grow
attribute [local go_sem] Oper.semAt_some

set_option maxHeartbeats 2000000 in
set_option maxRecDepth 100000 in
theorem slots1_push (B : Nat) (A : Option Addr) (c : Nat) (l : List Cl) :
    Pushes Tryz.prog 30 (fun y => #[y] ++ #[.pointer (some ⟨B, 0, none⟩)]) Sl.args (fun W => RdP A l W ∧ W.cell? ⟨B, 0, none⟩ = some (.slice A l.length c)) isDone isDone (slP l) := by
  intro n ln J Jx pre O W hH h0
  have HH := hide hH
  have HR : Hid (∀ s O X, J s O X → RdP A l X ∧ X.cell? ⟨B, 0, none⟩ = some (.slice A l.length c)) := hH.read
  have hl63 : l.length ≤ 9223372036854775807 := by have := (HR.out _ _ _ h0).1.len; unfold maxLen at this; omega
  have hc0 := (HR.out _ _ _ h0).2
  have HJ0 := hide h0
  clear hH h0
  refine callsIn_of_wp Tryz.func30 rfl trivial ?_ rfl
  simp only [Tryz.ntmps30, List.size_toArray, List.length_cons, List.length_nil, Nat.reduceAdd, Nat.reduceSub, Array.replicate_succ, Array.replicate_zero, List.push_toArray, List.append_toArray, List.nil_append, List.cons_append]
  gi_wp2
  clear hc0
  gi_loopw [3, 7] (fun s3 s7 wr => ∃ (k : Nat) (O' : Nat → Prop), k ≤ l.length ∧ s7 = .int .i64 k ∧
    Hid (SubO O W.heap.size O' ∧ KeepsBut O W wr ∧ J (pre ++ slP (l.take k)) O' wr)) (fun _ s7 _ => l.length - (intOf s7).toNat)
  case atStart => exact ⟨0, O, Nat.zero_le _, rfl, SubO.refl _ _, KeepsBut.refl _ _, by simpa [slP] using HJ0.out⟩
  case round =>
    obtain ⟨k, O', hk, rfl, hF⟩ := hrel
    by_cases hlt : k < l.length
    · obtain ⟨hRP, hc0⟩ := HR.out _ _ _ hF.out.2.2
      obtain ⟨b, off, hA, hb, hc4, hc5⟩ := hRP.at_ k hlt
      have hlt' : (k : Int) < (l.length : Int) := by omega
      have HT := slP_take l k hlt
      have HP := hide (slP_prefix l (k + 1))
      have hmem := List.getElem_mem hlt
      have HRc : Hid (∀ s O X, J s O X → X.cell? ⟨B, 0, none⟩ = some (.slice A l.length c) ∧ X.cell? ⟨b, off + k * 7 + 5, none⟩ = some (.slice l[k].mA l[k].methods.length l[k].mc) ∧ RdC l[k] X) := fun s O X h => by
        obtain ⟨h1, h2⟩ := HR.out _ _ _ h
        obtain ⟨b', off', hA', _, _, h5⟩ := h1.at_ k hlt
        rw [hA] at hA'
        cases hA'
        exact ⟨h2, h5, h1.each _ hmem⟩
      have HRx : Hid (∀ X, (RdP A l X ∧ X.cell? ⟨B, 0, none⟩ = some (.slice A l.length c)) → RdC l[k] X) := fun X h => h.1.each _ hmem
      obtain ⟨cl, hcl⟩ : ∃ cl, cl = l[k] := ⟨_, rfl⟩
      rw [← hcl] at HT hc4 hc5 HRc HRx
      have HT9 := hide HT
      have hlt9 := hide hlt
      subst hA
      have hPk : Hid (slP (l.take k) ++ (slV cl.fA k (-1) 0 cl.fields ++ slMs cl.mA k cl.methods) <+: slP l) := by
        show _ <+: _
        have h := HP.out
        rw [HT] at h
        exact h
      clear hRP hcl HT hmem hlt HJ0
      have hV := vars_push cl.fA cl.fc cl.fields k (-1) 0 0 0 (n - 1) ln J Jx (pre ++ slP (l.take k)) O' wr (by
        refine HH.out.mono hF.out.2.1.size (fun X hX => (HRx.out X hX).fields) (slP (l.take k)) ?_
        refine List.IsPrefix.trans ?_ hPk.out
        rw [← List.append_assoc]
        exact List.prefix_append _ _) hF.out.2.2
      unfold noteCells at hV
      have HV := hide hV
      clear hV
      have HF1 := hide hF.out.1
      have HF2 := hide hF.out.2.1
      clear hF HP
      gi_wp2
      refine ⟨trivial, fun h => (by simp [Fence.wide] at h), ?_⟩
      refine HV.out.mono ?_
      clear HV hc4 hc5 hc0
      rintro e3 W3 ⟨O3, hs3, hk3, ⟨he, hJ3⟩ | ⟨he, q, hq, hJ3⟩⟩
      · obtain rfl : e3 = .returned (.bool true) := he
        obtain ⟨hc0, hc5, hRC⟩ := HRc.out _ _ _ hJ3
        have hm63 : cl.methods.length ≤ 9223372036854775807 := by have := hRC.mlen; unfold maxLen at this; omega
        have HJ3 : Hid (SubO O W.heap.size O3 ∧ KeepsBut O W W3 ∧ J (pre ++ slP (l.take k) ++ slV cl.fA k (-1) 0 cl.fields ++ slMs cl.mA k (cl.methods.take 0)) O3 W3) :=
          ⟨HF1.out.trans hs3 HF2.out.size, HF2.out.trans hk3 HF1.out, by simpa [slMs] using hJ3⟩
        clear hRC hs3 hk3 hJ3
        gi_wp2
        clear hc0 hc5
        gi_loopw [4, 26] (fun s4 s26 wr => ∃ (j : Nat) (O' : Nat → Prop), j ≤ cl.methods.length ∧ s26 = .int .i64 j ∧
          Hid (SubO O W.heap.size O' ∧ KeepsBut O W wr ∧ J (pre ++ slP (l.take k) ++ slV cl.fA k (-1) 0 cl.fields ++ slMs cl.mA k (cl.methods.take j)) O' wr)) (fun _ s26 _ => cl.methods.length - (intOf s26).toNat)
        case atStart => exact ⟨0, O3, Nat.zero_le _, rfl, HJ3⟩
        case round =>
          obtain ⟨j, O4, hj, rfl, hF⟩ := hrel
          by_cases hlt : j < cl.methods.length
          · obtain ⟨hc0, hc5, hRC⟩ := HRc.out _ _ _ hF.out.2.2
            obtain ⟨b2, off2, hmA, hRM⟩ := hRC.methods j hlt
            have hltj' : (j : Int) < (cl.methods.length : Int) := by omega
            have HRm : Hid (∀ X, RdC cl X → RdM b2 (off2 + j * 17) cl.methods[j] X) := fun X h => by
              obtain ⟨b', off', hA', h'⟩ := h.methods j hlt
              rw [hmA] at hA'
              cases hA'
              exact h'
            have HTm := slMs_take cl.mA k cl.methods j hlt
            have HPm := hide (slMs_prefix cl.mA k cl.methods (j + 1))
            have hbk : bkA cl.mA = b2 ∧ ofA cl.mA = off2 := by rw [hmA]; exact ⟨rfl, rfl⟩
            rw [hbk.1, hbk.2] at HTm
            obtain ⟨m, hm⟩ : ∃ m, m = cl.methods[j] := ⟨_, rfl⟩
            rw [← hm] at HTm HRm hRM
            have hlt9j := hide hlt
            have HTm9 := hide HTm
            have hpre : Hid (slP (l.take k) ++ slV cl.fA k (-1) 0 cl.fields ++ slMs cl.mA k (cl.methods.take j) ++ slM b2 (off2 + j * 17) k j m <+: slP l) := by
              refine List.IsPrefix.trans ?_ hPk.out
              rw [List.append_assoc, List.append_assoc]
              refine (List.prefix_append_right_inj _).2 ((List.prefix_append_right_inj _).2 ?_)
              rw [← HTm]
              exact HPm.out
            have hV := method_push b2 (off2 + j * 17) m k j 0 0 (n - 1) ln J Jx (pre ++ slP (l.take k) ++ slV cl.fA k (-1) 0 cl.fields ++ slMs cl.mA k (cl.methods.take j)) O4 wr (by
              have h := HH.out.mono hF.out.2.1.size (ys := slM b2 (off2 + j * 17) k j m) (fun X hX => HRm.out X (HRx.out X hX)) (slP (l.take k) ++ slV cl.fA k (-1) 0 cl.fields ++ slMs cl.mA k (cl.methods.take j)) hpre.out
              simpa using h) hF.out.2.2
            unfold noteCells at hV
            have HV := hide hV
            rw [hmA] at hc5
            have HG1 := hide hF.out.1
            have HG2 := hide hF.out.2.1
            clear hV hm HTm hlt hRM hRC hmA hbk hF HPm
            gi_wp2
            refine ⟨trivial, fun h => (by simp [Fence.wide] at h), ?_⟩
            refine HV.out.mono ?_
            clear HV hc5 hc0
            rintro e5 W5 ⟨O5, hs5, hk5, ⟨he, hJ5⟩ | ⟨he, q, hq, hJ5⟩⟩
            · obtain rfl : e5 = .returned (.bool true) := he
              have HJ5 : Hid (SubO O W.heap.size O5 ∧ KeepsBut O W W5 ∧ J (pre ++ slP (l.take k) ++ slV cl.fA k (-1) 0 cl.fields ++ slMs cl.mA k (cl.methods.take (j + 1))) O5 W5) :=
                ⟨HG1.out.trans hs5 HG2.out.size, HG2.out.trans hk5 HG1.out, by rw [HTm9.out, ← List.append_assoc]; exact hJ5⟩
              clear hs5 hk5 hJ5
              gi_wp2
              go_roundw
              case rel => exact ⟨j + 1, O5, hlt9j.out, by go_num, HJ5⟩
              case measure => have := hlt9j.out; simp [intOf]; omega
            · obtain rfl : e5 = .returned (.bool false) := he
              have HG : Hid (SubO O W.heap.size O5 ∧ KeepsBut O W W5 ∧ ∃ q, q <+: slP l ∧ Jx (pre ++ q) O5 W5) := by
                refine ⟨HG1.out.trans hs5 HG2.out.size, HG2.out.trans hk5 HG1.out, _, ((List.prefix_append_right_inj (slP (l.take k) ++ slV cl.fA k (-1) 0 cl.fields ++ slMs cl.mA k (cl.methods.take j))).2 hq).trans hpre.out, by simpa using hJ5⟩
              clear hs5 hk5 hJ5
              gi_wp2
              go_end0
              exact ⟨O5, HG.out.1, HG.out.2.1, .inr ⟨⟨_, rfl⟩, HG.out.2.2⟩⟩
          · obtain rfl : j = cl.methods.length := by omega
            have hltj' : ¬ (cl.methods.length : Int) < (cl.methods.length : Int) := by omega
            have HJ6 : Hid (SubO O W.heap.size O4 ∧ KeepsBut O W wr ∧ J (pre ++ slP (l.take (k + 1))) O4 wr) :=
              ⟨hF.out.1, hF.out.2.1, by have := hF.out.2.2; rw [List.take_length] at this; rw [HT9.out]; simpa [slC] using this⟩
            clear hF
            gi_wp2
            go_roundw
            case rel => exact ⟨k + 1, O4, hlt9.out, by go_num, HJ6⟩
            case measure => have := hlt9.out; simp [intOf]; omega
      · obtain rfl : e3 = .returned (.bool false) := he
        have HG : Hid (SubO O W.heap.size O3 ∧ KeepsBut O W W3 ∧ ∃ q, q <+: slP l ∧ Jx (pre ++ q) O3 W3) := by
          refine ⟨HF1.out.trans hs3 HF2.out.size, HF2.out.trans hk3 HF1.out, slP (l.take k) ++ q, ?_, by simpa using hJ3⟩
          refine List.IsPrefix.trans ?_ hPk.out
          exact (List.prefix_append_right_inj _).2 (hq.trans (List.prefix_append _ _))
        clear hs3 hk3 hJ3
        gi_wp2
        go_end0
        exact ⟨O3, HG.out.1, HG.out.2.1, .inr ⟨⟨_, rfl⟩, HG.out.2.2⟩⟩
    · obtain rfl : k = l.length := by omega
      have hlt' : ¬ (l.length : Int) < (l.length : Int) := by omega
      have HG : Hid (SubO O W.heap.size O' ∧ KeepsBut O W wr ∧ J (pre ++ slP l) O' wr) := ⟨hF.out.1, hF.out.2.1, by have := hF.out.2.2; rwa [List.take_length] at this⟩
      clear hF
      gi_wp2
      go_end0
      exact ⟨O', HG.out.1, HG.out.2.1, .inl ⟨⟨_, rfl⟩, HG.out.2.2⟩⟩

theorem slots_seq (A : Option Addr) (n c : Nat) (w : World) : Calls Tryz.prog 17 #[.slice A n c] w fun e w' => e = .returned (.func (.func 30) #[] #[.pointer (some ⟨w.heap.size, 0, none⟩)]) ∧ w' = w.alloc (.cells #[.slice A n c] 22) := by
  go_enter Tryz.func17, Tryz.ntmps17
  go_wp2
  go_ret
  exact ⟨rfl, rfl⟩
end Go.Proofs.YtmpdmelkbemabaaGreat
