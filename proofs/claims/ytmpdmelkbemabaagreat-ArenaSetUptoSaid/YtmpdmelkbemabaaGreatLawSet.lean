/- The walk of the law ArenaSet. -/
import Derived.Test.YtmpdmelkbemabaaGreatSet12
import Derived.Test.YtmpdmelkbemabaaGreatLike
import Derived.Test.YtmpdmelkbemabaaGreatAwake12
import Derived.Test.YtmpdmelkbemabaaGreatHeavyAll
set_option linter.unusedSimpArgs false
set_option linter.unusedVariables false
namespace Go.Proofs.YtmpdmelkbemabaaGreat
open Go.RowKit Go.Proofs.Grow

/-- A program that was made, like C with the types L. -/
structure MadeL (C : List Cl) (L : List Ty) (D : List Cl) (A : Option Addr) (W : World) : Prop where
  st : D.map stCl = (setCls C L).map stCl
  lies : Lies W 7 Cl.cells A D
  ins : ∀ d ∈ D, ClIn W d
theorem MadeL.ext {C : List Cl} {L : List Ty} {D : List Cl} {A : Option Addr} {W : World} (h : MadeL C L D A W) (x : Ext W) : MadeL C L D A x.val := ⟨h.st, h.lies.ext x, fun d hd => (h.ins d hd).ext x⟩

section
variable (w : World) (A : Option Addr) (c : Nat) (C : List Cl) (AL : Option Addr) (cL : Nat) (L : List Ty) (hl : Lies w 7 Cl.cells A C) (hin : ∀ cl ∈ C, ClIn w cl) (hfw : (C.map Cl.fw).sum ≤ 1048576)
    (hL : Lies w 11 Ty.cells AL L) (hLc : L.length ≤ cL) (hLn : L.length ≤ 3000) (hT : TysOk L)
include hl hin hfw hL hLc hLn hT

theorem aset_yes (hok : okSet (slP C) L) : Calls Tryz.prog 6 #[.slice A C.length c, .slice AL L.length cL] w fun e w' => ∃ (x : Ext w) (D : List Cl) (A' : Option Addr) (c' : Nat), e = .returned (.tuple #[.slice A' D.length c', .bool true]) ∧ w' = x.val ∧ MadeL C L D A' x.val := by
  have _hc := hLc
  have hN : C.length ≤ 1048576 := Nat.le_trans (sum_len Cl.fw (fun c => by unfold Cl.fw; omega) C) hfw
  have hf : ∀ cl ∈ C, cl.fw ≤ 1048576 := fun cl h => Nat.le_trans (sum_has Cl.fw h) hfw
  refine (set_any w A c C AL cL L hl hin hN hf hL (by omega) hT (by have := nCls_fw C; omega)).mono fun e w' ⟨x, C', hw, hst, h⟩ => ?_
  rcases h with ⟨_, A', he, h1, h2⟩ | ⟨hno, _⟩
  · have hlen : (setCls C' L).length = C.length := by rw [setCls_len]; simpa using congrArg List.length hst
    exact ⟨x, setCls C' L, A', C.length, by rw [hlen]; exact he, hw, ⟨by rw [setCls_st, setCls_st, hst], h1, h2⟩⟩
  · exact absurd (okSet_same hst.symm hok) hno
theorem aset_no (hno : ¬ okSet (slP C) L) : Calls Tryz.prog 6 #[.slice A C.length c, .slice AL L.length cL] w fun e w' => ∃ x : Ext w, e = .returned (.tuple #[.slice none 0 0, .bool false]) ∧ w' = x.val := by
  have _hc := hLc
  have hN : C.length ≤ 1048576 := Nat.le_trans (sum_len Cl.fw (fun c => by unfold Cl.fw; omega) C) hfw
  have hf : ∀ cl ∈ C, cl.fw ≤ 1048576 := fun cl h => Nat.le_trans (sum_has Cl.fw h) hfw
  refine (set_any w A c C AL cL L hl hin hN hf hL (by omega) hT (by have := nCls_fw C; omega)).mono fun e w' ⟨x, C', hw, hst, h⟩ => ?_
  rcases h with ⟨hok, _⟩ | ⟨_, he⟩
  · exact absurd (okSet_same hst hok) hno
  · exact ⟨x, he, hw⟩
theorem rset_yes (hok : okSet (slP C) L) : Calls Tryz.prog 7 #[.slice A C.length c, .slice AL L.length cL] w fun e w' => ∃ (x : Ext w) (D : List Cl) (A' : Option Addr) (c' : Nat), e = .returned (.tuple #[.slice A' D.length c', .bool true]) ∧ w' = x.val ∧ MadeL C L D A' x.val := by
  refine (rset_any w A c C AL cL L hl hin hfw hL hLc (by omega) hT).mono fun e w' ⟨x, hw, h⟩ => ?_
  rcases h with ⟨_, D, A', c', he, h1, _, _, h2, h3⟩ | ⟨hno, _⟩
  · exact ⟨x, D, A', c', he, hw, ⟨h1, h2, h3⟩⟩
  · exact absurd ((okSet_fit C L).1 hok) hno
theorem rset_no (hno : ¬ okSet (slP C) L) : Calls Tryz.prog 7 #[.slice A C.length c, .slice AL L.length cL] w fun e w' => ∃ x : Ext w, e = .returned (.tuple #[.slice none 0 0, .bool false]) ∧ w' = x.val := by
  refine (rset_any w A c C AL cL L hl hin hfw hL hLc (by omega) hT).mono fun e w' ⟨x, hw, h⟩ => ?_
  rcases h with ⟨hok, _⟩ | ⟨_, he⟩
  · exact absurd ((okSet_fit C L).2 hok) hno
  · exact ⟨x, he, hw⟩
end

set_option maxHeartbeats 4000000 in
set_option maxRecDepth 100000 in
theorem lawSet_any (w : World) (A : Option Addr) (c : Nat) (C : List Cl) (hlc : C.length ≤ c) (hcm : c ≤ maxLen) (hs : Lies w 7 Cl.cells A C) (hin : ∀ cl ∈ C, ClIn w cl) (hfw : (C.map Cl.fw).sum ≤ 1048576)
    (AL : Option Addr) (cL : Nat) (L : List Ty) (hl : Lies w 11 Ty.cells AL L) (hLc : L.length ≤ cL) (hlm : L.length ≤ maxLen) (hT : TysOk L) :
    Gives Tryz.prog 3 #[.slice A C.length c, .slice AL L.length cL] w (.bool true) := by
  refine Gives.mk ?_
  have HH := hide (heavy_any w A c C hs hlc hcm hin)
  have HIN := hide hin
  have HS := hide hs
  have HLL := hide hl
  have HTO := hide hT
  have HFW := hide hfw
  have hm63 : L.length ≤ 9223372036854775807 := by unfold maxLen at hlm; omega
  clear hs hin hl hT hfw
  by_cases hlong : 3000 < L.length
  · have hlong' : (3000 : Int) < (L.length : Int) := by omega
    go_enter Tryz.func3, Tryz.ntmps3
    go_upto_region 3 with (go_at_call 4; refine (HH.out.over (Ext.here w)).mono ?_; rintro _ _ ⟨y, u, hy, rfl, rfl⟩; cases u)
    all_goals
      refine ((awake12_any y.val).over y).mono ?_
      rintro _ _ ⟨y2, hy2, rfl, rfl⟩
      go_wp2_with fail
      go_ret
      exact ⟨rfl, y2.below⟩
  · have hlong' : ¬ (3000 : Int) < (L.length : Int) := by omega
    have hl3 : L.length ≤ 3000 := by omega
    have HHi : Hid (∀ W, Below w.heap.size w W → ∀ cl ∈ C, ClIn W cl) := fun W hW cl hcl => by
      obtain ⟨x, rfl⟩ := Ext.of hW
      exact (HIN.out cl hcl).ext x
    go_enter Tryz.func3, Tryz.ntmps3
    go_upto_region 3 with (go_at_call 4; refine (HH.out.over (Ext.here w)).mono ?_; rintro _ _ ⟨y, u, hy, rfl, rfl⟩; cases u)
    rotate_left
    · refine ((awake12_any y.val).over y).mono ?_
      rintro _ _ ⟨y2, hy2, rfl, rfl⟩
      go_wp2_with fail
      go_ret
      exact ⟨rfl, y2.below⟩
    have hB0 : Hid (Below w.heap.size w y.val) := y.below
    generalize y.val = w0 at hB0 ⊢
    clear HH hy y
    by_cases hok : okSet (slP C) L
    · have H1 : Hid (∀ W, Below w.heap.size w W → Calls Tryz.prog 6 #[.slice A C.length c, .slice AL L.length cL] W fun e w' => ∃ (x : Ext W) (D : List Cl) (A' : Option Addr) (c' : Nat), e = .returned (.tuple #[.slice A' D.length c', .bool true]) ∧ w' = x.val ∧ MadeL C L D A' x.val) :=
        fun W hW => aset_yes W A c C AL cL L (HS.out.below hW) (HHi.out W hW) HFW.out (HLL.out.below hW) hLc hl3 HTO.out hok
      have H2 : Hid (∀ W, Below w.heap.size w W → Calls Tryz.prog 7 #[.slice A C.length c, .slice AL L.length cL] W fun e w' => ∃ (x : Ext W) (D : List Cl) (A' : Option Addr) (c' : Nat), e = .returned (.tuple #[.slice A' D.length c', .bool true]) ∧ w' = x.val ∧ MadeL C L D A' x.val) :=
        fun W hW => rset_yes W A c C AL cL L (HS.out.below hW) (HHi.out W hW) HFW.out (HLL.out.below hW) hLc hl3 HTO.out hok
      clear HHi HIN HS HLL HTO hok
      have hCl : Hid (C.length ≤ 1048576) := Nat.le_trans (sum_len Cl.fw (fun c => by unfold Cl.fw; omega) C) HFW.out
      go_upto_region 4 with (go_at_call 6; ((refine (H1.out _ hB0.out).mono ?_); rintro _ _ ⟨y1, D1, A1, c1, rfl, rfl, k1⟩; have hM1 := hide k1; have hB1 := hide (hB0.out.trans (y1.below.mono hB0.out.size)); clear k1))
      generalize y1.val = w1 at hM1 hB1 ⊢
      clear hB0 y1 w0 H1
      go_upto_region 5 with (go_at_call 7; ((refine (H2.out _ hB1.out).mono ?_); rintro _ _ ⟨y1, D2, A2, c2, rfl, rfl, k1⟩; have hM2 := hide k1; have hM3 := hide (hM1.out.ext y1); have hB2 := hide (hB1.out.trans (y1.below.mono hB1.out.size)); clear k1))
      clear hM1 H2
      generalize y1.val = w2 at hM2 hM3 hB2 ⊢
      clear hB1 y1 w1
      have hD1 : D1.length ≤ maxLen := by
        have h1 : D1.length = C.length := by have := congrArg List.length hM3.out.st; rw [List.length_map, List.length_map, setCls_len] at this; exact this
        have := hCl.out
        rw [h1]; unfold maxLen; omega
      have HK : Hid (Gives Tryz.prog 8 #[.slice A1 D1.length c1, .slice A2 D2.length c2, .bool true] w2 (.bool true)) :=
        Like_any w2 D1 D2 (hM3.out.st.trans hM2.out.st.symm) A1 A2 c1 c2 hM3.out.lies hM2.out.lies hM3.out.ins hM2.out.ins hD1
      unfold Gives at HK
      go_wp2_with (first | (go_at_call 8; ((refine HK.out.mono ?_); rintro _ _ ⟨y1, rfl, rfl⟩)) | (go_at_call 5; refine ((awake12_any y1.val).over y1).mono ?_; rintro _ _ ⟨y2, hy2, rfl, rfl⟩))
      go_ret
      exact ⟨rfl, hB2.out.trans (y2.below.mono hB2.out.size)⟩
    · have H1 : Hid (∀ W, Below w.heap.size w W → Calls Tryz.prog 6 #[.slice A C.length c, .slice AL L.length cL] W fun e w' => ∃ x : Ext W, e = .returned (.tuple #[.slice none 0 0, .bool false]) ∧ w' = x.val) :=
        fun W hW => aset_no W A c C AL cL L (HS.out.below hW) (HHi.out W hW) HFW.out (HLL.out.below hW) hLc hl3 HTO.out hok
      have H2 : Hid (∀ W, Below w.heap.size w W → Calls Tryz.prog 7 #[.slice A C.length c, .slice AL L.length cL] W fun e w' => ∃ x : Ext W, e = .returned (.tuple #[.slice none 0 0, .bool false]) ∧ w' = x.val) :=
        fun W hW => rset_no W A c C AL cL L (HS.out.below hW) (HHi.out W hW) HFW.out (HLL.out.below hW) hLc hl3 HTO.out hok
      clear HHi HIN HS HLL HTO hok
      go_upto_region 4 with (go_at_call 6; ((refine (H1.out _ hB0.out).mono ?_); rintro _ _ ⟨y1, rfl, rfl⟩; have hB1 := hide (hB0.out.trans (y1.below.mono hB0.out.size))))
      generalize y1.val = w1 at hB1 ⊢
      clear hB0 y1 w0 H1
      go_upto_region 5 with (go_at_call 7; ((refine (H2.out _ hB1.out).mono ?_); rintro _ _ ⟨y1, rfl, rfl⟩; have hB2 := hide (hB1.out.trans (y1.below.mono hB1.out.size))))
      clear H2
      generalize y1.val = w2 at hB2 ⊢
      clear hB1 y1 w1
      have HK : Hid (Gives Tryz.prog 8 #[.slice none 0 0, .slice none 0 0, .bool true] w2 (.bool true)) :=
        Like_any w2 [] [] rfl none none 0 0 Lies.nil Lies.nil (fun _ h => absurd h List.not_mem_nil) (fun _ h => absurd h List.not_mem_nil) (Nat.zero_le _)
      unfold Gives at HK
      go_wp2_with (first | (go_at_call 8; ((refine HK.out.mono ?_); rintro _ _ ⟨y1, rfl, rfl⟩)) | (go_at_call 5; refine ((awake12_any y1.val).over y1).mono ?_; rintro _ _ ⟨y2, hy2, rfl, rfl⟩))
      go_ret
      exact ⟨rfl, hB2.out.trans (y2.below.mono hB2.out.size)⟩
end Go.Proofs.YtmpdmelkbemabaaGreat
