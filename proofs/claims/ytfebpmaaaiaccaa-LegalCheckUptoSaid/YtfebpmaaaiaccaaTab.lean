/- The walks of table.Find, table.Arity, demesneref13.Find, demesneref13.Arity, legal.within. -/
import Derived.Test.YtfebpmaaaiaccaaIn
import Derived.Test.YtfebpmaaaiaccaaCls
import Derived.Test.YtfebpmaaaiaccaaSet
import Derived.BigGuardPart
import Derived.Deep.DeepCutAuto
set_option linter.unusedSimpArgs false
set_option linter.unusedVariables false
namespace Go.Proofs.Ytfebpmaaaiaccaa
open Go.RowKit Go.Proofs.Grow

def isName (s : ByteArray) (c : Cl) : Bool := c.name.toList == s.toList
def findC (C : List Cl) (s : ByteArray) : Int := idx (isName s) C 0
def arity (C : List Cl) (s : ByteArray) : Int := match C.find? (isName s) with | some c => c.params.length | none => -1

theorem find1_any (w : World) (cl : Cl) (s : ByteArray) (b : Nat) (hb : b < w.heap.size) (hs : w.cell? ⟨b, 0, none⟩ = some (.string s)) : Gives Try.prog 58 #[.agg cl.cells.toArray, .pointer (some ⟨b, 0, none⟩)] w (.bool (isName s cl)) := by
  refine Gives.mk ?_
  unfold Cl.cells isName
  go_enter Try.func58, Try.ntmps58
  go_wp2
  go_ret
  refine ⟨?_, ?_⟩
  · rfl
  · repeat (first | exact Below.refl _ _ | exact Nat.le_refl _ | assumption | refine below_ext ?_ ?_ _ | refine Below.alloc ?_ ?_ _ | refine Below.drew ?_ | refine Below.setCell ?_ ?_ _ | refine Ext.le _ ?_ | refine le_alloc ?_ | refine le_drew ?_ | refine le_setCell ?_)
    all_goals omega

set_option maxHeartbeats 1000000 in
set_option maxRecDepth 100000 in
theorem indexC_any (w : World) (A : Option Addr) (c : Nat) (cap : Value) (C : List Cl) (p : Cl → Bool) (hl : C.length ≤ 9223372036854775807) (hs : Lies w 7 Cl.cells A C)
    (hp : ∀ x : Ext w, ∀ o ∈ C, Gives Try.prog 58 #[.agg o.cells.toArray, cap] x.val (.bool (p o))) :
    Gives Try.prog 57 #[.slice A C.length c, .func (.func 58) #[] #[cap]] w (.int .i64 (idx p C 0)) := by
  refine Gives.mk ?_
  have Hp := hide hp
  have Hs := hide hs
  clear hp hs
  go_enter Try.func57, Try.ntmps57
  go_wp2_with fail
  go_loopw [8] (fun i wr => ∃ k : Nat, k ≤ C.length ∧ i = .int .i64 k ∧ (∃ x : Ext w, wr = x.val) ∧ Hid (idx p C 0 = idx p (C.drop k) k)) (fun i _ => C.length - (intOf i).toNat)
  case atStart => exact ⟨0, Nat.zero_le _, rfl, ⟨Ext.here w, rfl⟩, rfl⟩
  case round =>
    obtain ⟨k, hk, rfl, ⟨x, rfl⟩, hi⟩ := hrel
    by_cases hlt : k < C.length
    · obtain ⟨b, off, rfl, hb, hcell⟩ := Hs.out k hlt
      have hlt' : (k : Int) < (C.length : Int) := by omega
      have hpk := hide (Hp.out x C[k] (List.getElem_mem hlt))
      have Hn := hide (hi.out.trans (by rw [List.drop_eq_getElem_cons hlt, idx]))
      obtain ⟨e, he⟩ : ∃ e, e = C[k] := ⟨_, rfl⟩
      rw [← he] at hcell hpk Hn
      have hrange : Hid (x.val.rangeAt b (off + k * 7) e.cells) := fun j u h => (x.cell hb).trans (hcell j u h)
      obtain ⟨q, hq⟩ : ∃ q, p e = q := ⟨_, rfl⟩
      rw [hq] at hpk Hn
      have HK := hide hlt
      clear hcell he hq hi hlt
      cases q
      · go_wp2_with (first | (refine wpList_load_mid rfl 45 (.tmp 14) rfl b (off + k * 7) rfl e.cells _ hrange.out Try.underlying45 rfl (by rw [Cl.cells_len]; kernel_rfl) ?_) | (go_at_call 58; refine (hpk.out.over x).mono ?_; rintro _ _ ⟨y, hy, rfl, rfl⟩))
        go_roundw
        case rel => exact ⟨k + 1, HK.out, by go_num, ⟨y, rfl⟩, Hn.out⟩
        case measure => have := HK.out; simp [intOf]; omega
      · go_wp2_with (first | (refine wpList_load_mid rfl 45 (.tmp 14) rfl b (off + k * 7) rfl e.cells _ hrange.out Try.underlying45 rfl (by rw [Cl.cells_len]; kernel_rfl) ?_) | (go_at_call 58; refine (hpk.out.over x).mono ?_; rintro _ _ ⟨y, hy, rfl, rfl⟩))
        go_ret
        exact ⟨ret_int (by rw [Hn.out]; rfl), y.below⟩
    · obtain rfl : k = C.length := by omega
      have HE : Hid (idx p C 0 = -1) := by have := hi.out; rw [List.drop_length] at this; exact this
      have hlt' : ¬ (C.length : Int) < (C.length : Int) := by omega
      go_wp2_with fail
      go_ret
      exact ⟨ret_int HE.out.symm, x.below⟩

theorem find_any (w : World) (A : Option Addr) (c : Nat) (C : List Cl) (s : ByteArray) (hl : C.length ≤ 9223372036854775807) (hs : Lies w 7 Cl.cells A C) :
    Gives Try.prog 51 #[.slice A C.length c, .string s] w (.int .i64 (findC C s)) := by
  refine Gives.mk ?_
  have h1 : (w.alloc (.cells #[.string s] 9)).cell? ⟨w.heap.size, 0, none⟩ = some (.string s) := by rw [World.cell?_alloc_at _ _ _ _ rfl]; rfl
  have hz : w.heap.size < (w.alloc (.cells #[.string s] 9)).heap.size := by simp
  have H1 := hide (indexC_any (w.alloc (.cells #[.string s] 9)) A c (.pointer (some ⟨w.heap.size, 0, none⟩)) C (isName s) hl (hs.alloc _) (fun x o _ => find1_any x.val o s _ (x.lt hz) ((x.cell hz).trans h1)))
  clear h1 hz hs
  go_enter Try.func51, Try.ntmps51
  go_wp2_with (go_at_call 57; refine H1.out.mono ?_; rintro _ _ ⟨y, rfl, rfl⟩)
  go_ret
  refine ⟨rfl, ?_⟩
  repeat (first | exact Below.refl _ _ | exact Nat.le_refl _ | assumption | refine below_ext ?_ ?_ _ | refine Below.alloc ?_ ?_ _ | refine Below.drew ?_ | refine Below.setCell ?_ ?_ _ | refine Ext.le _ ?_ | refine le_alloc ?_ | refine le_drew ?_ | refine le_setCell ?_)
  all_goals omega

set_option maxHeartbeats 1000000 in
theorem refFind_any (w : World) (A : Option Addr) (c : Nat) (C : List Cl) (s : ByteArray) (hl : C.length ≤ 9223372036854775807) (hs : Lies w 7 Cl.cells A C) :
    Calls Try.prog 24 #[.slice A C.length c, .string s] w fun e w' => e = .returned (.int .i64 (findC C s)) ∧ w = w' := by
  have HS := hide hs
  clear hs
  go_enter Try.func24, Try.ntmps24
  go_wp2_with fail
  go_loop [5] (fun s5 => ∃ k : Nat, k ≤ C.length ∧ s5 = .int .i64 k ∧ Hid (findC C s = idx (isName s) (C.drop k) k)) (fun s5 => C.length - (intOf s5).toNat)
  case atStart => exact ⟨0, Nat.zero_le _, rfl, rfl⟩
  case round =>
    obtain ⟨k, hk, rfl, hi⟩ := hrel
    by_cases hlt : k < C.length
    · obtain ⟨b, off, rfl, hb, hcell⟩ := HS.out k hlt
      have hlt' : (k : Int) < (C.length : Int) := by omega
      have Hn := hide (hi.out.trans (by rw [List.drop_eq_getElem_cons hlt, idx]))
      obtain ⟨e, he⟩ : ∃ e, e = C[k] := ⟨_, rfl⟩
      rw [← he] at hcell Hn
      have a0 : w.cell? ⟨b, off + k * 7, none⟩ = some (.string e.name) := hcell 0 _ rfl
      have HK := hide hlt
      clear hcell he hi hlt
      cases hq : isName s e
      · rw [hq] at Hn
        have hq' : (e.name.toList == s.toList) = false := hq
        clear hq
        go_wp2_with fail
        go_round
        case rel => exact ⟨k + 1, HK.out, by go_num, Hn.out⟩
        case measure => have := HK.out; simp [intOf]; omega
      · rw [hq] at Hn
        have hq' : (e.name.toList == s.toList) = true := hq
        clear hq
        go_wp2_with fail
        go_ret
        exact ⟨ret_int (by rw [Hn.out]; rfl), rfl⟩
    · obtain rfl : k = C.length := by omega
      have HE : Hid (findC C s = -1) := by have := hi.out; rw [List.drop_length] at this; exact this
      have hlt' : ¬ (C.length : Int) < (C.length : Int) := by omega
      go_wp2_with fail
      go_ret
      exact ⟨ret_int HE.out.symm, rfl⟩

theorem idx_spec (p : Cl → Bool) : ∀ (l : List Cl) (i : Nat), (idx p l i = -1 ∧ l.find? p = none) ∨ ∃ (k : Nat) (h : k < l.length), idx p l i = ((i + k : Nat) : Int) ∧ l.find? p = some l[k]
  | [], _ => .inl ⟨rfl, rfl⟩
  | a :: l, i => by
    rw [idx, List.find?_cons]
    cases h : p a
    · rcases idx_spec p l (i + 1) with ⟨h1, h2⟩ | ⟨k, hk, h1, h2⟩
      · exact .inl ⟨h1, h2⟩
      · exact .inr ⟨k + 1, Nat.succ_lt_succ hk, by rw [if_neg (by simp), h1]; congr 1; omega, h2⟩
    · exact .inr ⟨0, Nat.zero_lt_succ _, rfl, rfl⟩

theorem arity_any (w : World) (A : Option Addr) (c : Nat) (C : List Cl) (s : ByteArray) (hl : C.length ≤ 9223372036854775807) (hs : Lies w 7 Cl.cells A C) :
    Gives Try.prog 36 #[.slice A C.length c, .string s] w (.int .i64 (arity C s)) := by
  refine Gives.mk ?_
  have H1 : Hid (Gives Try.prog 51 #[.slice A C.length c, .string s] w (.int .i64 (findC C s))) := by
    show Gives _ _ _ _ _
    first | exact find_any w A c C s hl hs | exact Calls.mono (refFind_any w A c C s hl hs) (fun e w' h => ⟨Ext.here w, h.1, h.2.symm⟩)
  have hsp := idx_spec (isName s) C 0
  unfold findC at H1
  rcases hsp with ⟨h1, h2⟩ | ⟨k, hk, h1, h2⟩
  · have HE : Hid (arity C s = -1) := by show _ = _; unfold arity; rw [h2]
    rw [h1] at H1
    clear h1 h2 hs
    go_enter Try.func36, Try.ntmps36
    go_wp2_with (go_at_call 51; refine H1.out.mono ?_; rintro _ _ ⟨y, rfl, rfl⟩)
    go_ret
    exact ⟨ret_int HE.out.symm, y.below⟩
  · have HE : Hid (arity C s = C[k].params.length) := by show _ = _; unfold arity; rw [h2]
    rw [h1, Nat.zero_add] at H1
    obtain ⟨b, off, rfl, hb, hcell⟩ := hs k hk
    obtain ⟨e, he⟩ : ∃ e, e = C[k] := ⟨_, rfl⟩
    rw [← he] at hcell HE
    have a1 : w.cell? ⟨b, off + k * 7 + 1, none⟩ = some (.slice e.pA e.params.length e.pc) := hcell 1 _ rfl
    have hk' : (k : Int) < (C.length : Int) := by omega
    clear h1 h2 hs hcell he hk
    go_enter Try.func36, Try.ntmps36
    go_wp2_with (go_at_call 51; refine H1.out.mono ?_; rintro _ _ ⟨y, rfl, rfl⟩)
    go_ret
    exact ⟨ret_int HE.out.symm, y.below⟩

theorem refArity_any (w : World) (A : Option Addr) (c : Nat) (C : List Cl) (s : ByteArray) (hl : C.length ≤ 9223372036854775807) (hs : Lies w 7 Cl.cells A C) :
    Gives Try.prog 38 #[.slice A C.length c, .string s] w (.int .i64 (arity C s)) := by
  refine Gives.mk ?_
  have H1 : Hid (Gives Try.prog 24 #[.slice A C.length c, .string s] w (.int .i64 (findC C s))) := by
    show Gives _ _ _ _ _
    first | exact find_any w A c C s hl hs | exact Calls.mono (refFind_any w A c C s hl hs) (fun e w' h => ⟨Ext.here w, h.1, h.2.symm⟩)
  have hsp := idx_spec (isName s) C 0
  unfold findC at H1
  rcases hsp with ⟨h1, h2⟩ | ⟨k, hk, h1, h2⟩
  · have HE : Hid (arity C s = -1) := by show _ = _; unfold arity; rw [h2]
    rw [h1] at H1
    clear h1 h2 hs
    go_enter Try.func38, Try.ntmps38
    go_wp2_with (go_at_call 24; refine H1.out.mono ?_; rintro _ _ ⟨y, rfl, rfl⟩)
    go_ret
    exact ⟨ret_int HE.out.symm, y.below⟩
  · have HE : Hid (arity C s = C[k].params.length) := by show _ = _; unfold arity; rw [h2]
    rw [h1, Nat.zero_add] at H1
    obtain ⟨b, off, rfl, hb, hcell⟩ := hs k hk
    obtain ⟨e, he⟩ : ∃ e, e = C[k] := ⟨_, rfl⟩
    rw [← he] at hcell HE
    have a1 : w.cell? ⟨b, off + k * 7 + 1, none⟩ = some (.slice e.pA e.params.length e.pc) := hcell 1 _ rfl
    have hk' : (k : Int) < (C.length : Int) := by omega
    clear h1 h2 hs hcell he hk
    go_enter Try.func38, Try.ntmps38
    go_wp2_with (go_at_call 24; refine H1.out.mono ?_; rintro _ _ ⟨y, rfl, rfl⟩)
    go_ret
    exact ⟨ret_int HE.out.symm, y.below⟩

end Go.Proofs.Ytfebpmaaaiaccaa
