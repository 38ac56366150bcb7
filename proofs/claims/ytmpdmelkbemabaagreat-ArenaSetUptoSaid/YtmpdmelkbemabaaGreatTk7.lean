/- Tokens by their places. -/
import Derived.Test.YtmpdmelkbemabaaGreatRows
import Derived.Test.YtmpdmelkbemabaaGreatCls
import Derived.Test.YtmpdmelkbemabaaGreatSet
import Derived.BigGuardPart
import Derived.Deep.DeepCutAuto
import Derived.Test.YtmpdmelkbemabaaGreatIdx
import Derived.Test.YtmpdmelkbemabaaGreatApp
set_option linter.unusedSimpArgs false
set_option linter.unusedVariables false
namespace Go.Proofs.YtmpdmelkbemabaaGreat
open Go.RowKit Go.Proofs.Grow

def letB (n : Int) : Bool := decide ((97 ≤ n ∧ n ≤ 122) ∨ (65 ≤ n ∧ n ≤ 90))
def digB (n : Int) : Bool := decide (48 ≤ n ∧ n ≤ 57)
def blkB (n : Int) : Bool := decide (n = 9 ∨ n = 10 ∨ n = 13 ∨ n = 32)

set_option maxHeartbeats 1000000 in
theorem letter_any (n : Int) (w : World) : Calls Tryz.prog 51 #[.int .u8 n] w fun e w' => e = .returned (.bool (letB n)) ∧ w = w' := by
  go_enter Tryz.func51, Tryz.ntmps51
  go_wp2_with fail
  all_goals
    go_ret
    exact ⟨ret_bool (by rw [Bool.eq_iff_iff]; simp [letB]; try omega), rfl⟩
set_option maxHeartbeats 1000000 in
theorem digit_any (n : Int) (w : World) : Calls Tryz.prog 52 #[.int .u8 n] w fun e w' => e = .returned (.bool (digB n)) ∧ w = w' := by
  go_enter Tryz.func52, Tryz.ntmps52
  go_wp2_with fail
  all_goals
    go_ret
    exact ⟨ret_bool (by rw [Bool.eq_iff_iff]; simp [digB]; try omega), rfl⟩
set_option maxHeartbeats 1000000 in
theorem blank_any (n : Int) (w : World) : Calls Tryz.prog 50 #[.int .u8 n] w fun e w' => e = .returned (.bool (blkB n)) ∧ w = w' := by
  go_enter Tryz.func50, Tryz.ntmps50
  go_wp2_with fail
  all_goals
    go_ret
    exact ⟨ret_bool (by rw [Bool.eq_iff_iff]; simp [blkB]; try omega), rfl⟩

/-- The bytes. -/
def byt (s : ByteArray) (k : Nat) : Int := ((s.data.toList[k]?).getD 0).toNat
theorem byt_eq {s : ByteArray} {k : Nat} (h : k < s.size) : ((s[k]'h).toNat : Int) = byt s k := by
  unfold byt
  have : s.data.toList[k]? = some (s[k]'h) := by
    rw [List.getElem?_eq_getElem (by simpa using h)]
    rfl
  rw [this]
  rfl

set_option maxHeartbeats 1000000 in
/-- Blanks ahead, and no remark behind them. -/
theorem skip_blanks (s : ByteArray) (n : Nat) (hn : n ≤ s.size) (hs : s.size ≤ 16384) (hb : ∀ k, k < n → blkB (byt s k) = true) (he : n < s.size → blkB (byt s n) = false ∧ byt s n ≠ 47) (w : World) :
    Calls Tryz.prog 35 #[.string s] w fun e w' => e = .returned (.int .i64 n) ∧ w = w' := by
  have HB := hide hb
  have HE := hide he
  clear hb he
  go_enter Tryz.func35, Tryz.ntmps35
  go_wp2_with fail
  go_loop [3] (fun s3 => ∃ k : Nat, s3 = .int .i64 k ∧ k ≤ n) (fun s3 => n - (intOf s3).toNat)
  case atStart => exact ⟨0, rfl, Nat.zero_le _⟩
  case round =>
    obtain ⟨k, rfl, hk⟩ := hrel
    by_cases hlt : k < n
    · have hks : k < s.size := by omega
      have hb1 := HB.out k hlt
      rw [← byt_eq hks] at hb1
      have Hb := hide hb1
      have hlt9 := hide hlt
      clear hb1 hlt
      go_wp2_with (go_at_call 50; refine (blank_any _ w).mono ?_; rintro _ _ ⟨rfl, rfl⟩; rw [Hb.out])
      go_round
      case rel => exact ⟨k + 1, by go_num, Nat.succ_le_of_lt hlt9.out⟩
      case measure => have := hlt9.out; simp [intOf]; omega
    · obtain rfl : k = n := by omega
      by_cases hks : k < s.size
      · obtain ⟨h1, h2⟩ := HE.out hks
        rw [← byt_eq hks] at h1 h2
        have Hb := hide h1
        have h2 : (((s[k]'hks).toNat : Int) != 47) = true := by simpa using h2
        clear h1
        go_wp2_with (go_at_call 50; refine (blank_any _ w).mono ?_; rintro _ _ ⟨rfl, rfl⟩; rw [Hb.out])
        all_goals
          go_ret
          exact ⟨rfl, rfl⟩
      · obtain rfl : k = s.size := by omega
        have hks' : ¬ (s.size : Int) < (s.size : Int) := by omega
        go_wp2_with fail
        go_ret
        exact ⟨rfl, rfl⟩
end Go.Proofs.YtmpdmelkbemabaaGreat
set_option linter.unusedSimpArgs false
set_option linter.unusedVariables false
namespace Go.Proofs.YtmpdmelkbemabaaGreat
open Go.RowKit Go.Proofs.Grow

def wordsL : List ByteArray := [⟨#[99, 108, 97, 115, 115]⟩, ⟨#[101, 120, 116, 101, 110, 100, 115]⟩, ⟨#[114, 101, 112]⟩, ⟨#[112, 101, 101, 114]⟩, ⟨#[119, 111, 114, 108, 100]⟩, ⟨#[97, 110, 121]⟩, ⟨#[117, 110, 105, 113, 117, 101]⟩, ⟨#[112, 117, 114, 101]⟩, ⟨#[118, 111, 105, 100]⟩, ⟨#[105, 110, 116]⟩, ⟨#[105, 102]⟩, ⟨#[101, 108, 115, 101]⟩, ⟨#[119, 104, 105, 108, 101]⟩, ⟨#[114, 101, 116, 117, 114, 110]⟩, ⟨#[110, 101, 119]⟩, ⟨#[109, 111, 118, 101]⟩, ⟨#[100, 101, 108, 101, 116, 101]⟩, ⟨#[116, 104, 105, 115]⟩, ⟨#[110, 117, 108, 108]⟩, ⟨#[105, 110, 112, 117, 116]⟩, ⟨#[110, 105, 108]⟩, ⟨#[115, 97, 109, 101]⟩, ⟨#[99, 97, 115, 116]⟩]
def findS (l : List ByteArray) (s : ByteArray) (k : Nat) : Int := match l with
  | [] => 0
  | a :: l => if a.toList == s.toList then ((k + 1 : Nat) : Int) else findS l s (k + 1)
theorem encStr_len (s : ByteArray) : (encStr s).length = 1 := rfl

set_option maxHeartbeats 1000000 in
set_option maxRecDepth 100000 in
theorem words_any (w : World) : Calls Tryz.prog 65 #[] w fun e w' => ∃ (x : Ext w) (A : Option Addr), e = .returned (.slice A 23 23) ∧ w' = x.val ∧ Lies x.val 1 encStr A wordsL := by
  go_enter Tryz.func65, Tryz.ntmps65
  go_wp2_with fail
  go_ret
  refine ⟨⟨_, (Below.refl _ _).alloc (Nat.le_refl _) _⟩, some ⟨w.heap.size, 0, none⟩, rfl, rfl, ?_⟩
  exact Lies.fresh (enc := encStr) (e := 9) w wordsL #[.string ⟨#[99, 108, 97, 115, 115]⟩, .string ⟨#[101, 120, 116, 101, 110, 100, 115]⟩, .string ⟨#[114, 101, 112]⟩, .string ⟨#[112, 101, 101, 114]⟩, .string ⟨#[119, 111, 114, 108, 100]⟩, .string ⟨#[97, 110, 121]⟩, .string ⟨#[117, 110, 105, 113, 117, 101]⟩, .string ⟨#[112, 117, 114, 101]⟩, .string ⟨#[118, 111, 105, 100]⟩, .string ⟨#[105, 110, 116]⟩, .string ⟨#[105, 102]⟩, .string ⟨#[101, 108, 115, 101]⟩, .string ⟨#[119, 104, 105, 108, 101]⟩, .string ⟨#[114, 101, 116, 117, 114, 110]⟩, .string ⟨#[110, 101, 119]⟩, .string ⟨#[109, 111, 118, 101]⟩, .string ⟨#[100, 101, 108, 101, 116, 101]⟩, .string ⟨#[116, 104, 105, 115]⟩, .string ⟨#[110, 117, 108, 108]⟩, .string ⟨#[105, 110, 112, 117, 116]⟩, .string ⟨#[110, 105, 108]⟩, .string ⟨#[115, 97, 109, 101]⟩, .string ⟨#[99, 97, 115, 116]⟩] encStr_len rfl

set_option maxHeartbeats 1000000 in
set_option maxRecDepth 100000 in
theorem find_any (s : ByteArray) (w : World) : Gives Tryz.prog 53 #[.string s] w (.int .i64 (findS wordsL s 0)) := by
  refine Gives.mk ?_
  obtain ⟨L, hL⟩ : ∃ L, L = wordsL := ⟨_, rfl⟩
  have hlen : L.length = 23 := by rw [hL]; rfl
  have HW := words_any w
  rw [← hL] at HW ⊢
  have HW := hide HW
  have HLen := hide hlen
  clear hL hlen
  go_enter Tryz.func53, Tryz.ntmps53
  go_wp2_with (go_at_call 65; refine HW.out.mono ?_; rintro _ _ ⟨x, A, rfl, rfl, hl⟩)
  have HS := hide hl
  clear hl
  go_loop [4] (fun s4 => ∃ k : Nat, k ≤ 23 ∧ s4 = .int .i64 k ∧ Hid (findS L s 0 = findS (L.drop k) s k)) (fun s4 => 23 - (intOf s4).toNat)
  case atStart => exact ⟨0, Nat.zero_le _, rfl, rfl⟩
  case round =>
    obtain ⟨k, hk, rfl, hi⟩ := hrel
    by_cases hlt : k < 23
    · have hkL : k < L.length := by rw [HLen.out]; exact hlt
      obtain ⟨b, off, rfl, hb, hcell⟩ := HS.out k hkL
      have hlt' : (k : Int) < 23 := by omega
      have Hn := hide (hi.out.trans (by rw [List.drop_eq_getElem_cons hkL, findS]))
      obtain ⟨e, he⟩ : ∃ e, e = L[k] := ⟨_, rfl⟩
      rw [← he] at hcell Hn
      have a0 : x.val.cell? ⟨b, off + k, none⟩ = some (.string e) := by have := hcell 0 _ rfl; simpa using this
      have HK := hide hlt
      clear hcell he hi hlt hkL
      cases hq : (e.toList == s.toList)
      · rw [hq] at Hn
        go_wp2_with fail
        go_round
        case rel => exact ⟨k + 1, HK.out, by go_num, by have := Hn.out; show _ = _; simpa using this⟩
        case measure => have := HK.out; simp [intOf]; omega
      · rw [hq] at Hn
        have HE : Hid (findS L s 0 = (k : Int) + 1) := by have := Hn.out; show _ = _; simpa using this
        go_wp2_with fail
        go_ret
        exact ⟨ret_int HE.out.symm, x.below⟩
    · obtain rfl : k = 23 := by omega
      have HE : Hid (findS L s 0 = 0) := by have := hi.out; rw [List.drop_of_length_le (by rw [HLen.out]; exact Nat.le_refl _)] at this; exact this
      go_wp2_with fail
      go_ret
      exact ⟨ret_int HE.out.symm, x.below⟩

set_option maxHeartbeats 1000000 in
theorem number_no (s : ByteArray) (w : World) (h1 : 1 ≤ s.size) (h9 : s.size ≤ 9) (hd : digB (byt s 0) = false) : Calls Tryz.prog 37 #[.string s] w fun e w' => e = .returned (.tuple #[.int .i64 0, .bool false]) ∧ w = w' := by
  have h0 : 0 < s.size := by omega
  rw [← byt_eq h0] at hd
  have hn48 : (((s[0]'h0).toNat : Int) == 48) = false := by
    rw [beq_eq_false_iff_ne]
    intro e
    rw [e] at hd
    simp [digB] at hd
  have HD := hide hd
  clear hd
  go_enter Tryz.func37, Tryz.ntmps37
  go_wp2_with fail
  go_loop [5] (fun s5 => s5 = .int .i64 0) (fun _ => 0)
  case atStart => rfl
  case round =>
    subst hrel
    go_wp2_with (go_at_call 52; refine (digit_any _ w).mono ?_; rintro _ _ ⟨rfl, rfl⟩; rw [HD.out])
    go_ret2
    exact ⟨rfl, rfl⟩

def sgL : ByteArray := ⟨#[123, 125, 40, 41, 60, 62, 44, 59, 46, 61, 43, 45, 42, 33]⟩

theorem toList_ne {s : ByteArray} (h : 0 < s.size) : (s.toList == []) = false := by
  rw [beq_eq_false_iff_ne]
  intro e
  have h2 := congrArg List.length e
  rw [ByteArray.toList_eq] at h2
  simp at h2
  rw [h2] at h
  simp at h
set_option maxHeartbeats 2000000 in
theorem sign_one (s : ByteArray) (w : World) (i : Nat) (hi : i < 14) (h1 : 1 ≤ s.size) (h16 : s.size ≤ 16384) (h2 : 1 < s.size → (s.extract 0 2).toList ≠ [61, 61] ∧ (s.extract 0 2).toList ≠ [38, 38]) (he : byt sgL i = byt s 0) (hlt : ∀ k, k < i → byt sgL k ≠ byt s 0) : Gives Tryz.prog 54 #[.string s] w (.string (s.extract 0 1)) := by
  refine Gives.mk ?_
  have h0 : 0 < s.size := by omega
  have HE := hide he
  have HL := hide hlt
  have hne := toList_ne h0
  clear he hlt
  by_cases hs1 : 1 < s.size
  · obtain ⟨a1, a2⟩ := h2 hs1
    have a1' : ((s.extract 0 2).toList == [61, 61]) = false := by simpa using a1
    have a2' : ((s.extract 0 2).toList == [38, 38]) = false := by simpa using a2
    have hs1' : (1 : Int) < (s.size : Int) := by omega
    clear h2
    go_enter Tryz.func54, Tryz.ntmps54
    go_wp2_with fail
    go_loopw [4] (fun s4 wr => ∃ k : Nat, s4 = .int .i64 k ∧ k ≤ i ∧ ∃ x : Ext w, wr = x.val) (fun s4 _ => i - (intOf s4).toNat)
    case atStart => exact ⟨0, rfl, Nat.zero_le _, Ext.here w, rfl⟩
    case round =>
      obtain ⟨k, rfl, hk, x, rfl⟩ := hrel
      have hk14 : k < 14 := by omega
      have hk14' : (k : Int) < 14 := by omega
      have hsz : k < (⟨#[123, 125, 40, 41, 60, 62, 44, 59, 46, 61, 43, 45, 42, 33]⟩ : ByteArray).size := hk14
      have e1 : (((⟨#[123, 125, 40, 41, 60, 62, 44, 59, 46, 61, 43, 45, 42, 33]⟩ : ByteArray)[k]'hsz).toNat : Int) = byt sgL k := byt_eq (s := sgL) hsz
      by_cases hki : k = i
      · have hb : ((((⟨#[123, 125, 40, 41, 60, 62, 44, 59, 46, 61, 43, 45, 42, 33]⟩ : ByteArray)[k]'hsz).toNat : Int) == ((s[0]'h0).toNat : Int)) = true := by rw [e1, byt_eq h0, hki]; simpa using HE.out
        clear e1 hki
        go_wp2_with fail
        refine wp_region_ext (by kernel_rfl) (by kernel_rfl) ?_
        repeat (go_big_quiet_step ((first | fail)))
        refine wpQuiet_nil ?_
        intro _ hw'
        obtain ⟨u, hw''⟩ := hw'
        subst hw''
        go_wp2_with fail
        go_ret
        exact ⟨rfl, x.below.trans (u.below.mono x.below.size)⟩
      · have hlt : k < i := by omega
        have hb : ((((⟨#[123, 125, 40, 41, 60, 62, 44, 59, 46, 61, 43, 45, 42, 33]⟩ : ByteArray)[k]'hsz).toNat : Int) == ((s[0]'h0).toNat : Int)) = false := by rw [e1, byt_eq h0]; simpa using HL.out k hlt
        have hlt9 := hide hlt
        clear e1 hki hlt
        go_wp2_with fail
        refine wp_region_ext (by kernel_rfl) (by kernel_rfl) ?_
        repeat (go_big_quiet_step ((first | fail)))
        refine wpQuiet_nil ?_
        intro _ hw'
        obtain ⟨u, hw''⟩ := hw'
        subst hw''
        go_wp2_with fail
        go_roundw
        case rel => exact ⟨k + 1, by go_num, Nat.succ_le_of_lt hlt9.out, x.step u.below, rfl⟩
        case measure => have := hlt9.out; simp [intOf]; omega
  · have hs1' : ¬ (1 : Int) < (s.size : Int) := by omega
    clear h2
    go_enter Tryz.func54, Tryz.ntmps54
    go_wp2_with fail
    go_loopw [4] (fun s4 wr => ∃ k : Nat, s4 = .int .i64 k ∧ k ≤ i ∧ ∃ x : Ext w, wr = x.val) (fun s4 _ => i - (intOf s4).toNat)
    case atStart => exact ⟨0, rfl, Nat.zero_le _, Ext.here w, rfl⟩
    case round =>
      obtain ⟨k, rfl, hk, x, rfl⟩ := hrel
      have hk14 : k < 14 := by omega
      have hk14' : (k : Int) < 14 := by omega
      have hsz : k < (⟨#[123, 125, 40, 41, 60, 62, 44, 59, 46, 61, 43, 45, 42, 33]⟩ : ByteArray).size := hk14
      have e1 : (((⟨#[123, 125, 40, 41, 60, 62, 44, 59, 46, 61, 43, 45, 42, 33]⟩ : ByteArray)[k]'hsz).toNat : Int) = byt sgL k := byt_eq (s := sgL) hsz
      by_cases hki : k = i
      · have hb : ((((⟨#[123, 125, 40, 41, 60, 62, 44, 59, 46, 61, 43, 45, 42, 33]⟩ : ByteArray)[k]'hsz).toNat : Int) == ((s[0]'h0).toNat : Int)) = true := by rw [e1, byt_eq h0, hki]; simpa using HE.out
        clear e1 hki
        go_wp2_with fail
        refine wp_region_ext (by kernel_rfl) (by kernel_rfl) ?_
        repeat (go_big_quiet_step ((first | fail)))
        refine wpQuiet_nil ?_
        intro _ hw'
        obtain ⟨u, hw''⟩ := hw'
        subst hw''
        go_wp2_with fail
        go_ret
        exact ⟨rfl, x.below.trans (u.below.mono x.below.size)⟩
      · have hlt : k < i := by omega
        have hb : ((((⟨#[123, 125, 40, 41, 60, 62, 44, 59, 46, 61, 43, 45, 42, 33]⟩ : ByteArray)[k]'hsz).toNat : Int) == ((s[0]'h0).toNat : Int)) = false := by rw [e1, byt_eq h0]; simpa using HL.out k hlt
        have hlt9 := hide hlt
        clear e1 hki hlt
        go_wp2_with fail
        refine wp_region_ext (by kernel_rfl) (by kernel_rfl) ?_
        repeat (go_big_quiet_step ((first | fail)))
        refine wpQuiet_nil ?_
        intro _ hw'
        obtain ⟨u, hw''⟩ := hw'
        subst hw''
        go_wp2_with fail
        go_roundw
        case rel => exact ⟨k + 1, by go_num, Nat.succ_le_of_lt hlt9.out, x.step u.below, rfl⟩
        case measure => have := hlt9.out; simp [intOf]; omega
end Go.Proofs.YtmpdmelkbemabaaGreat
set_option linter.unusedSimpArgs false
set_option linter.unusedVariables false
namespace Go.Proofs.YtmpdmelkbemabaaGreat
open Go.RowKit Go.Proofs.Grow

theorem row_fill {W : World} {g : Nat} {t : TypeId} {old cs : Array Value} (h : W.heap[g]? = some (.cells old t (0, 0))) (hs : old.size = cs.size) : (W.setCells g 0 cs.toList).heap[g]? = some (.cells cs t (0, 0)) := by
  obtain ⟨cur', h1, h2⟩ := setCells_row g t cs.toList 0 W _ h (by simp; omega)
  have e : cur' = cs := by
    apply Array.toList_inj.1
    rw [h2]
    simp
    omega
  rw [e] at h1
  exact h1
theorem row_there {W : World} {g : Nat} {t : TypeId} {cs : Array Value} (h : W.heap[g]? = some (.cells cs t (0, 0))) (n : Nat) (hn : n ≤ cs.size) : W.there g 0 n := fun j hj => by
  rw [cell_of_row W g _ _ _ _ h]
  have hlt : j < cs.size := by omega
  exact ⟨by simp [hlt], by simp [World.frozen?, h]⟩
def tokC (kd : Int) (tx : ByteArray) (a : Int) : List Value := [.int .i64 kd, .string tx, .int .i64 a]

set_option maxHeartbeats 2000000 in
theorem one_name (s : ByteArray) (w : World) (n : Nat) (h1 : 1 ≤ n) (hn : n ≤ s.size) (h16 : s.size ≤ 16384) (hl : letB (byt s 0) = true) (hall : ∀ k, k < n → (letB (byt s k) || digB (byt s k)) = true) (hend : n < s.size → letB (byt s n) = false ∧ digB (byt s n) = false) (kd : Int) (hkd : kd = if 0 < findS wordsL (s.extract 0 n) 0 then 3 else 1) :
    Gives Tryz.prog 36 #[.string s] w (.agg #[.int .i64 kd, .string (s.extract 0 n), .int .i64 0]) := by
  refine Gives.mk ?_
  have h0 : 0 < s.size := by omega
  rw [← byt_eq h0] at hl
  have HL0 := hide hl
  have HA := hide hall
  have HE := hide hend
  have HK := hide hkd
  have hn' : (n : Int) ≤ (s.size : Int) := by omega
  clear hl hall hend hkd
  go_enter Tryz.func36, Tryz.ntmps36
  go_wp2_with (go_at_call 51; refine (letter_any _ _).mono ?_; rintro _ _ ⟨rfl, rfl⟩; rw [HL0.out])
  obtain ⟨w1, hw1⟩ : ∃ w1, w1 = w.alloc (.cells #[.int .i64 0, .string ⟨#[]⟩, .int .i64 0] 84) := ⟨_, rfl⟩
  have hB1 : Hid (Below w.heap.size w w1) := by show Below _ _ _; rw [hw1]; exact (Below.refl _ _).alloc (Nat.le_refl _) _
  have hrow : Hid (w1.heap[w.heap.size]? = some (.cells #[.int .i64 0, .string ⟨#[]⟩, .int .i64 0] 84 (0, 0))) := by rw [hw1]; exact heap_alloc_new w _
  rw [← hw1]
  clear hw1
  go_loop [3] (fun s3 => ∃ k : Nat, s3 = .int .i64 k ∧ k ≤ n) (fun s3 => n - (intOf s3).toNat)
  case atStart => exact ⟨0, rfl, Nat.zero_le _⟩
  case round =>
    obtain ⟨k, rfl, hk⟩ := hrel
    by_cases hlt : k < n
    · have hks : k < s.size := by omega
      have hks' : (k : Int) < (s.size : Int) := by omega
      have ha := HA.out k hlt
      rw [← byt_eq hks] at ha
      have hlt9 := hide hlt
      obtain ⟨lb, hlb⟩ : ∃ lb, letB ((s[k]'hks).toNat : Int) = lb := ⟨_, rfl⟩
      rw [hlb] at ha
      have HLb := hide hlb
      clear hlb hlt
      cases lb with
      | true =>
        clear ha
        go_wp2_with (go_at_call 51; refine (letter_any _ _).mono ?_; rintro _ _ ⟨rfl, rfl⟩; rw [HLb.out])
        go_round
        case rel => exact ⟨k + 1, by go_num, Nat.succ_le_of_lt hlt9.out⟩
        case measure => have := hlt9.out; simp [intOf]; omega
      | false =>
        have HD := hide (show digB ((s[k]'hks).toNat : Int) = true by simpa using ha)
        clear ha
        go_wp2_with (first | (go_at_call 51; refine (letter_any _ _).mono ?_; rintro _ _ ⟨rfl, rfl⟩; rw [HLb.out]) | (go_at_call 52; refine (digit_any _ _).mono ?_; rintro _ _ ⟨rfl, rfl⟩; rw [HD.out]))
        go_round
        case rel => exact ⟨k + 1, by go_num, Nat.succ_le_of_lt hlt9.out⟩
        case measure => have := hlt9.out; simp [intOf]; omega
    · obtain rfl : k = n := by omega
      obtain ⟨f, hf⟩ : ∃ f, findS wordsL (s.extract 0 k) 0 = f := ⟨_, rfl⟩
      have HF := hide (find_any (s.extract 0 k))
      rw [hf] at HF
      have HK2 := HK.out
      rw [hf] at HK2
      have HK2 := hide HK2
      clear hf hlt
      have harm : Hid (∀ x : Ext w1, x.val.heap[w.heap.size]? = some (.cells #[.int .i64 0, .string ⟨#[]⟩, .int .i64 0] 84 (0, 0))) := fun x => (x.below.block _ (row_lt hrow.out)).trans hrow.out
      by_cases hks : k < s.size
      · have hks' : (k : Int) < (s.size : Int) := by omega
        obtain ⟨e1, e2⟩ := HE.out hks
        rw [← byt_eq hks] at e1 e2
        have HLb := hide e1
        have HD := hide e2
        clear e1 e2
        by_cases hf0 : 0 < f
        · have hf1 : 0 < f := hf0
          go_wp2_with (first | (go_at_call 51; refine (letter_any _ _).mono ?_; rintro _ _ ⟨rfl, rfl⟩; rw [HLb.out]) | (go_at_call 52; refine (digit_any _ _).mono ?_; rintro _ _ ⟨rfl, rfl⟩; rw [HD.out]) | (go_at_call 53; refine (HF.out _).mono ?_; rintro _ _ ⟨x, rfl, rfl⟩; have hth := hide (row_there (harm.out x) 3 (Nat.le_refl _))) | (refine wpList_store_mid rfl 84 (.tmp 2) (.tmp 33) rfl w.heap.size 0 (#[.int .i64 3, .string (s.extract 0 k), .int .i64 0]) rfl rfl hth.out (by kernel_rfl) (by simp [Value.oneCell']) ?_))
          have hr3 := row_fill (cs := #[.int .i64 3, .string (s.extract 0 k), .int .i64 0]) (harm.out x) rfl
          have q0 := (row_cell (cs := [_, _, _]) hr3 (j := 0) rfl).1
          have q1 := (row_cell (cs := [_, _, _]) hr3 (j := 1) rfl).1
          have q2 := (row_cell (cs := [_, _, _]) hr3 (j := 2) rfl).1
          refine bodyPost_ret (v := .agg #[.int .i64 3, .string (s.extract 0 k), .int .i64 0]) ?_ ?_ ?_
          · simp [results, Tryz.f36, go_sem] at q0 q1 q2 ⊢
            simp [q0, q1, q2]
          · rfl
          · refine ⟨by rw [HK2.out]; simp [hf0], ?_⟩
            exact (hB1.out.trans (x.below.mono hB1.out.size)).trans (setCells_below (Nat.le_refl _) _ 0 _)
        · have hf1 : ¬ 0 < f := hf0
          go_wp2_with (first | (go_at_call 51; refine (letter_any _ _).mono ?_; rintro _ _ ⟨rfl, rfl⟩; rw [HLb.out]) | (go_at_call 52; refine (digit_any _ _).mono ?_; rintro _ _ ⟨rfl, rfl⟩; rw [HD.out]) | (go_at_call 53; refine (HF.out _).mono ?_; rintro _ _ ⟨x, rfl, rfl⟩; have hth := hide (row_there (harm.out x) 3 (Nat.le_refl _))) | (refine wpList_store_mid rfl 84 (.tmp 2) (.tmp 37) rfl w.heap.size 0 (#[.int .i64 1, .string (s.extract 0 k), .int .i64 0]) rfl rfl hth.out (by kernel_rfl) (by simp [Value.oneCell']) ?_))
          have hr3 := row_fill (cs := #[.int .i64 1, .string (s.extract 0 k), .int .i64 0]) (harm.out x) rfl
          have q0 := (row_cell (cs := [_, _, _]) hr3 (j := 0) rfl).1
          have q1 := (row_cell (cs := [_, _, _]) hr3 (j := 1) rfl).1
          have q2 := (row_cell (cs := [_, _, _]) hr3 (j := 2) rfl).1
          refine bodyPost_ret (v := .agg #[.int .i64 1, .string (s.extract 0 k), .int .i64 0]) ?_ ?_ ?_
          · simp [results, Tryz.f36, go_sem] at q0 q1 q2 ⊢
            simp [q0, q1, q2]
          · rfl
          · refine ⟨by rw [HK2.out]; simp [hf0], ?_⟩
            exact (hB1.out.trans (x.below.mono hB1.out.size)).trans (setCells_below (Nat.le_refl _) _ 0 _)
      · have hks' : ¬ (k : Int) < (s.size : Int) := by omega
        by_cases hf0 : 0 < f
        · have hf1 : 0 < f := hf0
          go_wp2_with (first | (go_at_call 53; refine (HF.out _).mono ?_; rintro _ _ ⟨x, rfl, rfl⟩; have hth := hide (row_there (harm.out x) 3 (Nat.le_refl _))) | (refine wpList_store_mid rfl 84 (.tmp 2) (.tmp 33) rfl w.heap.size 0 (#[.int .i64 3, .string (s.extract 0 k), .int .i64 0]) rfl rfl hth.out (by kernel_rfl) (by simp [Value.oneCell']) ?_))
          have hr3 := row_fill (cs := #[.int .i64 3, .string (s.extract 0 k), .int .i64 0]) (harm.out x) rfl
          have q0 := (row_cell (cs := [_, _, _]) hr3 (j := 0) rfl).1
          have q1 := (row_cell (cs := [_, _, _]) hr3 (j := 1) rfl).1
          have q2 := (row_cell (cs := [_, _, _]) hr3 (j := 2) rfl).1
          refine bodyPost_ret (v := .agg #[.int .i64 3, .string (s.extract 0 k), .int .i64 0]) ?_ ?_ ?_
          · simp [results, Tryz.f36, go_sem] at q0 q1 q2 ⊢
            simp [q0, q1, q2]
          · rfl
          · refine ⟨by rw [HK2.out]; simp [hf0], ?_⟩
            exact (hB1.out.trans (x.below.mono hB1.out.size)).trans (setCells_below (Nat.le_refl _) _ 0 _)
        · have hf1 : ¬ 0 < f := hf0
          go_wp2_with (first | (go_at_call 53; refine (HF.out _).mono ?_; rintro _ _ ⟨x, rfl, rfl⟩; have hth := hide (row_there (harm.out x) 3 (Nat.le_refl _))) | (refine wpList_store_mid rfl 84 (.tmp 2) (.tmp 37) rfl w.heap.size 0 (#[.int .i64 1, .string (s.extract 0 k), .int .i64 0]) rfl rfl hth.out (by kernel_rfl) (by simp [Value.oneCell']) ?_))
          have hr3 := row_fill (cs := #[.int .i64 1, .string (s.extract 0 k), .int .i64 0]) (harm.out x) rfl
          have q0 := (row_cell (cs := [_, _, _]) hr3 (j := 0) rfl).1
          have q1 := (row_cell (cs := [_, _, _]) hr3 (j := 1) rfl).1
          have q2 := (row_cell (cs := [_, _, _]) hr3 (j := 2) rfl).1
          refine bodyPost_ret (v := .agg #[.int .i64 1, .string (s.extract 0 k), .int .i64 0]) ?_ ?_ ?_
          · simp [results, Tryz.f36, go_sem] at q0 q1 q2 ⊢
            simp [q0, q1, q2]
          · rfl
          · refine ⟨by rw [HK2.out]; simp [hf0], ?_⟩
            exact (hB1.out.trans (x.below.mono hB1.out.size)).trans (setCells_below (Nat.le_refl _) _ 0 _)

set_option maxHeartbeats 2000000 in
theorem one_sign (s : ByteArray) (w : World) (i : Nat) (hi : i < 14) (h1 : 1 ≤ s.size) (h16 : s.size ≤ 16384) (h2 : 1 < s.size → (s.extract 0 2).toList ≠ [61, 61] ∧ (s.extract 0 2).toList ≠ [38, 38]) (he : byt sgL i = byt s 0) (hlt : ∀ k, k < i → byt sgL k ≠ byt s 0) (hl : letB (byt s 0) = false) (hd : digB (byt s 0) = false) :
    Gives Tryz.prog 36 #[.string s] w (.agg #[.int .i64 4, .string (s.extract 0 1), .int .i64 0]) := by
  refine Gives.mk ?_
  have h0 : 0 < s.size := by omega
  have HS := hide (fun W => sign_one s W i hi h1 h16 h2 he hlt)
  rw [← byt_eq h0] at hl hd
  have HLb := hide hl
  have HD := hide hd
  have hne : ((s.extract 0 1).toList == []) = false := toList_ne (by simp; omega)
  clear hl hd h2 he hlt
  go_enter Tryz.func36, Tryz.ntmps36
  go_upto_region 1 with fail
  obtain ⟨w1, hw1⟩ : ∃ w1, w1 = w.alloc (.cells #[.int .i64 0, .string ⟨#[]⟩, .int .i64 0] 84) := ⟨_, rfl⟩
  have hB1 : Hid (Below w.heap.size w w1) := by show Below _ _ _; rw [hw1]; exact (Below.refl _ _).alloc (Nat.le_refl _) _
  have hrow : Hid (w1.heap[w.heap.size]? = some (.cells #[.int .i64 0, .string ⟨#[]⟩, .int .i64 0] 84 (0, 0))) := by rw [hw1]; exact heap_alloc_new w _
  rw [← hw1]
  clear hw1
  have harm : Hid (∀ x : Ext w1, x.val.heap[w.heap.size]? = some (.cells #[.int .i64 0, .string ⟨#[]⟩, .int .i64 0] 84 (0, 0))) := fun x => (x.below.block _ (row_lt hrow.out)).trans hrow.out
  go_upto_region 13 with (first | (go_at_call 51; refine (letter_any _ _).mono ?_; rintro _ _ ⟨rfl, rfl⟩; rw [HLb.out]) | (go_at_call 52; refine (digit_any _ _).mono ?_; rintro _ _ ⟨rfl, rfl⟩; rw [HD.out]) | (go_at_call 54; refine (HS.out _).mono ?_; rintro _ _ ⟨x0, rfl, rfl⟩))
  go_wp2_with (first | (go_at_call 54; refine ((HS.out x0.val).over x0).mono ?_; rintro _ _ ⟨x, _, rfl, rfl⟩; have hth := hide (row_there (harm.out x) 3 (Nat.le_refl _))) | (refine wpList_store_mid rfl 84 (.tmp 2) (.tmp 62) rfl w.heap.size 0 (#[.int .i64 4, .string (s.extract 0 1), .int .i64 0]) rfl rfl hth.out (by kernel_rfl) (by simp [Value.oneCell']) ?_))
  have hr3 := row_fill (cs := #[.int .i64 4, .string (s.extract 0 1), .int .i64 0]) (harm.out x) rfl
  have q0 := (row_cell (cs := [_, _, _]) hr3 (j := 0) rfl).1
  have q1 := (row_cell (cs := [_, _, _]) hr3 (j := 1) rfl).1
  have q2 := (row_cell (cs := [_, _, _]) hr3 (j := 2) rfl).1
  refine bodyPost_ret (v := .agg #[.int .i64 4, .string (s.extract 0 1), .int .i64 0]) ?_ ?_ ?_
  · simp [results, Tryz.f36, go_sem] at q0 q1 q2 ⊢
    simp [q0, q1, q2]
  · rfl
  · refine ⟨rfl, ?_⟩
    exact (hB1.out.trans (x.below.mono hB1.out.size)).trans (setCells_below (Nat.le_refl _) _ 0 _)
end Go.Proofs.YtmpdmelkbemabaaGreat
set_option linter.unusedSimpArgs false
set_option linter.unusedVariables false
namespace Go.Proofs.YtmpdmelkbemabaaGreat
open Go.RowKit Go.Proofs.Grow

structure Tk where
  k : Int
  tx : ByteArray
  pos : Int
def Tk.cells (t : Tk) : List Value := [.int .i64 t.k, .string t.tx, .int .i64 t.pos]
theorem Tk.cells_len (t : Tk) : t.cells.length = 3 := rfl
theorem Tk.cells_one (t : Tk) : ∀ u ∈ t.cells, u.oneCell' = true := by
  intro u hu
  simp only [Tk.cells, List.mem_cons, List.not_mem_nil, or_false] at hu
  rcases hu with rfl | rfl | rfl <;> rfl
def exT : ByteArray := ⟨#[99, 108, 97, 115, 115, 32, 65, 32, 123, 32, 105, 110, 116, 32, 110, 59, 32, 65, 32, 109, 40, 41, 32, 123, 32, 65, 32, 120, 59, 32, 120, 32, 61, 32, 110, 101, 119, 32, 65, 59, 32, 125, 32, 125]⟩
def exL : List Tk := [⟨3, ⟨#[99, 108, 97, 115, 115]⟩, 0⟩, ⟨1, ⟨#[65]⟩, 6⟩, ⟨4, ⟨#[123]⟩, 8⟩, ⟨3, ⟨#[105, 110, 116]⟩, 10⟩, ⟨1, ⟨#[110]⟩, 14⟩, ⟨4, ⟨#[59]⟩, 15⟩, ⟨1, ⟨#[65]⟩, 17⟩, ⟨1, ⟨#[109]⟩, 19⟩, ⟨4, ⟨#[40]⟩, 20⟩, ⟨4, ⟨#[41]⟩, 21⟩, ⟨4, ⟨#[123]⟩, 23⟩, ⟨1, ⟨#[65]⟩, 25⟩, ⟨1, ⟨#[120]⟩, 27⟩, ⟨4, ⟨#[59]⟩, 28⟩, ⟨1, ⟨#[120]⟩, 30⟩, ⟨4, ⟨#[61]⟩, 32⟩, ⟨3, ⟨#[110, 101, 119]⟩, 34⟩, ⟨1, ⟨#[65]⟩, 38⟩, ⟨4, ⟨#[59]⟩, 39⟩, ⟨4, ⟨#[125]⟩, 41⟩, ⟨4, ⟨#[125]⟩, 43⟩]
def findD (l : List ByteArray) (s : ByteArray) (k : Nat) : Int := match l with
  | [] => 0
  | a :: l => if a.data.toList == s.data.toList then ((k + 1 : Nat) : Int) else findD l s (k + 1)
theorem findS_eq (l : List ByteArray) (s : ByteArray) (k : Nat) : findS l s k = findD l s k := by
  induction l generalizing k with
  | nil => rfl
  | cons a l ih => rw [findS, findD, ih, ByteArray.toList_eq, ByteArray.toList_eq]
theorem one_0 (w : World) : Gives Tryz.prog 36 #[.string ⟨#[99, 108, 97, 115, 115, 32, 65, 32, 123, 32, 105, 110, 116, 32, 110, 59, 32, 65, 32, 109, 40, 41, 32, 123, 32, 65, 32, 120, 59, 32, 120, 32, 61, 32, 110, 101, 119, 32, 65, 59, 32, 125, 32, 125]⟩] w (.agg #[.int .i64 3, .string ⟨#[99, 108, 97, 115, 115]⟩, .int .i64 0]) := one_name ⟨#[99, 108, 97, 115, 115, 32, 65, 32, 123, 32, 105, 110, 116, 32, 110, 59, 32, 65, 32, 109, 40, 41, 32, 123, 32, 65, 32, 120, 59, 32, 120, 32, 61, 32, 110, 101, 119, 32, 65, 59, 32, 125, 32, 125]⟩ w 5 (by decide) (by decide) (by decide) (by decide) (by decide) (by decide) 3 (by rw [findS_eq]; decide)
theorem skip_0 (w : World) : Calls Tryz.prog 35 #[.string ⟨#[32, 65, 32, 123, 32, 105, 110, 116, 32, 110, 59, 32, 65, 32, 109, 40, 41, 32, 123, 32, 65, 32, 120, 59, 32, 120, 32, 61, 32, 110, 101, 119, 32, 65, 59, 32, 125, 32, 125]⟩] w fun e w' => e = .returned (.int .i64 1) ∧ w = w' := skip_blanks ⟨#[32, 65, 32, 123, 32, 105, 110, 116, 32, 110, 59, 32, 65, 32, 109, 40, 41, 32, 123, 32, 65, 32, 120, 59, 32, 120, 32, 61, 32, 110, 101, 119, 32, 65, 59, 32, 125, 32, 125]⟩ 1 (by decide) (by decide) (by decide) (by decide) w
theorem num_0 (w : World) : Calls Tryz.prog 37 #[.string ⟨#[99, 108, 97, 115, 115]⟩] w fun e w' => e = .returned (.tuple #[.int .i64 0, .bool false]) ∧ w = w' := number_no ⟨#[99, 108, 97, 115, 115]⟩ w (by decide) (by decide) (by decide)
theorem one_1 (w : World) : Gives Tryz.prog 36 #[.string ⟨#[65, 32, 123, 32, 105, 110, 116, 32, 110, 59, 32, 65, 32, 109, 40, 41, 32, 123, 32, 65, 32, 120, 59, 32, 120, 32, 61, 32, 110, 101, 119, 32, 65, 59, 32, 125, 32, 125]⟩] w (.agg #[.int .i64 1, .string ⟨#[65]⟩, .int .i64 0]) := one_name ⟨#[65, 32, 123, 32, 105, 110, 116, 32, 110, 59, 32, 65, 32, 109, 40, 41, 32, 123, 32, 65, 32, 120, 59, 32, 120, 32, 61, 32, 110, 101, 119, 32, 65, 59, 32, 125, 32, 125]⟩ w 1 (by decide) (by decide) (by decide) (by decide) (by decide) (by decide) 1 (by rw [findS_eq]; decide)
theorem skip_1 (w : World) : Calls Tryz.prog 35 #[.string ⟨#[32, 123, 32, 105, 110, 116, 32, 110, 59, 32, 65, 32, 109, 40, 41, 32, 123, 32, 65, 32, 120, 59, 32, 120, 32, 61, 32, 110, 101, 119, 32, 65, 59, 32, 125, 32, 125]⟩] w fun e w' => e = .returned (.int .i64 1) ∧ w = w' := skip_blanks ⟨#[32, 123, 32, 105, 110, 116, 32, 110, 59, 32, 65, 32, 109, 40, 41, 32, 123, 32, 65, 32, 120, 59, 32, 120, 32, 61, 32, 110, 101, 119, 32, 65, 59, 32, 125, 32, 125]⟩ 1 (by decide) (by decide) (by decide) (by decide) w
theorem num_1 (w : World) : Calls Tryz.prog 37 #[.string ⟨#[65]⟩] w fun e w' => e = .returned (.tuple #[.int .i64 0, .bool false]) ∧ w = w' := number_no ⟨#[65]⟩ w (by decide) (by decide) (by decide)
theorem one_2 (w : World) : Gives Tryz.prog 36 #[.string ⟨#[123, 32, 105, 110, 116, 32, 110, 59, 32, 65, 32, 109, 40, 41, 32, 123, 32, 65, 32, 120, 59, 32, 120, 32, 61, 32, 110, 101, 119, 32, 65, 59, 32, 125, 32, 125]⟩] w (.agg #[.int .i64 4, .string ⟨#[123]⟩, .int .i64 0]) := one_sign ⟨#[123, 32, 105, 110, 116, 32, 110, 59, 32, 65, 32, 109, 40, 41, 32, 123, 32, 65, 32, 120, 59, 32, 120, 32, 61, 32, 110, 101, 119, 32, 65, 59, 32, 125, 32, 125]⟩ w 0 (by decide) (by decide) (by decide) (by rw [ByteArray.toList_eq]; decide) (by decide) (by decide) (by decide) (by decide)
theorem skip_2 (w : World) : Calls Tryz.prog 35 #[.string ⟨#[32, 105, 110, 116, 32, 110, 59, 32, 65, 32, 109, 40, 41, 32, 123, 32, 65, 32, 120, 59, 32, 120, 32, 61, 32, 110, 101, 119, 32, 65, 59, 32, 125, 32, 125]⟩] w fun e w' => e = .returned (.int .i64 1) ∧ w = w' := skip_blanks ⟨#[32, 105, 110, 116, 32, 110, 59, 32, 65, 32, 109, 40, 41, 32, 123, 32, 65, 32, 120, 59, 32, 120, 32, 61, 32, 110, 101, 119, 32, 65, 59, 32, 125, 32, 125]⟩ 1 (by decide) (by decide) (by decide) (by decide) w
theorem num_2 (w : World) : Calls Tryz.prog 37 #[.string ⟨#[123]⟩] w fun e w' => e = .returned (.tuple #[.int .i64 0, .bool false]) ∧ w = w' := number_no ⟨#[123]⟩ w (by decide) (by decide) (by decide)
theorem one_3 (w : World) : Gives Tryz.prog 36 #[.string ⟨#[105, 110, 116, 32, 110, 59, 32, 65, 32, 109, 40, 41, 32, 123, 32, 65, 32, 120, 59, 32, 120, 32, 61, 32, 110, 101, 119, 32, 65, 59, 32, 125, 32, 125]⟩] w (.agg #[.int .i64 3, .string ⟨#[105, 110, 116]⟩, .int .i64 0]) := one_name ⟨#[105, 110, 116, 32, 110, 59, 32, 65, 32, 109, 40, 41, 32, 123, 32, 65, 32, 120, 59, 32, 120, 32, 61, 32, 110, 101, 119, 32, 65, 59, 32, 125, 32, 125]⟩ w 3 (by decide) (by decide) (by decide) (by decide) (by decide) (by decide) 3 (by rw [findS_eq]; decide)
theorem skip_3 (w : World) : Calls Tryz.prog 35 #[.string ⟨#[32, 110, 59, 32, 65, 32, 109, 40, 41, 32, 123, 32, 65, 32, 120, 59, 32, 120, 32, 61, 32, 110, 101, 119, 32, 65, 59, 32, 125, 32, 125]⟩] w fun e w' => e = .returned (.int .i64 1) ∧ w = w' := skip_blanks ⟨#[32, 110, 59, 32, 65, 32, 109, 40, 41, 32, 123, 32, 65, 32, 120, 59, 32, 120, 32, 61, 32, 110, 101, 119, 32, 65, 59, 32, 125, 32, 125]⟩ 1 (by decide) (by decide) (by decide) (by decide) w
theorem num_3 (w : World) : Calls Tryz.prog 37 #[.string ⟨#[105, 110, 116]⟩] w fun e w' => e = .returned (.tuple #[.int .i64 0, .bool false]) ∧ w = w' := number_no ⟨#[105, 110, 116]⟩ w (by decide) (by decide) (by decide)
theorem one_4 (w : World) : Gives Tryz.prog 36 #[.string ⟨#[110, 59, 32, 65, 32, 109, 40, 41, 32, 123, 32, 65, 32, 120, 59, 32, 120, 32, 61, 32, 110, 101, 119, 32, 65, 59, 32, 125, 32, 125]⟩] w (.agg #[.int .i64 1, .string ⟨#[110]⟩, .int .i64 0]) := one_name ⟨#[110, 59, 32, 65, 32, 109, 40, 41, 32, 123, 32, 65, 32, 120, 59, 32, 120, 32, 61, 32, 110, 101, 119, 32, 65, 59, 32, 125, 32, 125]⟩ w 1 (by decide) (by decide) (by decide) (by decide) (by decide) (by decide) 1 (by rw [findS_eq]; decide)
theorem skip_4 (w : World) : Calls Tryz.prog 35 #[.string ⟨#[59, 32, 65, 32, 109, 40, 41, 32, 123, 32, 65, 32, 120, 59, 32, 120, 32, 61, 32, 110, 101, 119, 32, 65, 59, 32, 125, 32, 125]⟩] w fun e w' => e = .returned (.int .i64 0) ∧ w = w' := skip_blanks ⟨#[59, 32, 65, 32, 109, 40, 41, 32, 123, 32, 65, 32, 120, 59, 32, 120, 32, 61, 32, 110, 101, 119, 32, 65, 59, 32, 125, 32, 125]⟩ 0 (by decide) (by decide) (by decide) (by decide) w
theorem num_4 (w : World) : Calls Tryz.prog 37 #[.string ⟨#[110]⟩] w fun e w' => e = .returned (.tuple #[.int .i64 0, .bool false]) ∧ w = w' := number_no ⟨#[110]⟩ w (by decide) (by decide) (by decide)
theorem one_5 (w : World) : Gives Tryz.prog 36 #[.string ⟨#[59, 32, 65, 32, 109, 40, 41, 32, 123, 32, 65, 32, 120, 59, 32, 120, 32, 61, 32, 110, 101, 119, 32, 65, 59, 32, 125, 32, 125]⟩] w (.agg #[.int .i64 4, .string ⟨#[59]⟩, .int .i64 0]) := one_sign ⟨#[59, 32, 65, 32, 109, 40, 41, 32, 123, 32, 65, 32, 120, 59, 32, 120, 32, 61, 32, 110, 101, 119, 32, 65, 59, 32, 125, 32, 125]⟩ w 7 (by decide) (by decide) (by decide) (by rw [ByteArray.toList_eq]; decide) (by decide) (by decide) (by decide) (by decide)
theorem skip_5 (w : World) : Calls Tryz.prog 35 #[.string ⟨#[32, 65, 32, 109, 40, 41, 32, 123, 32, 65, 32, 120, 59, 32, 120, 32, 61, 32, 110, 101, 119, 32, 65, 59, 32, 125, 32, 125]⟩] w fun e w' => e = .returned (.int .i64 1) ∧ w = w' := skip_blanks ⟨#[32, 65, 32, 109, 40, 41, 32, 123, 32, 65, 32, 120, 59, 32, 120, 32, 61, 32, 110, 101, 119, 32, 65, 59, 32, 125, 32, 125]⟩ 1 (by decide) (by decide) (by decide) (by decide) w
theorem num_5 (w : World) : Calls Tryz.prog 37 #[.string ⟨#[59]⟩] w fun e w' => e = .returned (.tuple #[.int .i64 0, .bool false]) ∧ w = w' := number_no ⟨#[59]⟩ w (by decide) (by decide) (by decide)
theorem one_6 (w : World) : Gives Tryz.prog 36 #[.string ⟨#[65, 32, 109, 40, 41, 32, 123, 32, 65, 32, 120, 59, 32, 120, 32, 61, 32, 110, 101, 119, 32, 65, 59, 32, 125, 32, 125]⟩] w (.agg #[.int .i64 1, .string ⟨#[65]⟩, .int .i64 0]) := one_name ⟨#[65, 32, 109, 40, 41, 32, 123, 32, 65, 32, 120, 59, 32, 120, 32, 61, 32, 110, 101, 119, 32, 65, 59, 32, 125, 32, 125]⟩ w 1 (by decide) (by decide) (by decide) (by decide) (by decide) (by decide) 1 (by rw [findS_eq]; decide)
theorem skip_6 (w : World) : Calls Tryz.prog 35 #[.string ⟨#[32, 109, 40, 41, 32, 123, 32, 65, 32, 120, 59, 32, 120, 32, 61, 32, 110, 101, 119, 32, 65, 59, 32, 125, 32, 125]⟩] w fun e w' => e = .returned (.int .i64 1) ∧ w = w' := skip_blanks ⟨#[32, 109, 40, 41, 32, 123, 32, 65, 32, 120, 59, 32, 120, 32, 61, 32, 110, 101, 119, 32, 65, 59, 32, 125, 32, 125]⟩ 1 (by decide) (by decide) (by decide) (by decide) w
theorem num_6 (w : World) : Calls Tryz.prog 37 #[.string ⟨#[65]⟩] w fun e w' => e = .returned (.tuple #[.int .i64 0, .bool false]) ∧ w = w' := number_no ⟨#[65]⟩ w (by decide) (by decide) (by decide)
theorem one_7 (w : World) : Gives Tryz.prog 36 #[.string ⟨#[109, 40, 41, 32, 123, 32, 65, 32, 120, 59, 32, 120, 32, 61, 32, 110, 101, 119, 32, 65, 59, 32, 125, 32, 125]⟩] w (.agg #[.int .i64 1, .string ⟨#[109]⟩, .int .i64 0]) := one_name ⟨#[109, 40, 41, 32, 123, 32, 65, 32, 120, 59, 32, 120, 32, 61, 32, 110, 101, 119, 32, 65, 59, 32, 125, 32, 125]⟩ w 1 (by decide) (by decide) (by decide) (by decide) (by decide) (by decide) 1 (by rw [findS_eq]; decide)
theorem skip_7 (w : World) : Calls Tryz.prog 35 #[.string ⟨#[40, 41, 32, 123, 32, 65, 32, 120, 59, 32, 120, 32, 61, 32, 110, 101, 119, 32, 65, 59, 32, 125, 32, 125]⟩] w fun e w' => e = .returned (.int .i64 0) ∧ w = w' := skip_blanks ⟨#[40, 41, 32, 123, 32, 65, 32, 120, 59, 32, 120, 32, 61, 32, 110, 101, 119, 32, 65, 59, 32, 125, 32, 125]⟩ 0 (by decide) (by decide) (by decide) (by decide) w
theorem num_7 (w : World) : Calls Tryz.prog 37 #[.string ⟨#[109]⟩] w fun e w' => e = .returned (.tuple #[.int .i64 0, .bool false]) ∧ w = w' := number_no ⟨#[109]⟩ w (by decide) (by decide) (by decide)
theorem one_8 (w : World) : Gives Tryz.prog 36 #[.string ⟨#[40, 41, 32, 123, 32, 65, 32, 120, 59, 32, 120, 32, 61, 32, 110, 101, 119, 32, 65, 59, 32, 125, 32, 125]⟩] w (.agg #[.int .i64 4, .string ⟨#[40]⟩, .int .i64 0]) := one_sign ⟨#[40, 41, 32, 123, 32, 65, 32, 120, 59, 32, 120, 32, 61, 32, 110, 101, 119, 32, 65, 59, 32, 125, 32, 125]⟩ w 2 (by decide) (by decide) (by decide) (by rw [ByteArray.toList_eq]; decide) (by decide) (by decide) (by decide) (by decide)
theorem skip_8 (w : World) : Calls Tryz.prog 35 #[.string ⟨#[41, 32, 123, 32, 65, 32, 120, 59, 32, 120, 32, 61, 32, 110, 101, 119, 32, 65, 59, 32, 125, 32, 125]⟩] w fun e w' => e = .returned (.int .i64 0) ∧ w = w' := skip_blanks ⟨#[41, 32, 123, 32, 65, 32, 120, 59, 32, 120, 32, 61, 32, 110, 101, 119, 32, 65, 59, 32, 125, 32, 125]⟩ 0 (by decide) (by decide) (by decide) (by decide) w
theorem num_8 (w : World) : Calls Tryz.prog 37 #[.string ⟨#[40]⟩] w fun e w' => e = .returned (.tuple #[.int .i64 0, .bool false]) ∧ w = w' := number_no ⟨#[40]⟩ w (by decide) (by decide) (by decide)
theorem one_9 (w : World) : Gives Tryz.prog 36 #[.string ⟨#[41, 32, 123, 32, 65, 32, 120, 59, 32, 120, 32, 61, 32, 110, 101, 119, 32, 65, 59, 32, 125, 32, 125]⟩] w (.agg #[.int .i64 4, .string ⟨#[41]⟩, .int .i64 0]) := one_sign ⟨#[41, 32, 123, 32, 65, 32, 120, 59, 32, 120, 32, 61, 32, 110, 101, 119, 32, 65, 59, 32, 125, 32, 125]⟩ w 3 (by decide) (by decide) (by decide) (by rw [ByteArray.toList_eq]; decide) (by decide) (by decide) (by decide) (by decide)
theorem skip_9 (w : World) : Calls Tryz.prog 35 #[.string ⟨#[32, 123, 32, 65, 32, 120, 59, 32, 120, 32, 61, 32, 110, 101, 119, 32, 65, 59, 32, 125, 32, 125]⟩] w fun e w' => e = .returned (.int .i64 1) ∧ w = w' := skip_blanks ⟨#[32, 123, 32, 65, 32, 120, 59, 32, 120, 32, 61, 32, 110, 101, 119, 32, 65, 59, 32, 125, 32, 125]⟩ 1 (by decide) (by decide) (by decide) (by decide) w
theorem num_9 (w : World) : Calls Tryz.prog 37 #[.string ⟨#[41]⟩] w fun e w' => e = .returned (.tuple #[.int .i64 0, .bool false]) ∧ w = w' := number_no ⟨#[41]⟩ w (by decide) (by decide) (by decide)
theorem one_10 (w : World) : Gives Tryz.prog 36 #[.string ⟨#[123, 32, 65, 32, 120, 59, 32, 120, 32, 61, 32, 110, 101, 119, 32, 65, 59, 32, 125, 32, 125]⟩] w (.agg #[.int .i64 4, .string ⟨#[123]⟩, .int .i64 0]) := one_sign ⟨#[123, 32, 65, 32, 120, 59, 32, 120, 32, 61, 32, 110, 101, 119, 32, 65, 59, 32, 125, 32, 125]⟩ w 0 (by decide) (by decide) (by decide) (by rw [ByteArray.toList_eq]; decide) (by decide) (by decide) (by decide) (by decide)
theorem skip_10 (w : World) : Calls Tryz.prog 35 #[.string ⟨#[32, 65, 32, 120, 59, 32, 120, 32, 61, 32, 110, 101, 119, 32, 65, 59, 32, 125, 32, 125]⟩] w fun e w' => e = .returned (.int .i64 1) ∧ w = w' := skip_blanks ⟨#[32, 65, 32, 120, 59, 32, 120, 32, 61, 32, 110, 101, 119, 32, 65, 59, 32, 125, 32, 125]⟩ 1 (by decide) (by decide) (by decide) (by decide) w
theorem num_10 (w : World) : Calls Tryz.prog 37 #[.string ⟨#[123]⟩] w fun e w' => e = .returned (.tuple #[.int .i64 0, .bool false]) ∧ w = w' := number_no ⟨#[123]⟩ w (by decide) (by decide) (by decide)
theorem one_11 (w : World) : Gives Tryz.prog 36 #[.string ⟨#[65, 32, 120, 59, 32, 120, 32, 61, 32, 110, 101, 119, 32, 65, 59, 32, 125, 32, 125]⟩] w (.agg #[.int .i64 1, .string ⟨#[65]⟩, .int .i64 0]) := one_name ⟨#[65, 32, 120, 59, 32, 120, 32, 61, 32, 110, 101, 119, 32, 65, 59, 32, 125, 32, 125]⟩ w 1 (by decide) (by decide) (by decide) (by decide) (by decide) (by decide) 1 (by rw [findS_eq]; decide)
theorem skip_11 (w : World) : Calls Tryz.prog 35 #[.string ⟨#[32, 120, 59, 32, 120, 32, 61, 32, 110, 101, 119, 32, 65, 59, 32, 125, 32, 125]⟩] w fun e w' => e = .returned (.int .i64 1) ∧ w = w' := skip_blanks ⟨#[32, 120, 59, 32, 120, 32, 61, 32, 110, 101, 119, 32, 65, 59, 32, 125, 32, 125]⟩ 1 (by decide) (by decide) (by decide) (by decide) w
theorem num_11 (w : World) : Calls Tryz.prog 37 #[.string ⟨#[65]⟩] w fun e w' => e = .returned (.tuple #[.int .i64 0, .bool false]) ∧ w = w' := number_no ⟨#[65]⟩ w (by decide) (by decide) (by decide)
theorem one_12 (w : World) : Gives Tryz.prog 36 #[.string ⟨#[120, 59, 32, 120, 32, 61, 32, 110, 101, 119, 32, 65, 59, 32, 125, 32, 125]⟩] w (.agg #[.int .i64 1, .string ⟨#[120]⟩, .int .i64 0]) := one_name ⟨#[120, 59, 32, 120, 32, 61, 32, 110, 101, 119, 32, 65, 59, 32, 125, 32, 125]⟩ w 1 (by decide) (by decide) (by decide) (by decide) (by decide) (by decide) 1 (by rw [findS_eq]; decide)
theorem skip_12 (w : World) : Calls Tryz.prog 35 #[.string ⟨#[59, 32, 120, 32, 61, 32, 110, 101, 119, 32, 65, 59, 32, 125, 32, 125]⟩] w fun e w' => e = .returned (.int .i64 0) ∧ w = w' := skip_blanks ⟨#[59, 32, 120, 32, 61, 32, 110, 101, 119, 32, 65, 59, 32, 125, 32, 125]⟩ 0 (by decide) (by decide) (by decide) (by decide) w
theorem num_12 (w : World) : Calls Tryz.prog 37 #[.string ⟨#[120]⟩] w fun e w' => e = .returned (.tuple #[.int .i64 0, .bool false]) ∧ w = w' := number_no ⟨#[120]⟩ w (by decide) (by decide) (by decide)
theorem one_13 (w : World) : Gives Tryz.prog 36 #[.string ⟨#[59, 32, 120, 32, 61, 32, 110, 101, 119, 32, 65, 59, 32, 125, 32, 125]⟩] w (.agg #[.int .i64 4, .string ⟨#[59]⟩, .int .i64 0]) := one_sign ⟨#[59, 32, 120, 32, 61, 32, 110, 101, 119, 32, 65, 59, 32, 125, 32, 125]⟩ w 7 (by decide) (by decide) (by decide) (by rw [ByteArray.toList_eq]; decide) (by decide) (by decide) (by decide) (by decide)
theorem skip_13 (w : World) : Calls Tryz.prog 35 #[.string ⟨#[32, 120, 32, 61, 32, 110, 101, 119, 32, 65, 59, 32, 125, 32, 125]⟩] w fun e w' => e = .returned (.int .i64 1) ∧ w = w' := skip_blanks ⟨#[32, 120, 32, 61, 32, 110, 101, 119, 32, 65, 59, 32, 125, 32, 125]⟩ 1 (by decide) (by decide) (by decide) (by decide) w
theorem num_13 (w : World) : Calls Tryz.prog 37 #[.string ⟨#[59]⟩] w fun e w' => e = .returned (.tuple #[.int .i64 0, .bool false]) ∧ w = w' := number_no ⟨#[59]⟩ w (by decide) (by decide) (by decide)
theorem one_14 (w : World) : Gives Tryz.prog 36 #[.string ⟨#[120, 32, 61, 32, 110, 101, 119, 32, 65, 59, 32, 125, 32, 125]⟩] w (.agg #[.int .i64 1, .string ⟨#[120]⟩, .int .i64 0]) := one_name ⟨#[120, 32, 61, 32, 110, 101, 119, 32, 65, 59, 32, 125, 32, 125]⟩ w 1 (by decide) (by decide) (by decide) (by decide) (by decide) (by decide) 1 (by rw [findS_eq]; decide)
theorem skip_14 (w : World) : Calls Tryz.prog 35 #[.string ⟨#[32, 61, 32, 110, 101, 119, 32, 65, 59, 32, 125, 32, 125]⟩] w fun e w' => e = .returned (.int .i64 1) ∧ w = w' := skip_blanks ⟨#[32, 61, 32, 110, 101, 119, 32, 65, 59, 32, 125, 32, 125]⟩ 1 (by decide) (by decide) (by decide) (by decide) w
theorem num_14 (w : World) : Calls Tryz.prog 37 #[.string ⟨#[120]⟩] w fun e w' => e = .returned (.tuple #[.int .i64 0, .bool false]) ∧ w = w' := number_no ⟨#[120]⟩ w (by decide) (by decide) (by decide)
theorem one_15 (w : World) : Gives Tryz.prog 36 #[.string ⟨#[61, 32, 110, 101, 119, 32, 65, 59, 32, 125, 32, 125]⟩] w (.agg #[.int .i64 4, .string ⟨#[61]⟩, .int .i64 0]) := one_sign ⟨#[61, 32, 110, 101, 119, 32, 65, 59, 32, 125, 32, 125]⟩ w 9 (by decide) (by decide) (by decide) (by rw [ByteArray.toList_eq]; decide) (by decide) (by decide) (by decide) (by decide)
theorem skip_15 (w : World) : Calls Tryz.prog 35 #[.string ⟨#[32, 110, 101, 119, 32, 65, 59, 32, 125, 32, 125]⟩] w fun e w' => e = .returned (.int .i64 1) ∧ w = w' := skip_blanks ⟨#[32, 110, 101, 119, 32, 65, 59, 32, 125, 32, 125]⟩ 1 (by decide) (by decide) (by decide) (by decide) w
theorem num_15 (w : World) : Calls Tryz.prog 37 #[.string ⟨#[61]⟩] w fun e w' => e = .returned (.tuple #[.int .i64 0, .bool false]) ∧ w = w' := number_no ⟨#[61]⟩ w (by decide) (by decide) (by decide)
theorem one_16 (w : World) : Gives Tryz.prog 36 #[.string ⟨#[110, 101, 119, 32, 65, 59, 32, 125, 32, 125]⟩] w (.agg #[.int .i64 3, .string ⟨#[110, 101, 119]⟩, .int .i64 0]) := one_name ⟨#[110, 101, 119, 32, 65, 59, 32, 125, 32, 125]⟩ w 3 (by decide) (by decide) (by decide) (by decide) (by decide) (by decide) 3 (by rw [findS_eq]; decide)
theorem skip_16 (w : World) : Calls Tryz.prog 35 #[.string ⟨#[32, 65, 59, 32, 125, 32, 125]⟩] w fun e w' => e = .returned (.int .i64 1) ∧ w = w' := skip_blanks ⟨#[32, 65, 59, 32, 125, 32, 125]⟩ 1 (by decide) (by decide) (by decide) (by decide) w
theorem num_16 (w : World) : Calls Tryz.prog 37 #[.string ⟨#[110, 101, 119]⟩] w fun e w' => e = .returned (.tuple #[.int .i64 0, .bool false]) ∧ w = w' := number_no ⟨#[110, 101, 119]⟩ w (by decide) (by decide) (by decide)
theorem one_17 (w : World) : Gives Tryz.prog 36 #[.string ⟨#[65, 59, 32, 125, 32, 125]⟩] w (.agg #[.int .i64 1, .string ⟨#[65]⟩, .int .i64 0]) := one_name ⟨#[65, 59, 32, 125, 32, 125]⟩ w 1 (by decide) (by decide) (by decide) (by decide) (by decide) (by decide) 1 (by rw [findS_eq]; decide)
theorem skip_17 (w : World) : Calls Tryz.prog 35 #[.string ⟨#[59, 32, 125, 32, 125]⟩] w fun e w' => e = .returned (.int .i64 0) ∧ w = w' := skip_blanks ⟨#[59, 32, 125, 32, 125]⟩ 0 (by decide) (by decide) (by decide) (by decide) w
theorem num_17 (w : World) : Calls Tryz.prog 37 #[.string ⟨#[65]⟩] w fun e w' => e = .returned (.tuple #[.int .i64 0, .bool false]) ∧ w = w' := number_no ⟨#[65]⟩ w (by decide) (by decide) (by decide)
theorem one_18 (w : World) : Gives Tryz.prog 36 #[.string ⟨#[59, 32, 125, 32, 125]⟩] w (.agg #[.int .i64 4, .string ⟨#[59]⟩, .int .i64 0]) := one_sign ⟨#[59, 32, 125, 32, 125]⟩ w 7 (by decide) (by decide) (by decide) (by rw [ByteArray.toList_eq]; decide) (by decide) (by decide) (by decide) (by decide)
theorem skip_18 (w : World) : Calls Tryz.prog 35 #[.string ⟨#[32, 125, 32, 125]⟩] w fun e w' => e = .returned (.int .i64 1) ∧ w = w' := skip_blanks ⟨#[32, 125, 32, 125]⟩ 1 (by decide) (by decide) (by decide) (by decide) w
theorem num_18 (w : World) : Calls Tryz.prog 37 #[.string ⟨#[59]⟩] w fun e w' => e = .returned (.tuple #[.int .i64 0, .bool false]) ∧ w = w' := number_no ⟨#[59]⟩ w (by decide) (by decide) (by decide)
theorem one_19 (w : World) : Gives Tryz.prog 36 #[.string ⟨#[125, 32, 125]⟩] w (.agg #[.int .i64 4, .string ⟨#[125]⟩, .int .i64 0]) := one_sign ⟨#[125, 32, 125]⟩ w 1 (by decide) (by decide) (by decide) (by rw [ByteArray.toList_eq]; decide) (by decide) (by decide) (by decide) (by decide)
theorem skip_19 (w : World) : Calls Tryz.prog 35 #[.string ⟨#[32, 125]⟩] w fun e w' => e = .returned (.int .i64 1) ∧ w = w' := skip_blanks ⟨#[32, 125]⟩ 1 (by decide) (by decide) (by decide) (by decide) w
theorem num_19 (w : World) : Calls Tryz.prog 37 #[.string ⟨#[125]⟩] w fun e w' => e = .returned (.tuple #[.int .i64 0, .bool false]) ∧ w = w' := number_no ⟨#[125]⟩ w (by decide) (by decide) (by decide)
theorem one_20 (w : World) : Gives Tryz.prog 36 #[.string ⟨#[125]⟩] w (.agg #[.int .i64 4, .string ⟨#[125]⟩, .int .i64 0]) := one_sign ⟨#[125]⟩ w 1 (by decide) (by decide) (by decide) (by rw [ByteArray.toList_eq]; decide) (by decide) (by decide) (by decide) (by decide)
theorem skip_20 (w : World) : Calls Tryz.prog 35 #[.string ⟨#[]⟩] w fun e w' => e = .returned (.int .i64 0) ∧ w = w' := skip_blanks ⟨#[]⟩ 0 (by decide) (by decide) (by decide) (by decide) w
theorem num_20 (w : World) : Calls Tryz.prog 37 #[.string ⟨#[125]⟩] w fun e w' => e = .returned (.tuple #[.int .i64 0, .bool false]) ∧ w = w' := number_no ⟨#[125]⟩ w (by decide) (by decide) (by decide)
end Go.Proofs.YtmpdmelkbemabaaGreat
set_option linter.unusedSimpArgs false
set_option linter.unusedVariables false
namespace Go.Proofs.YtmpdmelkbemabaaGreat
open Go.RowKit Go.Proofs.Grow

def exP : List Nat := [0, 6, 8, 10, 14, 15, 17, 19, 20, 21, 23, 25, 27, 28, 30, 32, 34, 38, 39, 41, 43, 44]
theorem ex_0 : exT.extract 0 exT.size = ⟨#[99, 108, 97, 115, 115, 32, 65, 32, 123, 32, 105, 110, 116, 32, 110, 59, 32, 65, 32, 109, 40, 41, 32, 123, 32, 65, 32, 120, 59, 32, 120, 32, 61, 32, 110, 101, 119, 32, 65, 59, 32, 125, 32, 125]⟩ := by decide
theorem ex_5 : exT.extract 5 exT.size = ⟨#[32, 65, 32, 123, 32, 105, 110, 116, 32, 110, 59, 32, 65, 32, 109, 40, 41, 32, 123, 32, 65, 32, 120, 59, 32, 120, 32, 61, 32, 110, 101, 119, 32, 65, 59, 32, 125, 32, 125]⟩ := by decide
theorem ex_6 : exT.extract 6 exT.size = ⟨#[65, 32, 123, 32, 105, 110, 116, 32, 110, 59, 32, 65, 32, 109, 40, 41, 32, 123, 32, 65, 32, 120, 59, 32, 120, 32, 61, 32, 110, 101, 119, 32, 65, 59, 32, 125, 32, 125]⟩ := by decide
theorem ex_7 : exT.extract 7 exT.size = ⟨#[32, 123, 32, 105, 110, 116, 32, 110, 59, 32, 65, 32, 109, 40, 41, 32, 123, 32, 65, 32, 120, 59, 32, 120, 32, 61, 32, 110, 101, 119, 32, 65, 59, 32, 125, 32, 125]⟩ := by decide
theorem ex_8 : exT.extract 8 exT.size = ⟨#[123, 32, 105, 110, 116, 32, 110, 59, 32, 65, 32, 109, 40, 41, 32, 123, 32, 65, 32, 120, 59, 32, 120, 32, 61, 32, 110, 101, 119, 32, 65, 59, 32, 125, 32, 125]⟩ := by decide
theorem ex_9 : exT.extract 9 exT.size = ⟨#[32, 105, 110, 116, 32, 110, 59, 32, 65, 32, 109, 40, 41, 32, 123, 32, 65, 32, 120, 59, 32, 120, 32, 61, 32, 110, 101, 119, 32, 65, 59, 32, 125, 32, 125]⟩ := by decide
theorem ex_10 : exT.extract 10 exT.size = ⟨#[105, 110, 116, 32, 110, 59, 32, 65, 32, 109, 40, 41, 32, 123, 32, 65, 32, 120, 59, 32, 120, 32, 61, 32, 110, 101, 119, 32, 65, 59, 32, 125, 32, 125]⟩ := by decide
theorem ex_13 : exT.extract 13 exT.size = ⟨#[32, 110, 59, 32, 65, 32, 109, 40, 41, 32, 123, 32, 65, 32, 120, 59, 32, 120, 32, 61, 32, 110, 101, 119, 32, 65, 59, 32, 125, 32, 125]⟩ := by decide
theorem ex_14 : exT.extract 14 exT.size = ⟨#[110, 59, 32, 65, 32, 109, 40, 41, 32, 123, 32, 65, 32, 120, 59, 32, 120, 32, 61, 32, 110, 101, 119, 32, 65, 59, 32, 125, 32, 125]⟩ := by decide
theorem ex_15 : exT.extract 15 exT.size = ⟨#[59, 32, 65, 32, 109, 40, 41, 32, 123, 32, 65, 32, 120, 59, 32, 120, 32, 61, 32, 110, 101, 119, 32, 65, 59, 32, 125, 32, 125]⟩ := by decide
theorem ex_16 : exT.extract 16 exT.size = ⟨#[32, 65, 32, 109, 40, 41, 32, 123, 32, 65, 32, 120, 59, 32, 120, 32, 61, 32, 110, 101, 119, 32, 65, 59, 32, 125, 32, 125]⟩ := by decide
theorem ex_17 : exT.extract 17 exT.size = ⟨#[65, 32, 109, 40, 41, 32, 123, 32, 65, 32, 120, 59, 32, 120, 32, 61, 32, 110, 101, 119, 32, 65, 59, 32, 125, 32, 125]⟩ := by decide
theorem ex_18 : exT.extract 18 exT.size = ⟨#[32, 109, 40, 41, 32, 123, 32, 65, 32, 120, 59, 32, 120, 32, 61, 32, 110, 101, 119, 32, 65, 59, 32, 125, 32, 125]⟩ := by decide
theorem ex_19 : exT.extract 19 exT.size = ⟨#[109, 40, 41, 32, 123, 32, 65, 32, 120, 59, 32, 120, 32, 61, 32, 110, 101, 119, 32, 65, 59, 32, 125, 32, 125]⟩ := by decide
theorem ex_20 : exT.extract 20 exT.size = ⟨#[40, 41, 32, 123, 32, 65, 32, 120, 59, 32, 120, 32, 61, 32, 110, 101, 119, 32, 65, 59, 32, 125, 32, 125]⟩ := by decide
theorem ex_21 : exT.extract 21 exT.size = ⟨#[41, 32, 123, 32, 65, 32, 120, 59, 32, 120, 32, 61, 32, 110, 101, 119, 32, 65, 59, 32, 125, 32, 125]⟩ := by decide
theorem ex_22 : exT.extract 22 exT.size = ⟨#[32, 123, 32, 65, 32, 120, 59, 32, 120, 32, 61, 32, 110, 101, 119, 32, 65, 59, 32, 125, 32, 125]⟩ := by decide
theorem ex_23 : exT.extract 23 exT.size = ⟨#[123, 32, 65, 32, 120, 59, 32, 120, 32, 61, 32, 110, 101, 119, 32, 65, 59, 32, 125, 32, 125]⟩ := by decide
theorem ex_24 : exT.extract 24 exT.size = ⟨#[32, 65, 32, 120, 59, 32, 120, 32, 61, 32, 110, 101, 119, 32, 65, 59, 32, 125, 32, 125]⟩ := by decide
theorem ex_25 : exT.extract 25 exT.size = ⟨#[65, 32, 120, 59, 32, 120, 32, 61, 32, 110, 101, 119, 32, 65, 59, 32, 125, 32, 125]⟩ := by decide
theorem ex_26 : exT.extract 26 exT.size = ⟨#[32, 120, 59, 32, 120, 32, 61, 32, 110, 101, 119, 32, 65, 59, 32, 125, 32, 125]⟩ := by decide
theorem ex_27 : exT.extract 27 exT.size = ⟨#[120, 59, 32, 120, 32, 61, 32, 110, 101, 119, 32, 65, 59, 32, 125, 32, 125]⟩ := by decide
theorem ex_28 : exT.extract 28 exT.size = ⟨#[59, 32, 120, 32, 61, 32, 110, 101, 119, 32, 65, 59, 32, 125, 32, 125]⟩ := by decide
theorem ex_29 : exT.extract 29 exT.size = ⟨#[32, 120, 32, 61, 32, 110, 101, 119, 32, 65, 59, 32, 125, 32, 125]⟩ := by decide
theorem ex_30 : exT.extract 30 exT.size = ⟨#[120, 32, 61, 32, 110, 101, 119, 32, 65, 59, 32, 125, 32, 125]⟩ := by decide
theorem ex_31 : exT.extract 31 exT.size = ⟨#[32, 61, 32, 110, 101, 119, 32, 65, 59, 32, 125, 32, 125]⟩ := by decide
theorem ex_32 : exT.extract 32 exT.size = ⟨#[61, 32, 110, 101, 119, 32, 65, 59, 32, 125, 32, 125]⟩ := by decide
theorem ex_33 : exT.extract 33 exT.size = ⟨#[32, 110, 101, 119, 32, 65, 59, 32, 125, 32, 125]⟩ := by decide
theorem ex_34 : exT.extract 34 exT.size = ⟨#[110, 101, 119, 32, 65, 59, 32, 125, 32, 125]⟩ := by decide
theorem ex_37 : exT.extract 37 exT.size = ⟨#[32, 65, 59, 32, 125, 32, 125]⟩ := by decide
theorem ex_38 : exT.extract 38 exT.size = ⟨#[65, 59, 32, 125, 32, 125]⟩ := by decide
theorem ex_39 : exT.extract 39 exT.size = ⟨#[59, 32, 125, 32, 125]⟩ := by decide
theorem ex_40 : exT.extract 40 exT.size = ⟨#[32, 125, 32, 125]⟩ := by decide
theorem ex_41 : exT.extract 41 exT.size = ⟨#[125, 32, 125]⟩ := by decide
theorem ex_42 : exT.extract 42 exT.size = ⟨#[32, 125]⟩ := by decide
theorem ex_43 : exT.extract 43 exT.size = ⟨#[125]⟩ := by decide
theorem ex_44 : exT.extract 44 exT.size = ⟨#[]⟩ := by decide
theorem exOne (w : World) : ∀ (i : Nat) (h : i < 21), Gives Tryz.prog 36 #[.string (exT.extract (exP[i]'(Nat.lt_succ_of_lt h)) exT.size)] w (.agg #[.int .i64 (exL[i]'h).k, .string (exL[i]'h).tx, .int .i64 0])
  | 0, _ => by show Gives _ _ #[.string (exT.extract 0 exT.size)] w (.agg #[.int .i64 3, .string ⟨#[99, 108, 97, 115, 115]⟩, .int .i64 0]); rw [ex_0]; exact one_0 w
  | 1, _ => by show Gives _ _ #[.string (exT.extract 6 exT.size)] w (.agg #[.int .i64 1, .string ⟨#[65]⟩, .int .i64 0]); rw [ex_6]; exact one_1 w
  | 2, _ => by show Gives _ _ #[.string (exT.extract 8 exT.size)] w (.agg #[.int .i64 4, .string ⟨#[123]⟩, .int .i64 0]); rw [ex_8]; exact one_2 w
  | 3, _ => by show Gives _ _ #[.string (exT.extract 10 exT.size)] w (.agg #[.int .i64 3, .string ⟨#[105, 110, 116]⟩, .int .i64 0]); rw [ex_10]; exact one_3 w
  | 4, _ => by show Gives _ _ #[.string (exT.extract 14 exT.size)] w (.agg #[.int .i64 1, .string ⟨#[110]⟩, .int .i64 0]); rw [ex_14]; exact one_4 w
  | 5, _ => by show Gives _ _ #[.string (exT.extract 15 exT.size)] w (.agg #[.int .i64 4, .string ⟨#[59]⟩, .int .i64 0]); rw [ex_15]; exact one_5 w
  | 6, _ => by show Gives _ _ #[.string (exT.extract 17 exT.size)] w (.agg #[.int .i64 1, .string ⟨#[65]⟩, .int .i64 0]); rw [ex_17]; exact one_6 w
  | 7, _ => by show Gives _ _ #[.string (exT.extract 19 exT.size)] w (.agg #[.int .i64 1, .string ⟨#[109]⟩, .int .i64 0]); rw [ex_19]; exact one_7 w
  | 8, _ => by show Gives _ _ #[.string (exT.extract 20 exT.size)] w (.agg #[.int .i64 4, .string ⟨#[40]⟩, .int .i64 0]); rw [ex_20]; exact one_8 w
  | 9, _ => by show Gives _ _ #[.string (exT.extract 21 exT.size)] w (.agg #[.int .i64 4, .string ⟨#[41]⟩, .int .i64 0]); rw [ex_21]; exact one_9 w
  | 10, _ => by show Gives _ _ #[.string (exT.extract 23 exT.size)] w (.agg #[.int .i64 4, .string ⟨#[123]⟩, .int .i64 0]); rw [ex_23]; exact one_10 w
  | 11, _ => by show Gives _ _ #[.string (exT.extract 25 exT.size)] w (.agg #[.int .i64 1, .string ⟨#[65]⟩, .int .i64 0]); rw [ex_25]; exact one_11 w
  | 12, _ => by show Gives _ _ #[.string (exT.extract 27 exT.size)] w (.agg #[.int .i64 1, .string ⟨#[120]⟩, .int .i64 0]); rw [ex_27]; exact one_12 w
  | 13, _ => by show Gives _ _ #[.string (exT.extract 28 exT.size)] w (.agg #[.int .i64 4, .string ⟨#[59]⟩, .int .i64 0]); rw [ex_28]; exact one_13 w
  | 14, _ => by show Gives _ _ #[.string (exT.extract 30 exT.size)] w (.agg #[.int .i64 1, .string ⟨#[120]⟩, .int .i64 0]); rw [ex_30]; exact one_14 w
  | 15, _ => by show Gives _ _ #[.string (exT.extract 32 exT.size)] w (.agg #[.int .i64 4, .string ⟨#[61]⟩, .int .i64 0]); rw [ex_32]; exact one_15 w
  | 16, _ => by show Gives _ _ #[.string (exT.extract 34 exT.size)] w (.agg #[.int .i64 3, .string ⟨#[110, 101, 119]⟩, .int .i64 0]); rw [ex_34]; exact one_16 w
  | 17, _ => by show Gives _ _ #[.string (exT.extract 38 exT.size)] w (.agg #[.int .i64 1, .string ⟨#[65]⟩, .int .i64 0]); rw [ex_38]; exact one_17 w
  | 18, _ => by show Gives _ _ #[.string (exT.extract 39 exT.size)] w (.agg #[.int .i64 4, .string ⟨#[59]⟩, .int .i64 0]); rw [ex_39]; exact one_18 w
  | 19, _ => by show Gives _ _ #[.string (exT.extract 41 exT.size)] w (.agg #[.int .i64 4, .string ⟨#[125]⟩, .int .i64 0]); rw [ex_41]; exact one_19 w
  | 20, _ => by show Gives _ _ #[.string (exT.extract 43 exT.size)] w (.agg #[.int .i64 4, .string ⟨#[125]⟩, .int .i64 0]); rw [ex_43]; exact one_20 w
  | n + 21, h => absurd h (by omega)
theorem exSkip (w : World) : ∀ (i : Nat) (h : i < 21), Calls Tryz.prog 35 #[.string (exT.extract (exP[i]'(Nat.lt_succ_of_lt h) + (exL[i]'h).tx.size) exT.size)] w fun e w' => e = .returned (.int .i64 (((exP[i + 1]'(Nat.succ_lt_succ h)) - (exP[i]'(Nat.lt_succ_of_lt h)) - (exL[i]'h).tx.size : Nat))) ∧ w = w'
  | 0, _ => by show Calls _ _ #[.string (exT.extract 5 exT.size)] w (fun e w' => e = .returned (.int .i64 1) ∧ w = w'); rw [ex_5]; exact skip_0 w
  | 1, _ => by show Calls _ _ #[.string (exT.extract 7 exT.size)] w (fun e w' => e = .returned (.int .i64 1) ∧ w = w'); rw [ex_7]; exact skip_1 w
  | 2, _ => by show Calls _ _ #[.string (exT.extract 9 exT.size)] w (fun e w' => e = .returned (.int .i64 1) ∧ w = w'); rw [ex_9]; exact skip_2 w
  | 3, _ => by show Calls _ _ #[.string (exT.extract 13 exT.size)] w (fun e w' => e = .returned (.int .i64 1) ∧ w = w'); rw [ex_13]; exact skip_3 w
  | 4, _ => by show Calls _ _ #[.string (exT.extract 15 exT.size)] w (fun e w' => e = .returned (.int .i64 0) ∧ w = w'); rw [ex_15]; exact skip_4 w
  | 5, _ => by show Calls _ _ #[.string (exT.extract 16 exT.size)] w (fun e w' => e = .returned (.int .i64 1) ∧ w = w'); rw [ex_16]; exact skip_5 w
  | 6, _ => by show Calls _ _ #[.string (exT.extract 18 exT.size)] w (fun e w' => e = .returned (.int .i64 1) ∧ w = w'); rw [ex_18]; exact skip_6 w
  | 7, _ => by show Calls _ _ #[.string (exT.extract 20 exT.size)] w (fun e w' => e = .returned (.int .i64 0) ∧ w = w'); rw [ex_20]; exact skip_7 w
  | 8, _ => by show Calls _ _ #[.string (exT.extract 21 exT.size)] w (fun e w' => e = .returned (.int .i64 0) ∧ w = w'); rw [ex_21]; exact skip_8 w
  | 9, _ => by show Calls _ _ #[.string (exT.extract 22 exT.size)] w (fun e w' => e = .returned (.int .i64 1) ∧ w = w'); rw [ex_22]; exact skip_9 w
  | 10, _ => by show Calls _ _ #[.string (exT.extract 24 exT.size)] w (fun e w' => e = .returned (.int .i64 1) ∧ w = w'); rw [ex_24]; exact skip_10 w
  | 11, _ => by show Calls _ _ #[.string (exT.extract 26 exT.size)] w (fun e w' => e = .returned (.int .i64 1) ∧ w = w'); rw [ex_26]; exact skip_11 w
  | 12, _ => by show Calls _ _ #[.string (exT.extract 28 exT.size)] w (fun e w' => e = .returned (.int .i64 0) ∧ w = w'); rw [ex_28]; exact skip_12 w
  | 13, _ => by show Calls _ _ #[.string (exT.extract 29 exT.size)] w (fun e w' => e = .returned (.int .i64 1) ∧ w = w'); rw [ex_29]; exact skip_13 w
  | 14, _ => by show Calls _ _ #[.string (exT.extract 31 exT.size)] w (fun e w' => e = .returned (.int .i64 1) ∧ w = w'); rw [ex_31]; exact skip_14 w
  | 15, _ => by show Calls _ _ #[.string (exT.extract 33 exT.size)] w (fun e w' => e = .returned (.int .i64 1) ∧ w = w'); rw [ex_33]; exact skip_15 w
  | 16, _ => by show Calls _ _ #[.string (exT.extract 37 exT.size)] w (fun e w' => e = .returned (.int .i64 1) ∧ w = w'); rw [ex_37]; exact skip_16 w
  | 17, _ => by show Calls _ _ #[.string (exT.extract 39 exT.size)] w (fun e w' => e = .returned (.int .i64 0) ∧ w = w'); rw [ex_39]; exact skip_17 w
  | 18, _ => by show Calls _ _ #[.string (exT.extract 40 exT.size)] w (fun e w' => e = .returned (.int .i64 1) ∧ w = w'); rw [ex_40]; exact skip_18 w
  | 19, _ => by show Calls _ _ #[.string (exT.extract 42 exT.size)] w (fun e w' => e = .returned (.int .i64 1) ∧ w = w'); rw [ex_42]; exact skip_19 w
  | 20, _ => by show Calls _ _ #[.string (exT.extract 44 exT.size)] w (fun e w' => e = .returned (.int .i64 0) ∧ w = w'); rw [ex_44]; exact skip_20 w
  | n + 21, h => absurd h (by omega)
theorem exNum (w : World) : ∀ (i : Nat) (h : i < 21), Calls Tryz.prog 37 #[.string (exL[i]'h).tx] w fun e w' => e = .returned (.tuple #[.int .i64 0, .bool false]) ∧ w = w'
  | 0, _ => num_0 w
  | 1, _ => num_1 w
  | 2, _ => num_2 w
  | 3, _ => num_3 w
  | 4, _ => num_4 w
  | 5, _ => num_5 w
  | 6, _ => num_6 w
  | 7, _ => num_7 w
  | 8, _ => num_8 w
  | 9, _ => num_9 w
  | 10, _ => num_10 w
  | 11, _ => num_11 w
  | 12, _ => num_12 w
  | 13, _ => num_13 w
  | 14, _ => num_14 w
  | 15, _ => num_15 w
  | 16, _ => num_16 w
  | 17, _ => num_17 w
  | 18, _ => num_18 w
  | 19, _ => num_19 w
  | 20, _ => num_20 w
  | n + 21, h => absurd h (by omega)
theorem exFacts : ∀ i < 21, (∀ h : i < exL.length, ((exL[i]'h).k == 0) = false ∧ ((exL[i]'h).k == 2) = false ∧ (exL[i]'h).tx.size ≤ 20 ∧ 1 ≤ (exL[i]'h).tx.size ∧ (exL[i]'h).pos = ((exP.getD i 0 : Nat) : Int) ∧ exP.getD i 0 + (exL[i]'h).tx.size ≤ exP.getD (i + 1) 0 ∧ exP.getD (i + 1) 0 ≤ 44) := by decide
end Go.Proofs.YtmpdmelkbemabaaGreat
set_option linter.unusedSimpArgs false
set_option linter.unusedVariables false
namespace Go.Proofs.YtmpdmelkbemabaaGreat
open Go.RowKit Go.Proofs.Grow

theorem own_ne {α : Type} {enc : α → List Value} {W : World} {base size g : Nat} {e t : TypeId} {v : Value} {l : List α} {cs : Array Value} {fr : Nat × Nat} (h : Grow.Own W base e size enc v l) (hr : W.heap[g]? = some (.cells cs t fr)) (hne : some g ≠ v.ownBlock) (u : Value) (j : Nat) : Grow.Own (W.setCell ⟨g, j, none⟩ u) base e size enc v l := by
  obtain ⟨h1, h2⟩ := h
  refine ⟨h1, ?_⟩
  rcases h2 with h2 | ⟨g', cap, cur, rfl, hb, hh, hr'⟩
  · exact .inl h2
  · exact .inr ⟨g', cap, cur, rfl, hb, (Below.heap_setCell W ⟨g, j, none⟩ u g' (fun e2 => hne (by simp [Value.ownBlock, e2]))).trans hh, hr'⟩
theorem infoTk : (Tryz.prog.info? 84).map (fun i => (i.zero.map (·.cells.size), i.size, i.bytes)) = some (some 3, 3, 32) := by kernel_rfl
theorem built_end (n : Int) : Tryz.prog.built 84 [(2, .int .i64 n)] = some (Tk.mk 0 ⟨#[]⟩ n).cells.toArray := by kernel_rfl
theorem wpList_buildV {P : Program} {ops : Array Oper} {rest : List Oper} {o : Oper} {a : Act} {w : World} {Q : Exit → Act → World → Prop} (hg : o.guard = none) (t : TypeId) (parts : List (Nat × Operand)) (ho : o.op = .build t parts.toArray)
    (vals : List (Nat × Value)) (hv : (parts.map fun x => (x.1, a.eval x.2)) = vals) (cells : Array Value) (hf : P.built t vals = some cells) (h : wpList P ops Q rest (a.put o.dst (.agg cells)) w) : wpList P ops Q (o :: rest) a w :=
  wpList_buildL hg t parts ho cells (by rw [hv]; exact hf) h
theorem run_buildV {P : Program} {W : World} {o : Oper} {a : Act} (t : TypeId) (parts : List (Nat × Operand)) (ho : o.op = .build t parts.toArray) (vals : List (Nat × Value)) (hv : (parts.map fun x => (x.1, a.eval x.2)) = vals) (cells : Array Value) (hf : P.built t vals = some cells) :
    (execOp a.eval o).run P W = .ok (.value (.agg cells)) W := by
  have h := run_build (P := P) W t (parts.toArray.map fun (i, x) => (i, a.eval x)) cells (by
    have e : (parts.toArray.map fun (i, x) => (i, a.eval x)).toList = vals := by rw [← hv]; simp
    rw [e]; exact hf)
  unfold execOp
  simp only [ho, Sem.run_bind, h, Result.andThen_ok]
  rfl
def exA : List Tk := exL ++ [⟨0, ⟨#[]⟩, 44⟩]

set_option maxHeartbeats 4000000 in
set_option maxRecDepth 100000 in
theorem ofT_any (w : World) : Calls Tryz.prog 22 #[.string exT] w fun e w' => ∃ (x : Ext w) (A : Option Addr) (c : Nat), e = .returned (.tuple #[.slice A 22 c, .agg #[.int .i64 0, .int .i64 0]]) ∧ w' = x.val ∧ 22 ≤ c ∧ c ≤ maxLen ∧ Lies x.val 3 Tk.cells A exA := by
  obtain ⟨i0, z0, hi0, hz0, hz1, hz2, hzs⟩ := info_row infoTk
  obtain ⟨s, hs⟩ : ∃ s, s = exT := ⟨_, rfl⟩
  have hsz : s.size = 44 := by rw [hs]; rfl
  have K1 := exOne
  have K2 := exSkip
  rw [← hs] at K1 K2 ⊢
  have H0 : Hid (∀ w, Calls Tryz.prog 35 #[.string s] w fun e w' => e = .returned (.int .i64 0) ∧ w = w') := fun w => by
    rw [hs]; exact skip_blanks exT 0 (by decide) (by decide) (by decide) (by decide) w
  have HSz := hide hsz
  have H1 := hide K1
  have H2 := hide K2
  have hsl : ¬ ((16384 : Int) < (s.size : Int)) := by omega
  have hs0 : (0 : Int) ≤ (s.size : Int) := by omega
  clear hs hsz K1 K2
  go_enter Tryz.func22, Tryz.ntmps22
  go_wp2_with (go_at_call 35; refine (H0.out _).mono ?_; rintro _ _ ⟨rfl, rfl⟩)
  obtain ⟨w1, hw1⟩ : ∃ w1, w1 = w.alloc (.cells #[.int .i64 0, .int .i64 0] 54) := ⟨_, rfl⟩
  have hB1 : Hid (Below w.heap.size w w1) := by show Below _ _ _; rw [hw1]; exact (Below.refl _ _).alloc (Nat.le_refl _) _
  have hrow : Hid (w1.heap[w.heap.size]? = some (.cells #[.int .i64 0, .int .i64 0] 54 (0, 0))) := by rw [hw1]; exact heap_alloc_new w _
  have hsz1 : w1.heap.size = w.heap.size + 1 := by rw [hw1]; simp
  rw [← hw1]
  clear hw1
  go_loopw [4, 5] (fun v s5 wr => ∃ (i : Nat) (hi : i < 22), s5 = .int .i64 (exP[i]'hi : Nat) ∧ ∃ x : Ext w1, wr = x.val ∧ Hid (Grow.Own x.val w1.heap.size 84 3 Tk.cells v (exL.take i))) (fun _ s5 _ => 44 - (intOf s5).toNat)
  case atStart => exact ⟨0, by decide, rfl, Ext.here w1, rfl, (show Grow.Own _ _ _ _ _ _ _ by simpa using Own.nil)⟩
  case round =>
    obtain ⟨i, hi, rfl, x, rfl, hown⟩ := hrel
    by_cases hlt : i < 21
    · have hF := exFacts i hlt hlt
      have hp0 : exP.getD i 0 = exP[i]'hi := by rw [List.getD_eq_getElem?_getD, List.getElem?_eq_getElem hi]; rfl
      have hp1 : exP.getD (i + 1) 0 = exP[i + 1]'(Nat.succ_lt_succ hlt) := by rw [List.getD_eq_getElem?_getD, List.getElem?_eq_getElem (Nat.succ_lt_succ hlt)]; rfl
      rw [hp0, hp1] at hF
      have h1 := fun w => H1.out w i hlt
      have h2 := fun w => H2.out w i hlt
      have h3 := fun w => exNum w i hlt
      have HT : Hid (exL.take (i + 1) = exL.take i ++ [exL[i]'hlt]) := List.take_succ_eq_append_getElem hlt
      obtain ⟨p, hp⟩ : ∃ p, p = exP[i]'hi := ⟨_, rfl⟩
      obtain ⟨q, hq⟩ : ∃ q, q = exP[i + 1]'(Nat.succ_lt_succ hlt) := ⟨_, rfl⟩
      obtain ⟨t, ht⟩ : ∃ t, t = exL[i]'hlt := ⟨_, rfl⟩
      rw [← hp, ← hq, ← ht] at hF
      rw [← ht] at h1 h2 h3 HT
      have h1' : ∀ W, Gives Tryz.prog 36 #[.string (s.extract p s.size)] W (.agg #[.int .i64 t.k, .string t.tx, .int .i64 0]) := fun W => by rw [hp]; exact h1 W
      have h2' : ∀ W, Calls Tryz.prog 35 #[.string (s.extract (p + t.tx.size) s.size)] W fun e w' => e = .returned (.int .i64 ((q - p - t.tx.size : Nat))) ∧ W = w' := fun W => by rw [hp, hq]; exact h2 W
      rw [← hp]
      obtain ⟨tk, tx, tp⟩ := t
      simp only at hF h1' h2' h3 HT ⊢
      obtain ⟨f0, f2, f20, f1, fp, fq, f44⟩ := hF
      have hps : (p : Int) < (s.size : Int) := by have := HSz.out; omega
      have hps2 : (p : Int) + (tx.size : Int) ≤ (s.size : Int) := by have := HSz.out; omega
      have h20 : ¬ ((20 : Int) < (tx.size : Int)) := by omega
      have HH1 := hide h1'
      have HH2 := hide h2'
      have HH3 := hide h3
      have HQ := hide hq
      have HP := hide hp
      have Hfp := hide fp
      have HW : Hid (wrap64 ((p : Int) + (tx.size : Int) + ((q - p - tx.size : Nat) : Int)) = (q : Int)) := by
        show _ = _
        unfold wrap64
        omega
      have Hb : Hid (p < q ∧ q ≤ 44) := by show p < q ∧ q ≤ 44; omega
      have hlt9 := hide hlt
      clear h1 h2 h3 h1' h2' hp0 hp1 hp hq ht fq f44 f20 f1 fp
      go_upto_region 8 with (go_at_call 36; refine ((HH1.out _).over x).mono ?_; rintro _ _ ⟨y, hy, rfl, rfl⟩)
      obtain ⟨g, hg⟩ : ∃ g, g = y.val.heap.size := ⟨_, rfl⟩
      obtain ⟨Z, hZ⟩ : ∃ Z : Ext w1, y.val.alloc (.cells #[.int .i64 tk, .string tx, .int .i64 p] 84) = Z.val := Ext.of (y.below.alloc (y.le (Nat.le_refl _)) _)
      have hrZ : Hid (Z.val.heap[g]? = some (.cells (Tk.mk tk tx p).cells.toArray 84 (0, 0))) := by
        show _ = _
        rw [← hZ, hg]
        exact heap_alloc_new _ _
      have hoZ : Hid (Grow.Own Z.val w1.heap.size 84 3 Tk.cells u4 (exL.take i)) := by
        show Grow.Own _ _ _ _ _ _ _
        rw [← hZ]
        exact (hown.out.into hy).alloc _
      have hne : Hid (some g ≠ u4.ownBlock) := fun e => by have := ((hown.out.into hy).from_ g e.symm).2; omega
      rw [hZ, ← hg]
      clear hZ hg hown hy
      have c0 : Z.val.cell? ⟨g, 0, none⟩ = some (.int .i64 tk) := (row_cell hrZ.out (j := 0) rfl).1
      have c1 : Z.val.cell? ⟨g, 1, none⟩ = some (.string tx) := (row_cell hrZ.out (j := 1) rfl).1
      have c2 : Z.val.cell? ⟨g, 2, none⟩ = some (.int .i64 p) := (row_cell hrZ.out (j := 2) rfl).1
      have hlen : Hid ((exL.take i).length + [Tk.mk tk tx p].length ≤ maxLen ∧ ((exL.take i).length + [Tk.mk tk tx p].length) * 32 ≤ 140737488355328) := by
        have h21 : exL.length = 21 := rfl
        show _ ∧ _
        simp only [List.length_take, List.length_cons, List.length_nil, h21]
        unfold maxLen
        omega
      obtain ⟨b1, hb1⟩ : ∃ b, (tk == 1) = b := ⟨_, rfl⟩
      cases b1
      all_goals
        go_upto_region 13 with (go_at_call 37; refine (HH3.out _).mono ?_; rintro _ _ ⟨rfl, rfl⟩)
        go_wp2_with (first | (refine wpList_lit_one rfl 80 84 (.tmp 57) rfl (Tk.mk tk tx p).cells.toArray rfl i0 z0 3 Tryz.underlying80 hi0 hz0 hz1 (by rw [List.size_toArray, Tk.cells_len]) (by decide) (by decide) ?_) | (at_builtin; refine wpList_append_list (w1 := w1) _ rfl (.tmp 56) (.tmp 58) 80 rfl 84 i0 z0 3 32 Tryz.underlying80 hi0 hz0 hz1 hz2 hzs (by decide) Tk.cells_len Tk.cells_one (Z.below.alloc Z.below.size _) u4 (exL.take i) rfl (hoZ.out.alloc _) _ 1 1 [Tk.mk tk tx p] rfl rfl (Lies.one Z.val (Tk.mk tk tx p) _ rfl) hlen.out.1 hlen.out.2 ?_; intro v' y2 hown' hgr hat; have hr2 := hide ((hgr.block _ (Nat.lt_of_lt_of_le (row_lt hrZ.out) (by simp)) hne.out).trans ((Below.heap_alloc _ _ _ (row_lt hrZ.out)).trans hrZ.out)); have d1 : y2.val.cell? ⟨g, 1, none⟩ = some (.string tx) := (row_cell hr2.out (j := 1) rfl).1) | (go_at_call 35; refine (HH2.out _).mono ?_; rintro _ _ ⟨rfl, rfl⟩))
        have hO9 : Hid (Grow.Own y2.val w1.heap.size 84 3 Tk.cells v' (exL.take (i + 1))) := by
          show Grow.Own _ _ _ _ _ _ _
          rw [HT.out, Hfp.out]
          exact hown'
        clear hown' hgr hat hr2 d1
        go_roundw
        case rel => exact ⟨i + 1, Nat.succ_lt_succ hlt9.out, by rw [HW.out, HQ.out], y2, rfl, hO9⟩
        case measure => rw [HW.out, intOf_int, intOf_int]; have := Hb.out; omega
    · obtain rfl : i = 21 := by omega
      have e21 : exP[21] = 44 := rfl
      rw [e21]
      have hp44 : ¬ (((44 : Nat) : Int) < (s.size : Int)) := by have := HSz.out; omega
      have hO9 : Hid (Grow.Own x.val w1.heap.size 84 3 Tk.cells u4 exL) := by have := hown.out; exact this
      have hB9 : Hid (s.size = 44) := HSz.out
      clear hown e21 hlt
      go_wp2_with (first | (refine wpList_buildV rfl 84 [(2, .tmp 73)] rfl [(2, .int .i64 (s.size : Int))] (by kernel_rfl) _ (built_end _) ?_) | (refine wpList_lit_one rfl 80 84 (.tmp 74) rfl (Tk.mk 0 ⟨#[]⟩ (s.size : Int)).cells.toArray rfl i0 z0 3 Tryz.underlying80 hi0 hz0 hz1 (by rw [List.size_toArray, Tk.cells_len]) (by decide) (by decide) ?_) | (at_builtin; refine wpList_append_list (w1 := w1) _ rfl (.tmp 71) (.tmp 75) 80 rfl 84 i0 z0 3 32 Tryz.underlying80 hi0 hz0 hz1 hz2 hzs (by decide) Tk.cells_len Tk.cells_one (x.below.alloc x.below.size _) u4 exL rfl (hO9.out.alloc _) _ 1 1 [Tk.mk 0 ⟨#[]⟩ (s.size : Int)] rfl rfl (Lies.one x.val (Tk.mk 0 ⟨#[]⟩ (s.size : Int)) _ rfl) (by show 22 ≤ maxLen; unfold maxLen; omega) (by show 22 * 32 ≤ 140737488355328; omega) ?_; intro v' y2 hown' hgr hat; obtain ⟨g9, c9, rfl⟩ := hown'.some_; have hg9 := hide (hown'.from_ g9 rfl).1; obtain ⟨A, c, he, l1, l2, l3⟩ := hown'.lies Tk.cells_len; have HE := hide he; have hr2 : y2.val.heap[w.heap.size]? = some (.cells #[.int .i64 0, .int .i64 0] 54 (0, 0)) := (y2.below.block _ (by omega)).trans hrow.out; have HR2 := hide hr2; have hth := hide (row_there hr2 2 (Nat.le_refl _)); have HL := hide (And.intro l1 (And.intro l2 l3)); clear hown' hgr hat l1 l2 l3 hr2 he) | (refine wpList_buildV rfl 54 [] rfl [] rfl #[.int .i64 0, .int .i64 0] (by kernel_rfl) ?_) | (refine wpList_store_mid rfl 54 (.tmp 3) (.tmp 77) rfl w.heap.size 0 (#[.int .i64 0, .int .i64 0]) rfl rfl hth.out (by kernel_rfl) (by simp [Value.oneCell']) ?_))
      have hr3 := row_fill (cs := #[.int .i64 0, .int .i64 0]) HR2.out rfl
      have q0 := (row_cell (cs := [_, _]) hr3 (j := 0) rfl).1
      have q1 := (row_cell (cs := [_, _]) hr3 (j := 1) rfl).1
      refine bodyPost_ret (v := .tuple #[.slice (some ⟨g9, 0, none⟩) 22 c9, .agg #[.int .i64 0, .int .i64 0]]) ?_ ?_ ?_
      · simp [results, Tryz.f22, go_sem] at q0 q1 ⊢
        simp [q0, q1]
        rfl
      · rfl
      · have he := HE.out
        cases he
        have h3 := HL.out.2.2
        rw [hB9.out] at h3
        obtain ⟨x', hx'⟩ := Ext.of ((hB1.out.trans (y2.below.mono hB1.out.size)).trans (setCells_below (Nat.le_refl _) [.int .i64 0, .int .i64 0] 0 _))
        refine ⟨x', some ⟨g9, 0, none⟩, c9, rfl, hx', HL.out.1, HL.out.2.1, ?_⟩
        rw [← hx']
        exact h3.setCells (fun ad e => by cases e; have := hg9.out; show g9 ≠ w.heap.size; omega) 0 _
end Go.Proofs.YtmpdmelkbemabaaGreat
set_option linter.unusedSimpArgs false
set_option linter.unusedVariables false
namespace Go.Proofs.YtmpdmelkbemabaaGreat
open Go.RowKit Go.Proofs.Grow

def isT (t : Tk) (s : ByteArray) : Bool := (t.k == 3 || t.k == 4) && t.tx.toList == s.toList
def isD (t : Tk) (s : ByteArray) : Bool := (t.k == 3 || t.k == 4) && t.tx.data.toList == s.data.toList
theorem isT_eq (t : Tk) (s : ByteArray) : isT t s = isD t s := by unfold isT isD; rw [ByteArray.toList_eq, ByteArray.toList_eq]

set_option maxHeartbeats 1000000 in
theorem tok_any (w : World) (A : Option Addr) (c : Nat) (l : List Tk) (hl : Lies w 3 Tk.cells A l) (hm : l.length ≤ 1000000) (i : Nat) (hi : i < l.length) : Gives Tryz.prog 38 #[.slice A l.length c, .int .i64 i] w (.agg (l[i]).cells.toArray) := by
  refine Gives.mk ?_
  obtain ⟨b, off, rfl, hb, hc⟩ := hl i hi
  obtain ⟨t, ht⟩ : ∃ t, t = l[i] := ⟨_, rfl⟩
  rw [← ht] at hc ⊢
  have hi' : (i : Int) < (l.length : Int) := by omega
  have hi63 : (i : Int) ≤ 1000000 := by omega
  have a0 : w.cell? ⟨b, off + i * 3, none⟩ = some (.int .i64 t.k) := hc 0 _ rfl
  have a1 : w.cell? ⟨b, off + i * 3 + 1, none⟩ = some (.string t.tx) := hc 1 _ rfl
  have a2 : w.cell? ⟨b, off + i * 3 + 2, none⟩ = some (.int .i64 t.pos) := hc 2 _ rfl
  clear hc ht hl
  go_enter Tryz.func38, Tryz.ntmps38
  go_wp2_with fail
  refine bodyPost_ret (v := .agg t.cells.toArray) ?_ ?_ ?_
  · simp [results, Tryz.f38, go_sem, Tk.cells]
  · rfl
  · exact ⟨rfl, (Below.refl _ _).alloc (Nat.le_refl _) _⟩

set_option maxHeartbeats 1000000 in
theorem is_any (t : Tk) (s : ByteArray) (w : World) : Gives Tryz.prog 39 #[.agg t.cells.toArray, .string s] w (.bool (isT t s)) := by
  refine Gives.mk ?_
  obtain ⟨k, tx, pos⟩ := t
  simp only [Tk.cells]
  have HI : Hid (∀ b, isT ⟨k, tx, pos⟩ s = b ↔ ((k == 3 || k == 4) && tx.toList == s.toList) = b) := fun b => Iff.rfl
  obtain ⟨b3, h3⟩ : ∃ b, (k == 3) = b := ⟨_, rfl⟩
  obtain ⟨b4, h4⟩ : ∃ b, (k == 4) = b := ⟨_, rfl⟩
  obtain ⟨bs, hs⟩ : ∃ b, (tx.toList == s.toList) = b := ⟨_, rfl⟩
  have HR : Hid (isT ⟨k, tx, pos⟩ s = ((b3 || b4) && bs)) := by show _ = _; rw [HI.out, h3, h4, hs]
  cases b3 <;> cases b4 <;> cases bs
  all_goals
    go_enter Tryz.func39, Tryz.ntmps39
    go_wp2_with fail
    go_ret
    exact ⟨ret_bool (by rw [HR.out]; rfl), (Below.refl _ _).alloc (Nat.le_refl _) _⟩

set_option maxHeartbeats 1000000 in
theorem tok08_any (w : World) (A : Option Addr) (c : Nat) (l : List Tk) (hl : Lies w 3 Tk.cells A l) (hm : l.length ≤ 1000000) (i : Nat) (hi : i < l.length) : Gives Tryz.prog 79 #[.slice A l.length c, .int .i64 i] w (.agg (l[i]).cells.toArray) := by
  refine Gives.mk ?_
  have HT := hide (tok_any (w.alloc (.cells #[.int .i64 0, .string ⟨#[]⟩, .int .i64 0] 84)) A c l (hl.alloc _) hm i hi)
  obtain ⟨t, ht⟩ : ∃ t, t = l[i] := ⟨_, rfl⟩
  rw [← ht] at HT ⊢
  clear ht hl
  go_enter Tryz.func79, Tryz.ntmps79
  go_wp2_with (first | (go_at_call 38; refine HT.out.mono ?_; rintro _ _ ⟨x, rfl, rfl⟩; have hr : x.val.heap[w.heap.size]? = some (.cells #[.int .i64 0, .string ⟨#[]⟩, .int .i64 0] 84 (0, 0)) := (x.below.block _ (by simp)).trans (heap_alloc_new w _); have HR := hide hr; have hth := hide (row_there hr 3 (Nat.le_refl _)); clear hr) | (refine wpList_store_mid rfl 84 (.tmp 4) (.tmp 7) rfl w.heap.size 0 t.cells.toArray rfl rfl hth.out (by kernel_rfl) (all_oneCell_toArray t.cells_one) ?_))
  have hr3 := row_fill (cs := t.cells.toArray) HR.out rfl
  have q0 := (row_cell (cs := t.cells) hr3 (j := 0) rfl).1
  have q1 := (row_cell (cs := t.cells) hr3 (j := 1) rfl).1
  have q2 := (row_cell (cs := t.cells) hr3 (j := 2) rfl).1
  refine bodyPost_ret (v := .agg t.cells.toArray) ?_ ?_ ?_
  · simp [results, Tryz.f79, go_sem, Tk.cells] at q0 q1 q2 ⊢
    simp [q0, q1, q2]
  · rfl
  · exact ⟨rfl, (((Below.refl _ _).alloc (Nat.le_refl _) _).trans (x.below.mono (by simp))).trans (setCells_below (Nat.le_refl _) _ 0 _)⟩
set_option maxHeartbeats 1000000 in
theorem tok09_any (w : World) (A : Option Addr) (c : Nat) (l : List Tk) (hl : Lies w 3 Tk.cells A l) (hm : l.length ≤ 1000000) (i : Nat) (hi : i < l.length) : Gives Tryz.prog 23 #[.slice A l.length c, .int .i64 i] w (.agg (l[i]).cells.toArray) := by
  refine Gives.mk ?_
  have HT := hide (tok_any (w.alloc (.cells #[.int .i64 0, .string ⟨#[]⟩, .int .i64 0] 84)) A c l (hl.alloc _) hm i hi)
  obtain ⟨t, ht⟩ : ∃ t, t = l[i] := ⟨_, rfl⟩
  rw [← ht] at HT ⊢
  clear ht hl
  go_enter Tryz.func23, Tryz.ntmps23
  go_wp2_with (first | (go_at_call 38; refine HT.out.mono ?_; rintro _ _ ⟨x, rfl, rfl⟩; have hr : x.val.heap[w.heap.size]? = some (.cells #[.int .i64 0, .string ⟨#[]⟩, .int .i64 0] 84 (0, 0)) := (x.below.block _ (by simp)).trans (heap_alloc_new w _); have HR := hide hr; have hth := hide (row_there hr 3 (Nat.le_refl _)); clear hr) | (refine wpList_store_mid rfl 84 (.tmp 4) (.tmp 7) rfl w.heap.size 0 t.cells.toArray rfl rfl hth.out (by kernel_rfl) (all_oneCell_toArray t.cells_one) ?_))
  have hr3 := row_fill (cs := t.cells.toArray) HR.out rfl
  have q0 := (row_cell (cs := t.cells) hr3 (j := 0) rfl).1
  have q1 := (row_cell (cs := t.cells) hr3 (j := 1) rfl).1
  have q2 := (row_cell (cs := t.cells) hr3 (j := 2) rfl).1
  refine bodyPost_ret (v := .agg t.cells.toArray) ?_ ?_ ?_
  · simp [results, Tryz.f23, go_sem, Tk.cells] at q0 q1 q2 ⊢
    simp [q0, q1, q2]
  · rfl
  · exact ⟨rfl, (((Below.refl _ _).alloc (Nat.le_refl _) _).trans (x.below.mono (by simp))).trans (setCells_below (Nat.le_refl _) _ 0 _)⟩

set_option maxHeartbeats 1000000 in
theorem is09_any (w : World) (A : Option Addr) (c : Nat) (l : List Tk) (hl : Lies w 3 Tk.cells A l) (hm : l.length ≤ 1000000) (i : Nat) (hi : i < l.length) (s : ByteArray) : Gives Tryz.prog 24 #[.slice A l.length c, .int .i64 i, .string s] w (.bool (isT l[i] s)) := by
  refine Gives.mk ?_
  have HT := hide (tok_any w A c l hl hm i hi)
  have HI := hide (is_any l[i] s)
  obtain ⟨t, ht⟩ : ∃ t, t = l[i] := ⟨_, rfl⟩
  rw [← ht] at HT HI ⊢
  obtain ⟨b, hb⟩ : ∃ b, isT t s = b := ⟨_, rfl⟩
  rw [hb] at HI ⊢
  clear ht hl hb
  go_enter Tryz.func24, Tryz.ntmps24
  go_wp2_with (first | (go_at_call 38; refine HT.out.mono ?_; rintro _ _ ⟨x, rfl, rfl⟩) | (go_at_call 39; refine (HI.out _).mono ?_; rintro _ _ ⟨y, rfl, rfl⟩))
  go_ret
  exact ⟨rfl, x.below.trans (y.below.mono x.below.size)⟩
set_option maxHeartbeats 1000000 in
theorem is08_any (w : World) (A : Option Addr) (c : Nat) (l : List Tk) (hl : Lies w 3 Tk.cells A l) (hm : l.length ≤ 1000000) (i : Nat) (hi : i < l.length) (s : ByteArray) : Gives Tryz.prog 82 #[.slice A l.length c, .int .i64 i, .string s] w (.bool (isT l[i] s)) := by
  refine Gives.mk ?_
  have HT := hide (tok08_any w A c l hl hm i hi)
  have HI := hide (is_any l[i] s)
  obtain ⟨t, ht⟩ : ∃ t, t = l[i] := ⟨_, rfl⟩
  rw [← ht] at HT HI ⊢
  obtain ⟨b, hb⟩ : ∃ b, isT t s = b := ⟨_, rfl⟩
  rw [hb] at HI ⊢
  clear ht hl hb
  go_enter Tryz.func82, Tryz.ntmps82
  go_wp2_with (first | (go_at_call 79; refine HT.out.mono ?_; rintro _ _ ⟨x, rfl, rfl⟩) | (go_at_call 39; refine (HI.out _).mono ?_; rintro _ _ ⟨y, rfl, rfl⟩))
  go_ret
  exact ⟨rfl, x.below.trans (y.below.mono x.below.size)⟩
end Go.Proofs.YtmpdmelkbemabaaGreat
