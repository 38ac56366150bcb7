/- The walks of legal.within, legal.of, kind.Unique, demesneref05.Unique, demesneref25.may, legal.Class, demesneref25.Class. -/
import Derived.Test.YtfebpmaaaiaccaaTab
import Derived.Test.YtfebpmaaaiaccaaRefIs
import Derived.Test.YtfebpmaaaiaccaaOwners
import Derived.Test.YtfebpmaaaiaccaaIdx
set_option linter.unusedSimpArgs false
set_option linter.unusedVariables false
namespace Go.Proofs.Ytfebpmaaaiaccaa
open Go.RowKit Go.Proofs.Grow

def encK (k : Int) : List Value := [.int .i64 k]
theorem encK_len (k : Int) : (encK k).length = 1 := rfl

set_option maxHeartbeats 1000000 in
theorem within1_any (w : World) (x : Int) (b : Nat) (A : Option Addr) (c : Nat) (ks : List Int) (hb : b < w.heap.size) (hl : ks.length ≤ 1000) (hc : w.cell? ⟨b, 0, none⟩ = some (.slice A ks.length c)) (hs : Lies w 1 encK A ks) :
    Calls Try.prog 56 #[.int .i64 x, .pointer (some ⟨b, 0, none⟩)] w fun e w' => e = .returned (.bool (decide (x ∈ ks))) ∧ w = w' := by
  have HS := hide hs
  clear hs
  go_enter Try.func56, Try.ntmps56
  go_wp2_with fail
  go_loop [8] (fun s8 => ∃ k : Nat, k ≤ ks.length ∧ s8 = .int .i64 k ∧ Hid (x ∉ ks.take k)) (fun s8 => ks.length - (intOf s8).toNat)
  case atStart => exact ⟨0, Nat.zero_le _, rfl, by show x ∉ _; simp⟩
  case round =>
    obtain ⟨k, hk, rfl, hno⟩ := hrel
    by_cases hlt : k < ks.length
    · obtain ⟨bb, off, rfl, hbb, hcell⟩ := HS.out k hlt
      have hlt' : (k : Int) < (ks.length : Int) := by omega
      have h0 : w.cell? ⟨bb, off + k, none⟩ = some (.int .i64 ks[k]) := by simpa using hcell 0 _ rfl
      have HT := hide (List.take_succ_eq_append_getElem hlt)
      have HM := hide (List.getElem_mem hlt)
      obtain ⟨y, hy⟩ : ∃ y, y = ks[k] := ⟨_, rfl⟩
      rw [← hy] at h0 HT HM
      have HK := hide hlt
      clear hcell hy hlt
      by_cases hyb : y = x
      · subst hyb
        have HE : Hid (decide (y ∈ ks) = true) := decide_eq_true HM.out
        go_wp2_with fail
        go_ret
        exact ⟨ret_bool (by rw [HE.out]), rfl⟩
      · have hyb' : (y == x) = false := beq_eq_false_iff_ne.2 hyb
        have HY := hide hyb
        clear hyb
        go_wp2_with fail
        go_round
        case rel => exact ⟨k + 1, HK.out, by go_num, by show x ∉ _; rw [HT.out]; have := hno.out; have := HY.out; simp [*]; exact Ne.symm this⟩
        case measure => have := HK.out; simp [intOf]; omega
    · obtain rfl : k = ks.length := by omega
      have HE : Hid (decide (x ∈ ks) = false) := by
        have := hno.out
        rw [List.take_length] at this
        exact decide_eq_false this
      have hlt' : ¬ (ks.length : Int) < (ks.length : Int) := by omega
      go_wp2_with fail
      go_ret
      exact ⟨ret_bool (by rw [HE.out]), rfl⟩

/-- A function that tells whether a number is one of some; what it leans on lies from n on. -/
def Within (n : Nat) (w : World) (v : Value) (ks : List Int) : Prop := ∃ b A c, v = .func (.func 56) #[] #[.pointer (some ⟨b, 0, none⟩)] ∧ b < w.heap.size ∧ ks.length ≤ 1000 ∧ w.cell? ⟨b, 0, none⟩ = some (.slice A ks.length c) ∧ Lies w 1 encK A ks ∧ n ≤ b ∧ ∀ ad, A = some ad → n ≤ ad.block
theorem Within.ext {n : Nat} {w : World} {v : Value} {ks : List Int} (h : Within n w v ks) (x : Ext w) : Within n x.val v ks := by
  obtain ⟨b, A, c, h1, h2, h3, h4, h5, h6⟩ := h
  exact ⟨b, A, c, h1, x.lt h2, h3, (x.cell h2).trans h4, h5.ext x, h6⟩
theorem Within.grown {n g : Nat} {w w' : World} {v : Value} {ks : List Int} (h : Within n w v ks) (hg : w.grownBy w' (some g)) (hn : g < n) : Within n w' v ks := by
  obtain ⟨b, A, c, h1, h2, h3, h4, h5, h6, h7⟩ := h
  refine ⟨b, A, c, h1, Nat.lt_of_lt_of_le h2 hg.size, h3, ?_, h5.grown hg (fun ad e => fun e2 => by have := h7 ad e; cases e2; omega), h6, h7⟩
  exact (World.cell?_of_block (hg.block b h2 (fun e => by cases e; omega))).trans h4

theorem within_any (n : Nat) (w : World) (A : Option Addr) (c : Nat) (ks : List Int) (hl : ks.length ≤ 1000) (hs : Lies w 1 encK A ks) (hn : n ≤ w.heap.size) (hA : ∀ ad, A = some ad → n ≤ ad.block) :
    Calls Try.prog 50 #[.slice A ks.length c] w fun e w' => ∃ (x : Ext w) (v : Value), e = .returned v ∧ w' = x.val ∧ Within n x.val v ks := by
  have HW : Hid (Within n (w.alloc (.cells #[.slice A ks.length c] 103)) (.func (.func 56) #[] #[.pointer (some ⟨w.heap.size, 0, none⟩)]) ks) :=
    ⟨_, A, c, rfl, by simp, hl, by rw [World.cell?_alloc_at _ _ _ _ rfl]; rfl, hs.alloc _, hn, hA⟩
  clear hs
  go_enter Try.func50, Try.ntmps50
  go_wp2_with fail
  go_ret
  exact ⟨⟨_, (Below.refl _ _).alloc (Nat.le_refl _) _⟩, _, rfl, rfl, HW.out⟩

def firsts (m : Int) : List Int := if m = 1 then [1, 2, 3, 4, 6] else if m = 2 then [1, 2, 5, 6] else []
def behinds (m : Int) : List Int := if m = 1 then [1, 2, 3, 4] else if m = 2 then [1, 2, 5, 6] else []
def moreOf (m : Int) : Value := if m = 1 then .func (.func 15) #[] #[] else .func (.func 49) #[] #[]

theorem grown_setCells (W : World) (g o : Nat) (vs : List Value) : W.grownBy (W.setCells g o vs) (some g) := by
  obtain ⟨h1, h2, h3⟩ := setCells_rest g vs o W
  exact ⟨h1, h2, h3, Nat.le_of_eq (setCells_size g vs o W).symm, fun k _ hk => setCells_other g vs o W k (fun e => hk (by rw [e]))⟩
theorem Within.weaken {n : Nat} {w : World} {v : Value} {ks : List Int} (h : Within (n + 1) w v ks) : Within n w v ks := by
  obtain ⟨b, A, c, h1, h2, h3, h4, h5, h6, h7⟩ := h
  exact ⟨b, A, c, h1, h2, h3, h4, h5, by omega, fun ad e => by have := h7 ad e; omega⟩

theorem of_there (w y : World) (hrow : y.heap[w.heap.size]? = some (.cells #[.nilFunc, .nilFunc, .bool false, .nilFunc] 64 (0, 0))) : y.there w.heap.size 0 4 := fun j hj => by
  rw [Nat.zero_add]
  rcases (show j = 0 ∨ j = 1 ∨ j = 2 ∨ j = 3 by omega) with rfl | rfl | rfl | rfl
  · exact ⟨by rw [(row_cell (cs := [.nilFunc, .nilFunc, .bool false, .nilFunc]) hrow (j := 0) rfl).1]; rfl, (row_cell (cs := [.nilFunc, .nilFunc, .bool false, .nilFunc]) hrow (j := 0) rfl).2⟩
  · exact ⟨by rw [(row_cell (cs := [.nilFunc, .nilFunc, .bool false, .nilFunc]) hrow (j := 1) rfl).1]; rfl, (row_cell (cs := [.nilFunc, .nilFunc, .bool false, .nilFunc]) hrow (j := 1) rfl).2⟩
  · exact ⟨by rw [(row_cell (cs := [.nilFunc, .nilFunc, .bool false, .nilFunc]) hrow (j := 2) rfl).1]; rfl, (row_cell (cs := [.nilFunc, .nilFunc, .bool false, .nilFunc]) hrow (j := 2) rfl).2⟩
  · exact ⟨by rw [(row_cell (cs := [.nilFunc, .nilFunc, .bool false, .nilFunc]) hrow (j := 3) rfl).1]; rfl, (row_cell (cs := [.nilFunc, .nilFunc, .bool false, .nilFunc]) hrow (j := 3) rfl).2⟩
theorem of_one (p1 p2 : Array Value) (B : Bool) (g : FuncId) : (#[.func (.func 56) #[] p1, .func (.func 56) #[] p2, .bool B, .func (.func g) #[] #[]] : Array Value).all (·.oneCell') = true :=
  all_oneCell_toArray (cs := [.func (.func 56) #[] p1, .func (.func 56) #[] p2, .bool B, .func (.func g) #[] #[]]) (by intro v hv; simp only [List.mem_cons, List.not_mem_nil, or_false] at hv; rcases hv with rfl | rfl | rfl | rfl <;> rfl)
theorem of_fin (w y : World) (v1 v2 v3 v4 : Value) (hb : Below w.heap.size w y) (hrow : y.heap[w.heap.size]? = some (.cells #[.nilFunc, .nilFunc, .bool false, .nilFunc] 64 (0, 0))) :
    (y.setCells w.heap.size 0 [v1, v2, v3, v4]).cell? ⟨w.heap.size, 0, none⟩ = some v1 ∧ (y.setCells w.heap.size 0 [v1, v2, v3, v4]).cell? ⟨w.heap.size, 1, none⟩ = some v2 ∧ (y.setCells w.heap.size 0 [v1, v2, v3, v4]).cell? ⟨w.heap.size, 2, none⟩ = some v3 ∧ (y.setCells w.heap.size 0 [v1, v2, v3, v4]).cell? ⟨w.heap.size, 3, none⟩ = some v4 ∧ Below w.heap.size w (y.setCells w.heap.size 0 [v1, v2, v3, v4]) := by
  have hw3 := World.rangeAt_setCells_same y w.heap.size 0 [v1, v2, v3, v4] (of_there w y hrow)
  have r0 := hw3 0 _ rfl
  have r1 := hw3 1 _ rfl
  have r2 := hw3 2 _ rfl
  have r3 := hw3 3 _ rfl
  simp only [Nat.add_zero, Nat.zero_add] at r0 r1 r2 r3
  exact ⟨r0, r1, r2, r3, Below.trans hb (setCells_below (Nat.le_refl _) _ _ _)⟩

def OfPost (m : Int) (w : World) (e : Ending) (w' : World) : Prop := ∃ (x : Ext w) (v1 v2 : Value), e = .returned (.agg #[v1, v2, .bool (m == 1), moreOf m]) ∧ w' = x.val ∧ Within w.heap.size x.val v1 (firsts m) ∧ Within w.heap.size x.val v2 (behinds m)

set_option maxHeartbeats 4000000 in
set_option maxRecDepth 100000 in
theorem of_1 (w : World) : Calls Try.prog 35 #[.int .i64 1] w (OfPost 1 w) := by
    go_enter Try.func35, Try.ntmps35
    go_wp2_with fail
    have hL := Lies.fresh (enc := encK) (e := 3) (w.alloc (.cells #[.nilFunc, .nilFunc, .bool false, .nilFunc] 64)) [1, 2, 3, 4, 6] #[.int .i64 1, .int .i64 2, .int .i64 3, .int .i64 4, .int .i64 6] encK_len rfl
    rw [World.size_alloc] at hL
    refine (within_any (w.heap.size + 1) _ _ 5 [1, 2, 3, 4, 6] (by decide) hL (by simp) (fun ad e => by cases e; exact Nat.le_refl _)).mono ?_
    rintro _ _ ⟨y1, v1, rfl, rfl, hv1⟩
    have hz1 : w.heap.size < y1.val.heap.size := y1.lt (by simp; omega)
    have HV1 := hide hv1
    obtain ⟨b1, A1, c1, rfl, _⟩ := hv1
    clear hL
    go_wp2_with fail
    have hL : Lies (y1.val.alloc (.cells #[.int .i64 1, .int .i64 2, .int .i64 3, .int .i64 4] 3)) 1 encK (some ⟨y1.val.heap.size, 0, none⟩) [1, 2, 3, 4] := Lies.fresh (enc := encK) _ _ _ encK_len rfl
    refine (within_any (w.heap.size + 1) _ _ 4 [1, 2, 3, 4] (by decide) hL (by simp; omega) (fun ad e => by cases e; show w.heap.size + 1 ≤ y1.val.heap.size; omega)).mono ?_
    rintro _ _ ⟨y2, v2, rfl, rfl, hv2⟩
    have hz2 : w.heap.size < y2.val.heap.size := y2.lt (by simp; omega)
    have HV2 := hide hv2
    obtain ⟨b2, A2, c2, rfl, _⟩ := hv2
    clear hL
    have hrow : y2.val.heap[w.heap.size]? = some (.cells #[.nilFunc, .nilFunc, .bool false, .nilFunc] 64 (0, 0)) := (y2.below.block _ (by simp; omega)).trans ((Below.heap_alloc _ _ _ hz1).trans ((y1.below.block _ (by simp; omega)).trans ((Below.heap_alloc _ _ _ (by simp)).trans (heap_alloc_new w _))))
    have hbb : Below w.heap.size w y2.val := by
      repeat (first | exact Below.refl _ _ | exact Nat.le_refl _ | assumption | refine below_ext ?_ ?_ _ | refine Below.alloc ?_ ?_ _ | refine Below.drew ?_ | refine Below.setCell ?_ ?_ _ | refine Ext.le _ ?_ | refine le_alloc ?_ | refine le_drew ?_ | refine le_setCell ?_)
      all_goals omega
    obtain ⟨r0, r1, r2, r3, hbl⟩ := of_fin w y2.val (Value.func (.func 56) #[] #[.pointer (some ⟨b1, 0, none⟩)]) (Value.func (.func 56) #[] #[.pointer (some ⟨b2, 0, none⟩)]) (.bool true) (Value.func (.func 15) #[] #[]) hbb hrow
    have hg := grown_setCells y2.val w.heap.size 0 [Value.func (.func 56) #[] #[.pointer (some ⟨b1, 0, none⟩)], Value.func (.func 56) #[] #[.pointer (some ⟨b2, 0, none⟩)], .bool true, Value.func (.func 15) #[] #[]]
    go_wp2_with (refine wpList_store_mid rfl 64 (.tmp 2) (.tmp 12) rfl w.heap.size 0 _ rfl rfl (of_there w _ hrow) (show _ = some 4 by kernel_rfl) (of_one _ _ _ _) ?_)
    refine bodyPost_ret (v := .agg #[Value.func (.func 56) #[] #[.pointer (some ⟨b1, 0, none⟩)], Value.func (.func 56) #[] #[.pointer (some ⟨b2, 0, none⟩)], .bool true, Value.func (.func 15) #[] #[]]) ?_ ?_ ?_
    · simp [results, Try.f35, go_sem, r0, r1, r2, r3]
    · rfl
    · refine ⟨⟨_, hbl⟩, _, _, rfl, rfl, ?_, ?_⟩
      · exact (((HV1.out.ext ⟨_, (Below.refl y1.val.heap.size y1.val).alloc (Nat.le_refl _) _⟩).ext y2).grown hg (by omega)).weaken
      · exact ((HV2.out).grown hg (by omega)).weaken

set_option maxHeartbeats 4000000 in
set_option maxRecDepth 100000 in
theorem of_2 (w : World) : Calls Try.prog 35 #[.int .i64 2] w (OfPost 2 w) := by
    go_enter Try.func35, Try.ntmps35
    go_wp2_with fail
    have hL := Lies.fresh (enc := encK) (e := 3) (w.alloc (.cells #[.nilFunc, .nilFunc, .bool false, .nilFunc] 64)) [1, 2, 5, 6] #[.int .i64 1, .int .i64 2, .int .i64 5, .int .i64 6] encK_len rfl
    rw [World.size_alloc] at hL
    refine (within_any (w.heap.size + 1) _ _ 4 [1, 2, 5, 6] (by decide) hL (by simp) (fun ad e => by cases e; exact Nat.le_refl _)).mono ?_
    rintro _ _ ⟨y1, v1, rfl, rfl, hv1⟩
    have hz1 : w.heap.size < y1.val.heap.size := y1.lt (by simp; omega)
    have HV1 := hide hv1
    obtain ⟨b1, A1, c1, rfl, _⟩ := hv1
    clear hL
    have hrow : y1.val.heap[w.heap.size]? = some (.cells #[.nilFunc, .nilFunc, .bool false, .nilFunc] 64 (0, 0)) := (y1.below.block _ (by simp; omega)).trans ((Below.heap_alloc _ _ _ (by simp)).trans (heap_alloc_new w _))
    have hbb : Below w.heap.size w y1.val := by
      repeat (first | exact Below.refl _ _ | exact Nat.le_refl _ | assumption | refine below_ext ?_ ?_ _ | refine Below.alloc ?_ ?_ _ | refine Below.drew ?_ | refine Below.setCell ?_ ?_ _ | refine Ext.le _ ?_ | refine le_alloc ?_ | refine le_drew ?_ | refine le_setCell ?_)
      all_goals omega
    obtain ⟨r0, r1, r2, r3, hbl⟩ := of_fin w y1.val (Value.func (.func 56) #[] #[.pointer (some ⟨b1, 0, none⟩)]) (Value.func (.func 56) #[] #[.pointer (some ⟨b1, 0, none⟩)]) (.bool false) (Value.func (.func 49) #[] #[]) hbb hrow
    have hg := grown_setCells y1.val w.heap.size 0 [Value.func (.func 56) #[] #[.pointer (some ⟨b1, 0, none⟩)], Value.func (.func 56) #[] #[.pointer (some ⟨b1, 0, none⟩)], .bool false, Value.func (.func 49) #[] #[]]
    go_wp2_with (refine wpList_store_mid rfl 64 (.tmp 2) (.tmp 20) rfl w.heap.size 0 _ rfl rfl (of_there w _ hrow) (show _ = some 4 by kernel_rfl) (of_one _ _ _ _) ?_)
    refine bodyPost_ret (v := .agg #[Value.func (.func 56) #[] #[.pointer (some ⟨b1, 0, none⟩)], Value.func (.func 56) #[] #[.pointer (some ⟨b1, 0, none⟩)], .bool false, Value.func (.func 49) #[] #[]]) ?_ ?_ ?_
    · simp [results, Try.f35, go_sem, r0, r1, r2, r3]
    · rfl
    · refine ⟨⟨_, hbl⟩, _, _, rfl, rfl, ?_, ?_⟩
      · exact ((HV1.out).grown hg (by omega)).weaken
      · exact ((HV1.out).grown hg (by omega)).weaken

set_option maxHeartbeats 4000000 in
set_option maxRecDepth 100000 in
theorem of_0 (m : Int) (w : World) (h1 : m ≠ 1) (h2 : m ≠ 2) : Calls Try.prog 35 #[.int .i64 m] w (OfPost m w) := by
    have e1 : (m == 1) = false := beq_eq_false_iff_ne.2 h1
    have e2 : (m == 2) = false := beq_eq_false_iff_ne.2 h2
    have HQ : Hid ((m == 1) = false ∧ moreOf m = Value.func (.func 49) #[] #[] ∧ firsts m = [] ∧ behinds m = []) := ⟨e1, by simp [moreOf, h1], by simp [firsts, h1, h2], by simp [behinds, h1, h2]⟩
    clear h1 h2
    go_enter Try.func35, Try.ntmps35
    go_wp2_with fail
    refine (within_any (w.heap.size + 1) _ none 0 [] (by decide) Lies.nil (by simp) (fun ad e => by cases e)).mono ?_
    rintro _ _ ⟨y1, v1, rfl, rfl, hv1⟩
    have hz1 : w.heap.size < y1.val.heap.size := y1.lt (by simp)
    have HV1 := hide hv1
    obtain ⟨b1, A1, c1, rfl, _⟩ := hv1
    go_wp2_with fail
    refine (within_any (w.heap.size + 1) _ none 0 [] (by decide) Lies.nil (by omega) (fun ad e => by cases e)).mono ?_
    rintro _ _ ⟨y2, v2, rfl, rfl, hv2⟩
    have hz2 : w.heap.size < y2.val.heap.size := y2.lt hz1
    have HV2 := hide hv2
    obtain ⟨b2, A2, c2, rfl, _⟩ := hv2
    have hrow : y2.val.heap[w.heap.size]? = some (.cells #[.nilFunc, .nilFunc, .bool false, .nilFunc] 64 (0, 0)) := (y2.below.block _ hz1).trans ((y1.below.block _ (by simp)).trans (heap_alloc_new w _))
    have hbb : Below w.heap.size w y2.val := by
      repeat (first | exact Below.refl _ _ | exact Nat.le_refl _ | assumption | refine below_ext ?_ ?_ _ | refine Below.alloc ?_ ?_ _ | refine Below.drew ?_ | refine Below.setCell ?_ ?_ _ | refine Ext.le _ ?_ | refine le_alloc ?_ | refine le_drew ?_ | refine le_setCell ?_)
      all_goals omega
    obtain ⟨r0, r1, r2, r3, hbl⟩ := of_fin w y2.val (Value.func (.func 56) #[] #[.pointer (some ⟨b1, 0, none⟩)]) (Value.func (.func 56) #[] #[.pointer (some ⟨b2, 0, none⟩)]) (.bool false) (Value.func (.func 49) #[] #[]) hbb hrow
    have hg := grown_setCells y2.val w.heap.size 0 [Value.func (.func 56) #[] #[.pointer (some ⟨b1, 0, none⟩)], Value.func (.func 56) #[] #[.pointer (some ⟨b2, 0, none⟩)], .bool false, Value.func (.func 49) #[] #[]]
    go_wp2_with (refine wpList_store_mid rfl 64 (.tmp 2) (.tmp 24) rfl w.heap.size 0 _ rfl rfl (of_there w _ hrow) (show _ = some 4 by kernel_rfl) (of_one _ _ _ _) ?_)
    refine bodyPost_ret (v := .agg #[Value.func (.func 56) #[] #[.pointer (some ⟨b1, 0, none⟩)], Value.func (.func 56) #[] #[.pointer (some ⟨b2, 0, none⟩)], .bool false, Value.func (.func 49) #[] #[]]) ?_ ?_ ?_
    · simp [results, Try.f35, go_sem, r0, r1, r2, r3]
    · rfl
    · refine ⟨⟨_, hbl⟩, _, _, by rw [HQ.out.1, HQ.out.2.1], rfl, ?_, ?_⟩
      · rw [HQ.out.2.2.1]; exact (((HV1.out).ext y2).grown hg (by omega)).weaken
      · rw [HQ.out.2.2.2]; exact ((HV2.out).grown hg (by omega)).weaken

theorem of_any (m : Int) (w : World) : Calls Try.prog 35 #[.int .i64 m] w (OfPost m w) := by
  by_cases h1 : m = 1
  · subst h1; exact of_1 w
  · by_cases h2 : m = 2
    · subst h2; exact of_2 w
    · exact of_0 m w h1 h2

theorem of1_any (t : Ty) (w : World) : Gives Try.prog 49 #[.agg t.cells.toArray] w (.bool true) := by
  refine Gives.mk ?_
  unfold Ty.cells
  go_enter Try.func49, Try.ntmps49
  go_wp2_with fail
  go_ret
  refine ⟨rfl, ?_⟩
  repeat (first | exact Below.refl _ _ | exact Nat.le_refl _ | assumption | refine below_ext ?_ ?_ _ | refine Below.alloc ?_ ?_ _ | refine Below.drew ?_ | refine Below.setCell ?_ ?_ _ | refine Ext.le _ ?_ | refine le_alloc ?_ | refine le_drew ?_ | refine le_setCell ?_)
  all_goals omega
end Go.Proofs.Ytfebpmaaaiaccaa
