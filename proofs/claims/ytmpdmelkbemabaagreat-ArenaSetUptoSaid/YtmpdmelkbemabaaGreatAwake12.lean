/- The walk of chapter 12's example. -/
import Derived.Test.YtmpdmelkbemabaaGreatTk18
import Derived.Test.YtmpdmelkbemabaaGreatTk20
import Derived.Test.YtmpdmelkbemabaaGreatTk21
import Derived.Test.YtmpdmelkbemabaaGreatTypes
import Derived.Test.YtmpdmelkbemabaaGreatStmts
import Derived.Test.YtmpdmelkbemabaaGreatIdx
set_option linter.unusedSimpArgs false
set_option linter.unusedVariables false
namespace Go.Proofs.YtmpdmelkbemabaaGreat
open Go.RowKit Go.Proofs.Grow

def exF : Va := ⟨⟨#[110]⟩, tyInt, 10⟩
def exX : Va := ⟨⟨#[120]⟩, tyOf ⟨#[65]⟩, 25⟩
def exS : St := exSt 5 ⟨#[120]⟩ (tyOf ⟨#[65]⟩) 30
def exM (vA : Option Addr) (vc : Nat) (bA : Option Addr) (bc : Nat) : Me := exMe ⟨#[109]⟩ (tyOf ⟨#[65]⟩) 17 vA vc [exX] bA bc [exS]
def FormC (i : Int) (C : Cl) : Prop :=
  (i = 3 ∧ C = exCl ⟨#[65]⟩ none 0 [] none 0 [] 0) ∨
  (i = 6 ∧ ∃ (fA : Option Addr) (fc : Nat), 1 ≤ fc ∧ fc ≤ maxLen ∧ C = exCl ⟨#[65]⟩ fA fc [exF] none 0 [] 0) ∨
  (i = 20 ∧ ∃ (fA : Option Addr) (fc : Nat) (mA : Option Addr) (mc : Nat) (vA : Option Addr) (vc : Nat) (bA : Option Addr) (bc : Nat), (1 ≤ fc ∧ fc ≤ maxLen) ∧ (1 ≤ mc ∧ mc ≤ maxLen) ∧ (1 ≤ vc ∧ vc ≤ maxLen) ∧ (1 ≤ bc ∧ bc ≤ maxLen) ∧ C = exCl ⟨#[65]⟩ fA fc [exF] mA mc [exM vA vc bA bc] 0)

theorem exA_len : exA.length = 22 := rfl
theorem exTok {w : World} {A : Option Addr} {c : Nat} (hl : Lies w 3 Tk.cells A exA) (i : Nat) (hi : i < exA.length) : Gives Tryz.prog 23 #[.slice A 22 c, .int .i64 i] w (.agg (exA[i]'hi).cells.toArray) :=
  tok09_any w A c exA hl (by rw [exA_len]; omega) i hi
theorem exIs {w : World} {A : Option Addr} {c : Nat} (hl : Lies w 3 Tk.cells A exA) (i : Nat) (hi : i < exA.length) (s : ByteArray) (b : Bool) (h : isD (exA[i]'hi) s = b) : Gives Tryz.prog 24 #[.slice A 22 c, .int .i64 i, .string s] w (.bool b) := by
  have k := is09_any w A c exA hl (by rw [exA_len]; omega) i hi s
  rw [isT_eq, h] at k
  exact k
theorem lies_lt {α : Type} {W : World} {n : Nat} {enc : α → List Value} {A : Option Addr} {x : α} {l : List α} (h : Lies W n enc A (x :: l)) (a : Addr) (e : A = some a) : a.block < W.heap.size := by
  obtain ⟨b, off, rfl, hb, _⟩ := h 0 (Nat.succ_pos _)
  cases e
  exact hb
theorem exD (i : Nat) (hi : i < exA.length) (s : ByteArray) (b : Bool) (h : isD (exA[i]'hi) s = b) : isT (exA[i]'hi) s = b := by rw [isT_eq]; exact h

set_option maxRecDepth 100000 in
theorem ex_field (W : World) (A : Option Addr) (c : Nat) (hl : Lies W 3 Tk.cells A exA) :
    Calls Tryz.prog 43 #[.slice A 22 c, .int .i64 3, .agg (exCl ⟨#[65]⟩ none 0 [] none 0 [] 0).cells.toArray, .int .i64 0] W fun e w' => ∃ (y : Ext W) (fA : Option Addr) (fc : Nat), e = .returned (.agg (g9C (exCl ⟨#[65]⟩ fA fc [exF] none 0 [] 0) me0 none 0 0 6).toArray) ∧ w' = y.val ∧ 1 ≤ fc ∧ fc ≤ maxLen ∧ Lies y.val 13 Va.cells fA [exF] ∧ ∀ a, fA = some a → W.heap.size < a.block :=
  member_field W (.slice A 22 c) ⟨#[65]⟩ ⟨#[110]⟩ ⟨#[105, 110, 116]⟩ 0 3 10 14
    (fun X hX => exTok (hl.below hX) 3 (by decide))
    (fun X hX => exIs (hl.below hX) 3 (by decide) _ _ (by kernel_rfl))
    (fun X hX => parse_int X A c exA (hl.below hX) (by decide) 3 (by decide) true _ (exD 3 (by decide) _ _ (by kernel_rfl)) (exD 3 (by decide) _ _ (by kernel_rfl)))
    (fun X hX => exTok (hl.below hX) 4 (by decide))
    (fun X hX => exIs (hl.below hX) 5 (by decide) _ _ (by kernel_rfl))
    (fun X hX => exIs (hl.below hX) 5 (by decide) _ _ (by kernel_rfl))

set_option maxRecDepth 100000 in
theorem ex_method (W : World) (A : Option Addr) (c : Nat) (hl : Lies W 3 Tk.cells A exA) :
    Calls Tryz.prog 57 #[.slice A 22 c, .int .i64 8, .slice none 0 0, .agg (exMe ⟨#[109]⟩ (tyOf ⟨#[65]⟩) 17 none 0 [] none 0 []).cells.toArray, .int .i64 0] W fun e w' => ∃ (y : Ext W) (vA : Option Addr) (vc : Nat) (bA : Option Addr) (bc : Nat), e = .returned (.agg (g9C cl0 (exMe ⟨#[109]⟩ (tyOf ⟨#[65]⟩) 17 vA vc [exX] bA bc [exS]) none 0 0 20).toArray) ∧ w' = y.val ∧ 1 ≤ vc ∧ vc ≤ maxLen ∧ Lies y.val 13 Va.cells vA [exX] ∧ 1 ≤ bc ∧ bc ≤ maxLen ∧ Lies y.val 23 St.cells bA [exS] ∧ (∀ a, vA = some a → W.heap.size < a.block) ∧ ∀ a, bA = some a → W.heap.size < a.block :=
  method_ex W (.slice A 22 c) (.slice none 0 0) ⟨#[109]⟩ ⟨#[65]⟩ 17 exX ⟨#[120]⟩ (tyOf ⟨#[65]⟩) 30
    (fun X hX => params_none X A c exA (hl.below hX) (by decide) 8 (by decide) _ (exD 9 (by decide) _ _ (by kernel_rfl)))
    (fun X hX => exIs (hl.below hX) 10 (by decide) _ _ (by kernel_rfl))
    (fun X hX => locals_one X A c exA (hl.below hX) (by decide) 11 (by decide) _ exX
      (fun Y hY => begins_name Y A c exA ((hl.below hX).below hY) (by decide) 11 (by decide) (by kernel_rfl) (exD 12 (by decide) _ _ (by kernel_rfl)) true (by kernel_rfl))
      (fun Y hY => begins_name Y A c exA ((hl.below hX).below hY) (by decide) 14 (by decide) (by kernel_rfl) (exD 15 (by decide) _ _ (by kernel_rfl)) false (by kernel_rfl))
      (fun Y hY => var_name Y A c exA ((hl.below hX).below hY) (by decide) 11 (by decide) _ (by kernel_rfl) (by kernel_rfl) (exD 12 (by decide) _ _ (by kernel_rfl)) ⟨by decide, exD 13 (by decide) _ _ (by kernel_rfl), exD 13 (by decide) _ _ (by kernel_rfl), exD 13 (by decide) _ _ (by kernel_rfl)⟩)
      (exD 13 (by decide) _ _ (by kernel_rfl)))
    (fun X hX => exIs (hl.below hX) 14 (by decide) _ _ (by kernel_rfl))
    (fun X hX => stmt_new X A c exA (hl.below hX) (by decide) 14 (by decide) _ (by kernel_rfl) (exD 15 (by decide) _ _ (by kernel_rfl)) (exD 15 (by decide) _ _ (by kernel_rfl)) (exD 16 (by decide) _ _ (by kernel_rfl)) (exD 16 (by decide) _ _ (by kernel_rfl)) (by kernel_rfl) (by decide) (exD 18 (by decide) _ _ (by kernel_rfl)) (exD 18 (by decide) _ _ (by kernel_rfl)))
    (fun X hX => exIs (hl.below hX) 19 (by decide) _ _ (by kernel_rfl))

set_option maxRecDepth 100000 in
theorem ex_member2 (W : World) (A : Option Addr) (c : Nat) (hl : Lies W 3 Tk.cells A exA) (fA : Option Addr) (fc : Nat) :
    Calls Tryz.prog 43 #[.slice A 22 c, .int .i64 6, .agg (exCl ⟨#[65]⟩ fA fc [exF] none 0 [] 0).cells.toArray, .int .i64 0] W fun e w' => ∃ (y : Ext W) (mA : Option Addr) (mc : Nat) (vA : Option Addr) (vc : Nat) (bA : Option Addr) (bc : Nat), e = .returned (.agg (g9C (exCl ⟨#[65]⟩ fA fc [exF] mA mc [exM vA vc bA bc] 0) me0 none 0 0 20).toArray) ∧ w' = y.val ∧ 1 ≤ mc ∧ mc ≤ maxLen ∧ Lies y.val 17 Me.cells mA [exM vA vc bA bc] ∧ 1 ≤ vc ∧ vc ≤ maxLen ∧ Lies y.val 13 Va.cells vA [exX] ∧ 1 ≤ bc ∧ bc ≤ maxLen ∧ Lies y.val 23 St.cells bA [exS] ∧ (∀ a, mA = some a → W.heap.size < a.block) ∧ (∀ a, vA = some a → W.heap.size < a.block) ∧ ∀ a, bA = some a → W.heap.size < a.block :=
  member_method W (.slice A 22 c) ⟨#[65]⟩ ⟨#[109]⟩ ⟨#[65]⟩ ⟨#[65]⟩ 0 1 17 19 fA fc exF exX exS
    (fun X hX => exTok (hl.below hX) 6 (by decide))
    (fun X hX => exIs (hl.below hX) 6 (by decide) _ _ (by kernel_rfl))
    (fun X hX => parse_name X A c exA (hl.below hX) (by decide) 6 (by decide) true _ (by kernel_rfl) (exD 7 (by decide) _ _ (by kernel_rfl)) (.inr ⟨rfl, by decide, exD 8 (by decide) _ _ (by kernel_rfl), exD 8 (by decide) _ _ (by kernel_rfl), exD 8 (by decide) _ _ (by kernel_rfl)⟩))
    (fun X hX => exTok (hl.below hX) 7 (by decide))
    (fun X hX => exIs (hl.below hX) 8 (by decide) _ _ (by kernel_rfl))
    (fun X hX => ex_method X A c (hl.below hX))

theorem ex_member (W : World) (A : Option Addr) (c : Nat) (hl : Lies W 3 Tk.cells A exA) (i : Int) (C : Cl) (hF : FormC i C) (hi : i ≠ 20) (hok : ClOk C W) :
    Calls Tryz.prog 43 #[.slice A 22 c, .int .i64 i, .agg C.cells.toArray, .int .i64 0] W fun e w' => ∃ (y : Ext W) (C' : Cl) (nx : Int), e = .returned (.agg (g9C C' me0 none 0 0 nx).toArray) ∧ w' = y.val ∧ FormC nx C' ∧ i < nx ∧ ClOk C' y.val ∧ ∀ p : Nat → Prop, BlkC p C → (∀ b, W.heap.size ≤ b → b < y.val.heap.size → p b) → BlkC p C' := by
  rcases hF with ⟨rfl, rfl⟩ | ⟨rfl, fA, fc, h1, h2, rfl⟩ | ⟨rfl, _⟩
  · refine (ex_field W A c hl).mono ?_
    rintro _ _ ⟨y, fA, fc, rfl, rfl, h1, h2, h3, h4⟩
    refine ⟨y, _, 6, rfl, rfl, .inr (.inl ⟨rfl, fA, fc, h1, h2, rfl⟩), by decide, ⟨h3, hok.m.ext y, fun m hm => (by cases hm), fun m hm => (by cases hm)⟩, fun p hp hq => ⟨fun a e => hq _ (Nat.le_of_lt (h4 a e)) (lies_lt h3 a e), hp.2.1, fun m hm => by cases hm⟩⟩
  · refine (ex_member2 W A c hl fA fc).mono ?_
    rintro _ _ ⟨y, mA, mc, vA, vc, bA, bc, rfl, rfl, m1, m2, m3, v1, v2, v3, b1, b2, b3, m4, v4, b4⟩
    refine ⟨y, _, 20, rfl, rfl, .inr (.inr ⟨rfl, fA, fc, mA, mc, vA, vc, bA, bc, ⟨h1, h2⟩, ⟨m1, m2⟩, ⟨v1, v2⟩, ⟨b1, b2⟩, rfl⟩), by decide, ⟨hok.f.ext y, m3, fun m hm => ?_, fun m hm => ?_⟩, fun p hp hq => ⟨hp.1, fun a e => hq _ (Nat.le_of_lt (m4 a e)) (lies_lt m3 a e), fun m hm => ?_⟩⟩
    · cases List.mem_singleton.1 hm
      exact v3
    · cases List.mem_singleton.1 hm
      exact b3
    · cases List.mem_singleton.1 hm
      exact ⟨fun a e => hq _ (Nat.le_of_lt (v4 a e)) (lies_lt v3 a e), fun a e => hq _ (Nat.le_of_lt (b4 a e)) (lies_lt b3 a e)⟩
  · exact absurd rfl hi

theorem ex_class (w : World) (A : Option Addr) (c : Nat) (hl : Lies w 3 Tk.cells A exA) :
    Calls Tryz.prog 25 #[.slice A 22 c, .int .i64 0, .int .i64 0] w fun e w' => ∃ (y : Ext w) (C : Cl), e = .returned (.agg (g9C C me0 none 0 0 21).toArray) ∧ w' = y.val ∧ FormC 20 C ∧ ClOk C y.val :=
  class_ex w (.slice A 22 c) ⟨#[65]⟩ ⟨#[99, 108, 97, 115, 115]⟩ 0 3 6 FormC (.inl ⟨rfl, rfl⟩)
    (fun i C h => by rcases h with ⟨rfl, _⟩ | ⟨rfl, _⟩ | ⟨rfl, _⟩ <;> decide)
    (fun i C h hi => by
      rcases h with ⟨rfl, rfl⟩ | ⟨rfl, fA, fc, _, _, rfl⟩ | ⟨rfl, _⟩
      · rfl
      · rfl
      · exact absurd rfl hi)
    (fun X hX => exTok (hl.below hX) 0 (by decide))
    (fun X hX => exTok (hl.below hX) 1 (by decide))
    (fun X hX => exIs (hl.below hX) 2 (by decide) _ _ (by kernel_rfl))
    (fun X hX => exIs (hl.below hX) 2 (by decide) _ _ (by kernel_rfl))
    (fun X hX => exIs (hl.below hX) 2 (by decide) _ _ (by kernel_rfl))
    (fun X i C hX h => by
      rcases h with ⟨rfl, _⟩ | ⟨rfl, _⟩ | ⟨rfl, _⟩
      · exact exIs (hl.below hX) 3 (by decide) _ _ (by kernel_rfl)
      · exact exIs (hl.below hX) 6 (by decide) _ _ (by kernel_rfl)
      · exact exIs (hl.below hX) 20 (by decide) _ _ (by kernel_rfl))
    (fun X i C hX h hi hok => ex_member X A c (hl.below hX) i C h hi hok)
end Go.Proofs.YtmpdmelkbemabaaGreat
set_option linter.unusedSimpArgs false
set_option linter.unusedVariables false
namespace Go.Proofs.YtmpdmelkbemabaaGreat
open Go.RowKit Go.Proofs.Grow

theorem infoClK : (Tryz.prog.info? 35).map (fun i => (i.zero.map (·.cells.size), i.size, i.bytes)) = some (some 7, 7, 136) := by kernel_rfl
theorem ex_stmts (W : World) (C : Cl) (hF : FormC 20 C) (hok : ClOk C W) : Gives Tryz.prog 26 #[.agg C.cells.toArray] W (.int .i64 1) := by
  rcases hF with ⟨h, _⟩ | ⟨h, _⟩ | ⟨_, fA, fc, mA, mc, vA, vc, bA, bc, _, _, _, _, rfl⟩
  · exact absurd h (by decide)
  · exact absurd h (by decide)
  · exact stmts1 W _ mA mc (exM vA vc bA bc) bA bc exS rfl hok.m rfl (hok.b _ (List.mem_singleton_self _)) (fun X => size_leaf X 5 _ _ _)
theorem same_fill {W : World} {g : Nat} {cs : Array Value} {t : TypeId} (h : W.heap[g]? = some (.cells cs t (0, 0))) : Below W.heap.size W (W.setCells g 0 cs.toList) := by
  have hb := setCells_below (Nat.zero_le g) cs.toList 0 W
  refine ⟨hb.os, hb.tape, hb.output, hb.size, fun k hk => ?_⟩
  by_cases e : k = g
  · subst e
    exact (row_fill h rfl).trans h.symm
  · exact setCells_other g cs.toList 0 W k e

set_option maxHeartbeats 40000000 in
set_option maxRecDepth 100000 in
theorem ofC_any (w : World) : Calls Tryz.prog 12 #[.string exT] w fun e w' => ∃ (y : Ext w) (A : Option Addr) (c : Nat) (C : Cl), e = .returned (.tuple #[.slice A 1 c, .agg #[.int .i64 0, .int .i64 0]]) ∧ w' = y.val ∧ 1 ≤ c ∧ c ≤ maxLen ∧ Lies y.val 7 Cl.cells A [C] ∧ FormC 20 C ∧ ClOk C y.val := by
  obtain ⟨i0, z0, hi0, hz0, hz1, hz2, hzs⟩ := info_row infoClK
  obtain ⟨s, hs⟩ : ∃ s, s = exT := ⟨_, rfl⟩
  have HOf := hide ofT_any
  rw [← hs] at HOf ⊢
  clear hs
  have HT0 : Hid (∀ W A c, Lies W 3 Tk.cells A exA → Calls Tryz.prog 23 #[.slice A 22 c, .int .i64 0] W fun e w' => ∃ x : Ext W, e = .returned (.agg #[.int .i64 3, .string ⟨#[99, 108, 97, 115, 115]⟩, .int .i64 0]) ∧ w' = x.val) := fun W A c hl => exTok hl 0 (by decide)
  have HT21 : Hid (∀ W A c, Lies W 3 Tk.cells A exA → Calls Tryz.prog 23 #[.slice A 22 c, .int .i64 21] W fun e w' => ∃ x : Ext W, e = .returned (.agg #[.int .i64 0, .string ⟨#[]⟩, .int .i64 44]) ∧ w' = x.val) := fun W A c hl => exTok hl 21 (by decide)
  have HIs : Hid (∀ W A c, Lies W 3 Tk.cells A exA → Calls Tryz.prog 24 #[.slice A 22 c, .int .i64 0, .string ⟨#[99, 108, 97, 115, 115]⟩] W fun e w' => ∃ x : Ext W, e = .returned (.bool true) ∧ w' = x.val) := fun W A c hl => exIs hl 0 (by decide) _ _ (by kernel_rfl)
  have HCl := hide ex_class
  have HSt : Hid (∀ W C, FormC 20 C → ClOk C W → Calls Tryz.prog 26 #[.agg C.cells.toArray] W fun e w' => ∃ x : Ext W, e = .returned (.int .i64 1) ∧ w' = x.val) := ex_stmts
  have q0 := fld_tk0 3 0 ⟨#[99, 108, 97, 115, 115]⟩
  have q9 := fld_tk0 0 44 ⟨#[]⟩
  go_enter Tryz.func12, Tryz.ntmps12
  go_upto_region 1 with fail
  obtain ⟨W1, hW1⟩ : ∃ W1, W1 = w.alloc (.cells #[.int .i64 0, .int .i64 0] 54) := ⟨_, rfl⟩
  have hB1 : Hid (Below w.heap.size w W1) := by show Below _ _ _; rw [hW1]; exact (Below.refl _ _).alloc (Nat.le_refl _) _
  have hr3 : Hid (W1.heap[w.heap.size]? = some (.cells #[.int .i64 0, .int .i64 0] 54 (0, 0))) := by show _ = _; rw [hW1]; exact heap_alloc_new w _
  rw [← hW1]
  clear hW1
  go_upto_region 2 with (first | (go_at_call 22; ((with_reducible refine (HOf.out _).mono ?_); rintro _ _ ⟨y, A, c, rfl, rfl, t1, t2, t3⟩; have hLt := hide t3; clear t1 t2 t3)) | (refine wpList_store_new rfl 54 (.tmp 5) (.tmp 14) rfl _ _ #[.int .i64 0, .int .i64 0] _ rfl rfl rfl (by kernel_rfl) rfl (by simp [Value.oneCell']) ?_))
  obtain ⟨g5, hg5⟩ : ∃ g, g = y.val.heap.size := ⟨_, rfl⟩
  obtain ⟨W2, hW2⟩ : ∃ W, W = y.val.alloc (.cells #[.int .i64 0, .int .i64 0] 54) := ⟨_, rfl⟩
  have hBx := hB1.out.trans (y.below.mono hB1.out.size)
  have hB2 : Hid (Below w.heap.size w W2) := by show Below _ _ _; rw [hW2]; exact hBx.alloc hBx.size _
  have hr3b : Hid (W2.heap[w.heap.size]? = some (.cells #[.int .i64 0, .int .i64 0] 54 (0, 0))) := by show _ = _; rw [hW2]; exact (Below.heap_alloc _ _ _ (row_lt (row_up y hr3.out))).trans (row_up y hr3.out)
  have hr5 : Hid (W2.heap[g5]? = some (.cells #[.int .i64 0, .int .i64 0] 54 (0, 0))) := by show _ = _; rw [hW2, hg5]; exact heap_alloc_new _ _
  have hLt2 : Hid (Lies W2 3 Tk.cells A exA) := by show Lies _ _ _ _ _; rw [hW2]; exact hLt.out.alloc _
  rw [← hW2, ← hg5]
  clear hW2 hg5 hBx hB1 hr3 HOf hLt y
  have e5 : W2.cell? ⟨g5, 0, none⟩ = some (.int .i64 0) := (row_cell (cs := [.int .i64 0, .int .i64 0]) hr5.out (j := 0) rfl).1
  go_wp2_with fail
  clear e5 hr5
  go_loopw [6, 7, 8] (fun s6 s7 s8 wr => Hid (Below w.heap.size w wr) ∧ Hid (wr.heap[w.heap.size]? = some (.cells #[.int .i64 0, .int .i64 0] 54 (0, 0))) ∧ Hid (Lies wr 3 Tk.cells A exA) ∧ ((s6 = .slice none 0 0 ∧ s7 = .int .i64 0 ∧ s8 = .int .i64 0) ∨ ∃ (A' : Option Addr) (c' : Nat) (C : Cl), s6 = .slice A' 1 c' ∧ s7 = .int .i64 21 ∧ s8 = .int .i64 1 ∧ 1 ≤ c' ∧ c' ≤ maxLen ∧ Hid (Lies wr 7 Cl.cells A' [C]) ∧ FormC 20 C ∧ Hid (ClOk C wr))) (fun _ s7 _ _ => (21 - intOf s7).toNat)
  case atStart => exact ⟨hB2, hr3b, hLt2, .inl ⟨rfl, rfl, rfl⟩⟩
  case round =>
    clear hB2 hr3b hLt2
    obtain ⟨hB3, hr3c, hLt3, ⟨rfl, rfl, rfl⟩ | ⟨A', c', C, rfl, rfl, rfl, k1, k2, hLc, hFc, hok⟩⟩ := hrel
    · clear q9
      go_upto_region 7 with (go_at_call 23; ((with_reducible refine (HT0.out _ A c hLt3.out).mono ?_); rintro _ _ ⟨y, rfl, rfl⟩))
      have hB4 := hide (hB3.out.trans (y.below.mono hB3.out.size))
      have hr3d := hide (row_up y hr3c.out)
      have hLt4 := hide (hLt3.out.ext y)
      generalize y.val = W4 at hB4 hr3d hLt4 ⊢
      clear hB3 hr3c hLt3 q0 y
      go_upto_region 11 with (go_at_call 24; ((with_reducible refine (HIs.out _ A c hLt4.out).mono ?_); rintro _ _ ⟨y, rfl, rfl⟩))
      have hB5 := hide (hB4.out.trans (y.below.mono hB4.out.size))
      have hr3e := hide (row_up y hr3d.out)
      have hLt5 := hide (hLt4.out.ext y)
      generalize y.val = W5 at hB5 hr3e hLt5 ⊢
      clear hB4 hr3d hLt4 y
      go_upto_region 12 with (first | (go_at_call 25; ((with_reducible refine (HCl.out _ A c hLt5.out).mono ?_); rintro _ _ ⟨y, C, rfl, rfl, k1, k2⟩; have hFc := hide k1; have hok := hide k2; clear k1 k2)) | (refine wpList_store_new rfl 88 (.tmp 9) (.tmp 44) rfl _ _ (g9C C me0 none 0 0 21).toArray _ rfl rfl rfl (by kernel_rfl) rfl (fun u hu => g9C_one _ _ _ _ _ _ u (by simpa using hu)) ?_))
      obtain ⟨g9, hg9⟩ : ∃ g, g = y.val.heap.size := ⟨_, rfl⟩
      obtain ⟨W6, hW6⟩ : ∃ W, W = y.val.alloc (.cells (g9C C me0 none 0 0 21).toArray 88) := ⟨_, rfl⟩
      have hgo : Below y.val.heap.size y.val W6 := by rw [hW6]; exact (Below.refl _ _).alloc (Nat.le_refl _) _
      have hBx := hB5.out.trans (y.below.mono hB5.out.size)
      have hB6 : Hid (Below w.heap.size w W6) := hBx.trans (hgo.mono hBx.size)
      have hr3f : Hid (W6.heap[w.heap.size]? = some (.cells #[.int .i64 0, .int .i64 0] 54 (0, 0))) := (hgo.block _ (row_lt (row_up y hr3e.out))).trans (row_up y hr3e.out)
      have hr9 : Hid (W6.heap[g9]? = some (.cells (g9C C me0 none 0 0 21).toArray 88 (0, 0))) := by show _ = _; rw [hW6, hg9]; exact heap_alloc_new _ _
      have hLt6 : Hid (Lies W6 3 Tk.cells A exA) := (hLt5.out.ext y).below hgo
      have hok6 : Hid (ClOk C W6) := hok.out.into ⟨⟨_, hgo⟩, rfl⟩
      rw [← hW6, ← hg9]
      clear hW6 hg9 hBx hgo hB5 hr3e hLt5 hok HCl HIs y
      have d27 : W6.cell? ⟨g9, 27, none⟩ = some (.int .i64 0) := (row_cell hr9.out (j := 27) rfl).1
      go_upto_region 14 with fail
      clear d27
      have hrC : Hid (W6.rangeAt g9 0 C.cells) := fun j u hj => (row_cell hr9.out (j := 0 + j) (by rw [Nat.zero_add]; exact g9_cl _ _ _ _ _ _ hj)).1
      have hown0 : Hid (Below W6.heap.size W6 (W6.alloc (.cells C.cells.toArray 35))) := (Below.refl _ _).alloc (Nat.le_refl _) _
      go_upto_region 15 with (first | (refine wpList_load_mid rfl 35 (.tmp 52) rfl g9 0 rfl C.cells _ hrC.out Tryz.underlying35 rfl (by rw [Cl.cells_len]; kernel_rfl) ?_) | (refine wpList_lit_one rfl 22 35 (.tmp 53) rfl C.cells.toArray rfl i0 z0 7 Tryz.underlying22 hi0 hz0 hz1 (by rw [List.size_toArray, Cl.cells_len]) (by decide) (by decide) ?_) | (at_builtin; refine wpList_append_list (w1 := W6) _ rfl (.tmp 51) (.tmp 54) 22 rfl 35 i0 z0 7 136 Tryz.underlying22 hi0 hz0 hz1 hz2 hzs (by decide) Cl.cells_len Cl.cells_one hown0.out (.slice none 0 0) [] rfl Own.nil _ 1 1 [C] rfl rfl (Lies.one W6 C _ rfl) (by simp [maxLen]) (by simp) ?_; intro v' y2 hown' hgr hat; obtain ⟨gb, cb, rfl, hgb⟩ : ∃ g cp, v' = .slice (some ⟨g, 0, none⟩) 1 cp ∧ W6.heap.size ≤ g := Own.some_pos hown' Nat.one_pos; have hO := hide hown'; clear hown' hgr hat; simp only [Act.put, List.getElem_toArray, List.getElem_cons_succ, List.getElem_cons_zero, List.setIfInBounds_toArray, List.set_cons_zero, List.set_cons_succ]))
      obtain ⟨A', c', he, l1, l2, l3⟩ := hO.out.lies Cl.cells_len
      cases he
      have L1 := hide l1
      have L2 := hide l2
      have L3 := hide l3
      have hB7 := hide (hB6.out.trans (y2.below.mono hB6.out.size))
      have hr3g := hide (row_up y2 hr3f.out)
      have hr9g := hide (row_up y2 hr9.out)
      have hLt7 := hide (hLt6.out.ext y2)
      have hok7 := hide (hok6.out.into ⟨y2, rfl⟩)
      generalize y2.val = W7 at hB7 hr3g hr9g hLt7 hok7 L3 ⊢
      clear hO l1 l2 l3 hgb hown0 hrC hB6 hr3f hr9 hLt6 hok6 y2
      have hrC : Hid (W7.rangeAt g9 0 C.cells) := fun j u hj => (row_cell hr9g.out (j := 0 + j) (by rw [Nat.zero_add]; exact g9_cl _ _ _ _ _ _ hj)).1
      go_upto_region 16 with (first | (refine wpList_load_mid rfl 35 (.tmp 57) rfl g9 0 rfl C.cells _ hrC.out Tryz.underlying35 rfl (by rw [Cl.cells_len]; kernel_rfl) ?_) | (go_at_call 26; ((with_reducible refine (HSt.out _ C hFc.out hok7.out).mono ?_); rintro _ _ ⟨y, rfl, rfl⟩)))
      have hB8 := hide (hB7.out.trans (y.below.mono hB7.out.size))
      have hr3h := hide (row_up y hr3g.out)
      have hr9h := hide (row_up y hr9g.out)
      have hLt8 := hide (hLt7.out.ext y)
      have hok8 := hide (hok7.out.into ⟨y, rfl⟩)
      have hLc8 := hide (L3.out.ext y)
      generalize y.val = W8 at hB8 hr3h hr9h hLt8 hok8 hLc8 ⊢
      clear L3 hrC hB7 hr3g hr9g hLt7 hok7 y
      have d26 : W8.cell? ⟨g9, 26, none⟩ = some (.int .i64 21) := (row_cell hr9h.out (j := 26) rfl).1
      go_wp2_with fail
      go_roundw
      case rel => exact ⟨hB8, hr3h, hLt8, .inr ⟨_, _, C, rfl, rfl, rfl, L1.out, L2.out, hLc8, hFc.out, hok8⟩⟩
      case measure => simp only [intOf_int]; decide
    · clear q0
      have K := hide (And.intro k1 (And.intro k2 hFc))
      clear k1 k2 hFc
      go_upto_region 17 with (go_at_call 23; ((with_reducible refine (HT21.out _ A c hLt3.out).mono ?_); rintro _ _ ⟨y, rfl, rfl⟩))
      have hB4 := hide (hB3.out.trans (y.below.mono hB3.out.size))
      have hr3d := hide (row_up y hr3c.out)
      have hLc4 := hide (hLc.out.ext y)
      have hok4 := hide (hok.out.into ⟨y, rfl⟩)
      generalize y.val = W4 at hB4 hr3d hLc4 hok4 ⊢
      clear hB3 hr3c hLt3 hLc hok q9 y
      have hth := hide (row_there hr3d.out 2 (Nat.le_refl _))
      go_wp2_with (first | (refine wpList_buildV rfl 54 [] rfl [] rfl #[.int .i64 0, .int .i64 0] (by kernel_rfl) ?_) | (refine wpList_store_mid rfl 54 (.tmp 3) (.tmp 64) rfl w.heap.size 0 (#[.int .i64 0, .int .i64 0]) rfl rfl hth.out (by kernel_rfl) (by simp [Value.oneCell']) ?_))
      have hr3 := row_fill (cs := #[.int .i64 0, .int .i64 0]) hr3d.out rfl
      have e0 := (row_cell (cs := [_, _]) hr3 (j := 0) rfl).1
      have e1 := (row_cell (cs := [_, _]) hr3 (j := 1) rfl).1
      refine bodyPost_ret (v := .tuple #[.slice A' 1 c', .agg #[.int .i64 0, .int .i64 0]]) ?_ ?_ ?_
      · simp [results, Tryz.f12, go_sem] at e0 e1 ⊢
        simp [e0, e1]
      · rfl
      · have hs := same_fill hr3d.out
        obtain ⟨x', hx'⟩ := Ext.of (hB4.out.trans (hs.mono hB4.out.size))
        refine ⟨x', A', c', C, rfl, hx', K.out.1, K.out.2.1, ?_, K.out.2.2, ?_⟩
        · rw [← hx']
          exact hLc4.out.below hs
        · rw [← hx']
          exact hok4.out.into ⟨⟨_, hs⟩, rfl⟩
end Go.Proofs.YtmpdmelkbemabaaGreat
set_option linter.unusedSimpArgs false
set_option linter.unusedVariables false
namespace Go.Proofs.YtmpdmelkbemabaaGreat
open Go.RowKit Go.Proofs.Grow

theorem ex_in {W : World} {C : Cl} (hF : FormC 20 C) (hok : ClOk C W) : ClIn W C := by
  rcases hF with ⟨h, _⟩ | ⟨h, _⟩ | ⟨_, fA, fc, mA, mc, vA, vc, bA, bc, ⟨f1, f2⟩, ⟨m1, m2⟩, ⟨v1, v2⟩, ⟨b1, b2⟩, rfl⟩
  · exact absurd h (by decide)
  · exact absurd h (by decide)
  · refine ⟨Lies.nil, Nat.le_refl _, Nat.zero_le _, Lies.nil, Nat.le_refl _, Nat.zero_le _, hok.f, f1, f2, hok.m, m1, m2, fun m hm => ?_⟩
    cases List.mem_singleton.1 hm
    refine ⟨Lies.nil, Nat.le_refl _, Nat.zero_le _, hok.l _ hm, v1, v2, hok.b _ hm, b1, b2, fun s hs => ?_⟩
    cases List.mem_singleton.1 hs
    refine .mk (.mk Lies.nil (Nat.le_refl _) (Nat.zero_le _) (Nat.zero_le _) (fun e he => by cases he)) Lies.nil (Nat.le_refl _) (Nat.zero_le _) (fun e he => by cases he) Lies.nil (Nat.le_refl _) (Nat.zero_le _) (fun e he => by cases he) Lies.nil (Nat.le_refl _) (Nat.zero_le _) (fun e he => by cases he) ⟨?_, Nat.zero_le _, Nat.zero_le _, ?_⟩ <;> (show 1 ≤ maxLen; unfold maxLen; omega)
theorem ex_len {C : Cl} (hF : FormC 20 C) : (slP [C]).length = 4 ∧ (lnP [C]).length = 1 ∧ ∃ x, ((slP [C]).map Sl.note)[2]? = some x ∧ x.cells[2]? = some (.int .i64 0) := by
  rcases hF with ⟨h, _⟩ | ⟨h, _⟩ | ⟨_, fA, fc, mA, mc, vA, vc, bA, bc, _, _, _, _, rfl⟩
  · exact absurd h (by decide)
  · exact absurd h (by decide)
  · exact ⟨rfl, rfl, _, rfl, rfl⟩

theorem ex_types (W : World) (A : Option Addr) (c : Nat) (C : Cl) (hF : FormC 20 C) (hok : ClOk C W) (hl : Lies W 7 Cl.cells A [C]) :
    Calls Tryz.prog 13 #[.slice A 1 c] W fun e w' => ∃ (y : Ext W) (b off c' : Nat), e = .returned (.slice (some ⟨b, off, none⟩) 4 c') ∧ w' = y.val ∧ b < y.val.heap.size ∧ y.val.cell? ⟨b, off + 2 * 15 + 2, none⟩ = some (.int .i64 0) := by
  obtain ⟨h4, _, x, hx, hx2⟩ := ex_len hF
  have hin : ∀ cl ∈ [C], ClIn W cl := fun cl h => by
    cases List.mem_singleton.1 h
    exact ex_in hF hok
  have h := types_any W A c [C] (fun X hX => by
    obtain ⟨u, rfl⟩ := Ext.of hX
    exact RdP.of (hl.ext u) (fun cl h => (hin cl h).ext u) (by show 1 ≤ maxLen; unfold maxLen; omega)) (fun x hx => slP_in hin x hx) (by rw [h4]; omega)
  refine Calls.mono h ?_
  rintro _ _ ⟨y, A', c', rfl, rfl, _, _, hL, _⟩
  have hlen : ((slP [C]).map Sl.note).length = 4 := by rw [List.length_map, h4]
  obtain ⟨b, off, rfl, hb, hc⟩ := hL 2 (by rw [hlen]; omega)
  have e2 : ((slP [C]).map Sl.note)[2]'(by rw [hlen]; omega) = x := Option.some.inj ((List.getElem?_eq_getElem _).symm.trans hx)
  refine ⟨y, b, off, c', by rw [hlen], rfl, hb, ?_⟩
  exact hc 2 _ (by rw [e2]; exact hx2)
theorem ex_lines (W : World) (A : Option Addr) (c : Nat) (C : Cl) (hF : FormC 20 C) (hok : ClOk C W) (hl : Lies W 7 Cl.cells A [C]) :
    Calls Tryz.prog 14 #[.slice A 1 c] W fun e w' => ∃ (y : Ext W) (A' : Option Addr) (c' : Nat), e = .returned (.slice A' 1 c') ∧ w' = y.val := by
  obtain ⟨_, h1, _⟩ := ex_len hF
  refine Calls.mono (stmts_any W A c [C] (by show 1 ≤ 9223372036854775807; omega) hl (fun cl h => by
    cases List.mem_singleton.1 h
    exact ex_in hF hok) (by rw [h1]; omega)) ?_
  rintro _ _ ⟨y, A', c', rfl, rfl, _⟩
  exact ⟨y, A', c', by rw [h1], rfl⟩

set_option maxHeartbeats 4000000 in
set_option maxRecDepth 100000 in
theorem awake12_any (w : World) : Gives Tryz.prog 5 #[] w (.bool true) := by
  refine Gives.mk ?_
  have HOf := hide ofC_any
  unfold exT at HOf
  have HTy := hide ex_types
  have HLn := hide ex_lines
  go_enter Tryz.func5, Tryz.ntmps5
  go_upto_region 2 with (first | (go_at_call 12; ((with_reducible refine (HOf.out _).mono ?_); rintro _ _ ⟨y, A, c, C, rfl, rfl, t1, t2, t3, t4, t5⟩; have hL := hide t3; have hF := hide t4; have hok := hide t5; clear t1 t2 t3 t4 t5)) | (refine wpList_store_new rfl 54 (.tmp 2) (.tmp 6) rfl _ _ #[.int .i64 0, .int .i64 0] _ rfl rfl rfl (by kernel_rfl) rfl (by simp [Value.oneCell']) ?_))
  obtain ⟨W2, hW2⟩ : ∃ W, W = y.val.alloc (.cells #[.int .i64 0, .int .i64 0] 54) := ⟨_, rfl⟩
  have hgo : Below y.val.heap.size y.val W2 := by rw [hW2]; exact (Below.refl _ _).alloc (Nat.le_refl _) _
  have hB2 : Hid (Below w.heap.size w W2) := y.below.trans (hgo.mono y.below.size)
  have hL2 : Hid (Lies W2 7 Cl.cells A [C]) := hL.out.below hgo
  have hok2 : Hid (ClOk C W2) := hok.out.into ⟨⟨_, hgo⟩, rfl⟩
  obtain ⟨gy, hgy⟩ : ∃ g, g = y.val.heap.size := ⟨_, rfl⟩
  rw [← hW2, ← hgy]
  clear hW2 hgo hL hok hgy y
  go_wp2_with (first | (go_at_call 13; first | ((with_reducible refine (HTy.out W2 A c C hF.out hok2.out hL2.out).mono ?_); rintro _ _ ⟨y1, b1, off1, c1, rfl, rfl, hb1, _⟩) | ((with_reducible refine (HTy.out y2.val A c C hF.out ((hok2.out.into ⟨y1, rfl⟩).into ⟨y2, rfl⟩) ((hL2.out.ext y1).ext y2)).mono ?_); rintro _ _ ⟨y3, b3, off3, c3, rfl, rfl, hb3, hc3⟩)) | (go_at_call 14; ((with_reducible refine (HLn.out y1.val A c C hF.out (hok2.out.into ⟨y1, rfl⟩) (hL2.out.ext y1)).mono ?_); rintro _ _ ⟨y2, A2, c2, rfl, rfl⟩)))
  refine bodyPost_ret (results_tmp rfl _ _ _) rfl ?_
  exact ⟨rfl, ((hB2.out.trans (y1.below.mono hB2.out.size)).trans (y2.below.mono (hB2.out.trans (y1.below.mono hB2.out.size)).size)).trans (y3.below.mono ((hB2.out.trans (y1.below.mono hB2.out.size)).trans (y2.below.mono (hB2.out.trans (y1.below.mono hB2.out.size)).size)).size)⟩
end Go.Proofs.YtmpdmelkbemabaaGreat
