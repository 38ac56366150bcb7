/- The walk of demesnelaw37.ClusterTells. -/
import Derived.Test.YtglgoegabihngaaAwake37
import Derived.Test.YtglgoegabihngaaRefDelete
import Derived.Test.YtglgoegabihngaaRefGive
import Derived.Test.YtglgoegabihngaaSame37
import Derived.Deep.RegionHeld3
set_option linter.unusedSimpArgs false
set_option linter.unusedVariables false
namespace Go.Proofs.Grow
open Go.RowKit
theorem ceIn_give {w : World} {l : List Ce} (h : ∀ c ∈ l, CeIn w c) (k o : Int) : ∀ c ∈ give l k o, CeIn w c := by
  intro c hc
  unfold give at hc
  split at hc
  · obtain ⟨d, hd, rfl⟩ := List.mem_map.1 hc
    have := h d hd
    unfold giveC
    split
    · exact this
    · exact ⟨this.lies, this.le, this.max, this.cls⟩
  · exact h c hc
theorem ceIn_dels {w : World} {l : List Ce} (h : ∀ c ∈ l, CeIn w c) (o : Int) : ∀ c ∈ dels l o, CeIn w c := by
  intro c hc
  unfold dels at hc
  split at hc
  · exact h c hc
  · obtain ⟨⟨d, i⟩, hd, rfl⟩ := List.mem_map.1 hc
    have hd : l[i]? = some d := List.mem_zipIdx_iff_getElem?.1 hd
    have := h d (List.mem_of_getElem? hd)
    dsimp only
    split
    · exact ⟨this.lies, this.le, this.max, this.cls⟩
    · exact this
theorem fields_give {l : List Ce} {n : Nat} (h : ∀ c ∈ l, c.fields.length ≤ n) (k o : Int) : ∀ c ∈ give l k o, c.fields.length ≤ n := by
  intro c hc
  unfold give at hc
  split at hc
  · obtain ⟨d, hd, rfl⟩ := List.mem_map.1 hc
    have := h d hd
    unfold giveC
    split <;> exact this
  · exact h c hc
theorem fields_dels {l : List Ce} {n : Nat} (h : ∀ c ∈ l, c.fields.length ≤ n) (o : Int) : ∀ c ∈ dels l o, c.fields.length ≤ n := by
  intro c hc
  unfold dels at hc
  split at hc
  · exact h c hc
  · obtain ⟨⟨d, i⟩, hd, rfl⟩ := List.mem_map.1 hc
    have hd : l[i]? = some d := List.mem_zipIdx_iff_getElem?.1 hd
    have := h d (List.mem_of_getElem? hd)
    dsimp only
    split <;> exact this
end Go.Proofs.Grow
namespace Go.Proofs.Ytglgoegabihngaa
open Go.RowKit Go.Proofs.Grow

set_option maxHeartbeats 4000000 in
set_option maxRecDepth 100000 in
theorem lawTells37_any (w : World) (A : Option Addr) (c : Nat) (l : List Ce) (K O : Int) (hlc : l.length ≤ c) (hcm : c ≤ maxLen) (hl : Lies w 7 Ce.cells A l) (hin : ∀ c ∈ l, CeIn w c) :
    Gives Try.prog 6 #[.slice A l.length c, .agg #[.int .i64 K, .int .i64 O]] w (.bool true) := by
  refine Gives.mk ?_
  have hg := great_any (w.alloc (.cells #[.int .i64 K, .int .i64 O] 32)) A c l hlc hcm (hl.alloc _)
  cases hgr : great l
  · rw [hgr] at hg
    obtain ⟨hn1, hn2⟩ := great_false hgr
    have hf1 : ∀ c ∈ l, c.fields.length ≤ 1000000000 := fun c hc => Nat.le_trans (hn2 c hc) (by omega)
    have HG := hide hg
    have h0 : (w.alloc (.cells #[.int .i64 K, .int .i64 O] 32)).cell? ⟨w.heap.size, 0, none⟩ = some (.int .i64 K) := by rw [World.cell?_alloc_at _ _ _ _ rfl]; rfl
    have h1 : (w.alloc (.cells #[.int .i64 K, .int .i64 O] 32)).cell? ⟨w.heap.size, 1, none⟩ = some (.int .i64 O) := by rw [World.cell?_alloc_at _ _ _ _ rfl]; rfl
    have hz : w.heap.size < (w.alloc (.cells #[.int .i64 K, .int .i64 O] 32)).heap.size := by simp
    have hB : Below w.heap.size w (w.alloc (.cells #[.int .i64 K, .int .i64 O] 32)) := (Below.refl _ _).alloc (Nat.le_refl _) _
    have HL := hide (hl.alloc (.cells #[.int .i64 K, .int .i64 O] 32))
    have HIN : Hid (∀ c ∈ l, CeIn (w.alloc (.cells #[.int .i64 K, .int .i64 O] 32)) c) := fun c hc => (hin c hc).ext ⟨_, hB⟩
    go_enter Try.func6, Try.ntmps6
    go_upto_region 1 with fail
    generalize w.alloc (.cells #[.int .i64 K, .int .i64 O] 32) = w1 at *
    have HB := hide hB
    have HF := hide hf1
    clear hg hgr hl hin hB hn2 hf1
    go_upto_region 5 with (first | (go_at_call 20; refine HG.out.mono ?_; rintro _ _ ⟨rfl, rfl⟩) | (go_at_call 22; refine (delete_any w1 A c l K (by omega) HL.out).mono ?_; rintro _ _ ⟨y1, v1, rfl, rfl, ho1⟩; have HO1 := hide ho1; clear ho1) | (go_at_call 23; refine (refDelete_any y1.val A c l K (by omega) (HL.out.ext y1)).mono ?_; rintro _ _ ⟨y2, v2, rfl, rfl, ho2⟩; have HO2 := hide ho2; clear ho2))
    obtain ⟨A1, a1, rfl, _, _, hL1⟩ := HO1.out.lies Ce.cells_len
    obtain ⟨A2, a2, rfl, _, _, hL2⟩ := HO2.out.lies Ce.cells_len
    have hdl := dels_len l K
    have hgl := give_len l K O
    have HS1 : Hid (∀ W : Ext y2.val, Gives Try.prog 24 #[.slice A1 (dels l K).length a1, .slice A2 (dels l K).length a2] W.val (.bool true)) := fun W =>
      same_any W.val A1 A2 a1 a2 (dels l K) (by omega) (fields_dels HF.out K) (fun c hc => (((ceIn_dels HIN.out K c hc).ext y1).ext y2).ext W) ((hL1.ext y2).ext W) (hL2.ext W)
    have HG1 := hide (fun W : Ext y2.val => give_any W.val A c l K O (by omega) (((HL.out.ext y1).ext y2).ext W))
    have HG2 := hide (fun W : Ext y2.val => refGive_any W.val A c l K O (by omega) (((HL.out.ext y1).ext y2).ext W))
    have HS2 : Hid (∀ (W : Ext y2.val) (A3 A4 : Option Addr) (a3 a4 : Nat), Lies W.val 7 Ce.cells A3 (give l K O) → Lies W.val 7 Ce.cells A4 (give l K O) → Gives Try.prog 24 #[.slice A3 (give l K O).length a3, .slice A4 (give l K O).length a4] W.val (.bool true)) := fun W A3 A4 a3 a4 h3 h4 =>
      same_any W.val A3 A4 a3 a4 (give l K O) (by omega) (fields_give HF.out K O) (fun c hc => (((ceIn_give HIN.out K O c hc).ext y1).ext y2).ext W) h3 h4
    have hzW : w.heap.size < y2.val.heap.size := y2.lt (y1.lt hz)
    have s0 : y2.val.cell? ⟨w.heap.size, 0, none⟩ = some (.int .i64 K) := (y2.cell (y1.lt hz)).trans ((y1.cell hz).trans h0)
    have s1 : y2.val.cell? ⟨w.heap.size, 1, none⟩ = some (.int .i64 O) := (y2.cell (y1.lt hz)).trans ((y1.cell hz).trans h1)
    have HBB : Hid (Below w.heap.size w y2.val) := HB.out.trans ((y1.step y2.below).below.mono HB.out.size)
    clear hL1 hL2 hdl hgl HO1 HO2 HL HIN HF HG h0 h1 hz hlc hcm hn1 HB
    generalize delN l K = n at *
    generalize give l K O = gl at *
    generalize dels l K = dl at *
    generalize y2.val = W2 at *
    go_region_held3 (fun W => W.cell? ⟨w.heap.size, 0, none⟩ = some (.int .i64 K) ∧ W.cell? ⟨w.heap.size, 1, none⟩ = some (.int .i64 O)) (first | exact ⟨(Ext.cell _ hzW).trans s0, (Ext.cell _ hzW).trans s1⟩ | go_keep) (first | (go_at_call 24; (with_reducible refine ((HS2.out z3 _ _ _ _ HL3.out HL4.out).over z3).mono ?_); rintro _ _ ⟨z4, hz4, rfl, rfl⟩) | (go_at_call 25; refine (HG1.out z1).mono ?_; rintro _ _ ⟨u2, v3, rfl, rfl, ho3⟩; obtain ⟨z2, hz2⟩ : ∃ z : Ext W2, u2.val = z.val := ⟨z1.step u2.below, rfl⟩; rw [hz2] at ho3 ⊢; have HO3 := hide ho3; clear ho3 hz2) | (go_at_call 26; refine (HG2.out z2).mono ?_; rintro _ _ ⟨u3, v4, rfl, rfl, ho4⟩; obtain ⟨A3, a3, rfl, _, _, hL3⟩ := HO3.out.lies Ce.cells_len; obtain ⟨A4, a4, rfl, _, _, hL4⟩ := ho4.lies Ce.cells_len; obtain ⟨z3, hz3⟩ : ∃ z : Ext W2, u3.val = z.val := ⟨z2.step u3.below, rfl⟩; have HL3 := hide (hL3.ext u3); have HL4 := hide hL4; rw [hz3] at HL3 HL4 ⊢; clear ho4 hL3 hL4 hz3 HO3) | (go_at_call 24; refine ((HS1.out (Ext.drewOf W2)).over (Ext.drewOf W2)).mono ?_; rintro _ _ ⟨z1, hz1, rfl, rfl⟩) | (go_at_call 21; refine ((awake37_any z4.val).over z4).mono ?_; rintro _ _ ⟨z5, hz5, rfl, rfl⟩))
    go_wp2_with fail
    go_ret
    exact ⟨rfl, HBB.out.trans (z5.below.mono HBB.out.size)⟩
  · rw [hgr] at hg
    have HG := hide hg
    clear hg hgr hl hin
    go_enter Try.func6, Try.ntmps6
    go_wp2_with (first | (go_at_call 20; refine HG.out.mono ?_; rintro _ _ ⟨rfl, rfl⟩) | (go_at_call 21; refine (awake37_any _).mono ?_; rintro _ _ ⟨y2, rfl, rfl⟩))
    go_ret
    refine ⟨rfl, ?_⟩
    repeat (first | exact Below.refl _ _ | exact Nat.le_refl _ | assumption | refine below_ext ?_ ?_ _ | refine Below.alloc ?_ ?_ _ | refine Below.drew ?_ | refine Below.setCell ?_ ?_ _ | refine Ext.le _ ?_ | refine le_alloc ?_ | refine le_drew ?_ | refine le_setCell ?_)
    all_goals omega
end Go.Proofs.Ytglgoegabihngaa
