/- The walk of cluster.held's iterator. -/
import Derived.Test.YtglgoegabihngaaUp
import Derived.Test.YtglgoegabihngaaSet
import Derived.Test.YtglgoegabihngaaIdx
import Derived.Deep.DeepCutAuto
set_option linter.unusedSimpArgs false
set_option linter.unusedVariables false
namespace Go.Proofs.Grow
open Go.RowKit

/-- api.Frame -/
structure Fr where
  this : Int
  cls : ByteArray
  meth : ByteArray
  vA : Option Addr
  vc : Nat
  vars : List Vl
  pc : Int
  into : Int
def Fr.cells (f : Fr) : List Value := [.int .i64 f.this, .string f.cls, .string f.meth, .slice f.vA f.vars.length f.vc, .int .i64 f.pc, .int .i64 f.into]
theorem Fr.cells_len (f : Fr) : f.cells.length = 6 := rfl
theorem Fr.cells_one (f : Fr) : ∀ u ∈ f.cells, u.oneCell' = true := by
  intro u hu; simp [Fr.cells] at hu; rcases hu with rfl | rfl | rfl | rfl | rfl | rfl <;> rfl
structure FrIn (w : World) (f : Fr) : Prop where
  lies : Lies w 2 Vl.cells f.vA f.vars
  le : f.vars.length ≤ f.vc
  max : f.vc ≤ maxLen
theorem FrIn.ext {w : World} {f : Fr} (h : FrIn w f) (x : Ext w) : FrIn x.val f := ⟨h.lies.ext x, h.le, h.max⟩

/-- All values that are held: in which object, or of which object's frame. -/
def heldC (p : Ce × Nat) : List (Int × Vl) := if p.1.dead then [] else p.1.fields.map fun v => ((p.2 : Int) + 1, v)
def heldX (x : Fr) : List (Int × Vl) := x.vars.map fun v => (x.this, v)
def heldL (l : List Ce) : List (Int × Vl) := l.zipIdx.flatMap heldC
def heldF (f : List Fr) : List (Int × Vl) := f.flatMap heldX
def held (l : List Ce) (f : List Fr) : List (Int × Vl) := heldL l ++ heldF f
def preL (l : List Ce) (k : Nat) : List (Int × Vl) := (l.zipIdx.take k).flatMap heldC
def preF (f : List Fr) (k : Nat) : List (Int × Vl) := (f.take k).flatMap heldX
theorem preL_succ {l : List Ce} {k : Nat} (h : k < l.length) : preL l (k + 1) = preL l k ++ heldC (l[k], k) := by
  unfold preL
  rw [List.take_succ_eq_append_getElem (by simpa using h), List.flatMap_append]; simp
theorem preL_all (l : List Ce) : preL l l.length = heldL l := by
  unfold preL heldL; rw [List.take_of_length_le (by simp)]
theorem preF_succ {f : List Fr} {k : Nat} (h : k < f.length) : preF f (k + 1) = preF f k ++ heldX f[k] := by
  unfold preF
  rw [List.take_succ_eq_append_getElem h, List.flatMap_append]; simp
theorem preF_all (f : List Fr) : preF f f.length = heldF f := by
  unfold preF heldF; rw [List.take_length]
theorem preL_le {l : List Ce} {f : List Fr} {k : Nat} : (preL l k) <+: held l f := by
  refine ⟨(l.zipIdx.drop k).flatMap heldC ++ heldF f, ?_⟩
  unfold preL held heldL
  rw [← List.append_assoc, ← List.flatMap_append, List.take_append_drop]
theorem preF_le {l : List Ce} {f : List Fr} {k : Nat} : (heldL l ++ preF f k) <+: held l f := by
  refine ⟨(f.drop k).flatMap heldX, ?_⟩
  unfold preF held heldF
  rw [List.append_assoc, ← List.flatMap_append, List.take_append_drop]

/-- What a caller keeps that turns, of all blocks of cells, block b alone. -/
structure KeepsBut (b : Nat) (A B : World) : Prop where
  size : A.heap.size ≤ B.heap.size
  os : B.os = A.os
  tape : B.tape = A.tape
  output : B.output = A.output
  same : ∀ k o, k ≠ b → A.heap[k]? = some o → o.isCells = true → B.heap[k]? = some o
theorem KeepsBut.refl (b : Nat) (A : World) : KeepsBut b A A := ⟨Nat.le_refl _, rfl, rfl, rfl, fun _ _ _ h _ => h⟩
theorem KeepsBut.trans {b : Nat} {A B C : World} (h : KeepsBut b A B) (k : KeepsBut b B C) : KeepsBut b A C :=
  ⟨Nat.le_trans h.size k.size, k.os.trans h.os, k.tape.trans h.tape, k.output.trans h.output, fun i o hi ho hc => k.same i o hi (h.same i o hi ho hc) hc⟩
theorem KeepsBut.alloc (b : Nat) (A : World) (o : Obj) : KeepsBut b A (A.alloc o) :=
  ⟨by simp, rfl, rfl, rfl, fun k o' _ hk _ => (Below.heap_alloc A o k (Array.getElem?_eq_some_iff.1 hk).1).trans hk⟩
theorem KeepsBut.putObj {b : Nat} (W : World) (l : Nat) (o o' : Obj) (h : W.heap[l]? = some o) (hc : o.isCells = false) : KeepsBut b W (W.putObj l o') :=
  ⟨(grownBy_putObj' W l o').size, rfl, rfl, rfl, fun k o'' _ hk hc' => (World.putObj_heap_other (fun e => by subst e; rw [h] at hk; cases hk; rw [hc] at hc'; cases hc')).trans hk⟩
theorem KeepsBut.setCell (b j : Nat) (W : World) (v : Value) : KeepsBut b W (W.setCell ⟨b, j, none⟩ v) :=
  ⟨(KeepsOthers.setCell W ⟨b, j, none⟩ v).size, rfl, rfl, rfl, fun k o hk ho _ => (Below.heap_setCell W ⟨b, j, none⟩ v k hk).trans ho⟩
theorem KeepsBut.below {b n : Nat} {A B : World} (h : Below A.heap.size A B) : KeepsBut b A B :=
  ⟨h.size, h.os, h.tape, h.output, fun k o _ ho _ => (h.block k (Array.getElem?_eq_some_iff.1 ho).1).trans ho⟩
theorem KeepsBut.cell {b : Nat} {A B : World} (h : KeepsBut b A B) {a : Addr} {v : Value} (ha : A.cell? a = some v) (hb : a.block ≠ b) : B.cell? a = some v := by
  obtain ⟨o, ho, hc⟩ := cells_of_cell ha
  rw [← ha]
  exact World.cell?_of_block ((h.same _ o hb ho hc).trans ho.symm)
theorem Lies.keeps {α : Type} {enc : α → List Value} {w w' : World} {size b : Nat} {A : Option Addr} {l : List α} (h : Lies w size enc A l) (hk : KeepsBut b w w') (hb : w.heap.size ≤ b) : Lies w' size enc A l := fun i hi => by
  obtain ⟨b', off, hA, hb', hc⟩ := h i hi
  exact ⟨b', off, hA, Nat.lt_of_lt_of_le hb' hk.size, fun j v hv => hk.cell (hc j v hv) (by show b' ≠ b; omega)⟩
end Go.Proofs.Grow
namespace Go.Proofs.Ytglgoegabihngaa
open Go.RowKit Go.Proofs.Grow

attribute [local go_sem] Oper.semAt_some

def encH (x : Int × Vl) : Array Value := #[.int .i64 x.1, .agg #[.bool x.2.ref, .int .i64 x.2.n]]

theorem heldSeq_any (w : World) (A B : Option Addr) (n c m d : Nat) :
    Calls Try.prog 34 #[.slice A n c, .slice B m d] w fun e w' => e = .returned (.func (.func 37) #[] #[.pointer (some ⟨w.heap.size, 0, none⟩), .pointer (some ⟨w.heap.size + 1, 0, none⟩)]) ∧ w' = (w.alloc (.cells #[.slice A n c] 22)).alloc (.cells #[.slice B m d] 39) := by
  go_enter Try.func34, Try.ntmps34
  go_wp2
  go_ret
  exact ⟨rfl, rfl⟩

set_option maxHeartbeats 4000000 in
set_option maxRecDepth 100000 in
theorem held1_seq (n : Nat) (hn : 1 ≤ n) (w0 w : World) (Bl Bf bn : Nat) (A B : Option Addr) (c d : Nat) (l : List Ce) (f : List Fr) (hl : l.length ≤ 1000000000) (hf : f.length ≤ 1000000000)
    (hlf : ∀ c ∈ l, c.fields.length ≤ 1000000000) (hff : ∀ x ∈ f, x.vars.length ≤ 1000000000) (hs : Lies w0 7 Ce.cells A l) (hsf : Lies w0 6 Fr.cells B f) (hin : ∀ c ∈ l, CeIn w0 c) (hinf : ∀ x ∈ f, FrIn w0 x) (hb0 : KeepsBut bn w0 w) (hbn : w0.heap.size ≤ bn)
    (hne : Bl ≠ bn) (hne2 : Bf ≠ bn) (cl : w.cell? ⟨Bl, 0, none⟩ = some (.slice A l.length c)) (cf : w.cell? ⟨Bf, 0, none⟩ = some (.slice B f.length d)) (hbnl : bn < w.heap.size) :
    SeqStopsK Fence.wide n Try.prog 37 #[.pointer (some ⟨Bl, 0, none⟩), .pointer (some ⟨Bf, 0, none⟩)] encH (KeepsBut bn) (fun xs => xs = held l f) (fun pre => pre <+: held l f) (held l f).length w := by
  intro ln J Jx W hW hJ hJx hY h0
  have HS := hide hs
  have HSF := hide hsf
  have HIN := hide (And.intro hin hinf)
  have HLF := hide (And.intro hlf hff)
  have HY := hide hY
  have HJA : Hid (∀ pre X o, J pre X → J pre (X.alloc o)) := fun pre X o h => hJ pre X _ none h (World.grownBy_alloc X o none) (fun r e => by cases e)
  have hcl : W.cell? ⟨Bl, 0, none⟩ = some (.slice A l.length c) := (hW.cell (p := ⟨Bl, 0, none⟩) (World.block_lt_of_cell? _ _ cl)).trans cl
  have hcf : W.cell? ⟨Bf, 0, none⟩ = some (.slice B f.length d) := (hW.cell (p := ⟨Bf, 0, none⟩) (World.block_lt_of_cell? _ _ cf)).trans cf
  have HB := hide (hb0.trans (KeepsBut.below (n := 0) hW))
  have HCF := hide hcf
  have HNE := hide (And.intro hne hne2)
  have hbnW : bn < W.heap.size := Nat.lt_of_lt_of_le hbnl hW.size
  clear hs hsf hin hinf hlf hff hY hJ hJx cl cf hb0 hne hne2 hcf
  refine callsIn_of_wp Try.func37 rfl trivial ?_ rfl
  simp only [Try.ntmps37, List.size_toArray, List.length_cons, List.length_nil, Nat.reduceAdd, Nat.reduceSub, Array.replicate_succ, Array.replicate_zero, List.push_toArray, List.append_toArray, List.nil_append, List.cons_append]
  gi_wp2
  gi_loopw [14] (fun s14 wr => ∃ k : Nat, k ≤ l.length ∧ s14 = .int .i64 k ∧ Hid (KeepsBut bn W wr) ∧ J (preL l k) wr) (fun s14 _ => l.length - (intOf s14).toNat)
  case atStart => exact ⟨0, Nat.zero_le _, rfl, KeepsBut.refl _ _, h0⟩
  case round =>
    obtain ⟨k, hk, rfl, gK, gJ⟩ := hrel
    by_cases hlt : k < l.length
    · have hlt' : (k : Int) < (l.length : Int) := by omega
      have hKw := HB.out.trans gK.out
      obtain ⟨b, off, rfl, hb, hcell⟩ := (HS.out.keeps hKw hbn) k hlt
      have hfe := HLF.out.1 _ (List.getElem_mem hlt)
      have hie := HIN.out.1 _ (List.getElem_mem hlt)
      have HP := hide (preL_succ hlt)
      obtain ⟨e, he⟩ : ∃ e, e = l[k] := ⟨_, rfl⟩
      rw [← he] at hcell hfe hie HP
      have a0 : wr.cell? ⟨b, off + k * 7, none⟩ = some (.string e.cls) := hcell 0 _ rfl
      have a1 : wr.cell? ⟨b, off + k * 7 + 1, none⟩ = some (.int .i64 e.o0) := hcell 1 _ rfl
      have a2 : wr.cell? ⟨b, off + k * 7 + 2, none⟩ = some (.int .i64 e.o1) := hcell 2 _ rfl
      have a3 : wr.cell? ⟨b, off + k * 7 + 3, none⟩ = some (.int .i64 e.o2) := hcell 3 _ rfl
      have a4 : wr.cell? ⟨b, off + k * 7 + 4, none⟩ = some (.int .i64 e.o3) := hcell 4 _ rfl
      have a5 : wr.cell? ⟨b, off + k * 7 + 5, none⟩ = some (.slice e.fA e.fields.length e.fc) := hcell 5 _ rfl
      have a6 : wr.cell? ⟨b, off + k * 7 + 6, none⟩ = some (.bool e.dead) := hcell 6 _ rfl
      have HK := hide hlt
      have HIE := hide hie
      clear hcell he hlt hie hKw
      have HJ1 := hide (HJA.out _ _ (.cells e.cells.toArray 47) gJ)
      cases hd : e.dead
      · rw [hd] at a6
        have HP2 : Hid (preL l (k + 1) = preL l k ++ e.fields.map fun v => ((k : Int) + 1, v)) := by show _ = _; rw [HP.out]; unfold heldC; rw [if_neg (by rw [hd]; simp)]
        have HJ2 : Hid (J (preL l k) (wr.alloc (.cells #[.string e.cls, .int .i64 e.o0, .int .i64 e.o1, .int .i64 e.o2, .int .i64 e.o3, .slice e.fA e.fields.length e.fc, .bool false] 47))) := HJA.out _ _ _ gJ
        clear hd HJ1 HP
        gi_wp2
        gi_loopw [24] (fun s24 wr2 => ∃ j : Nat, j ≤ e.fields.length ∧ s24 = .int .i64 j ∧ Hid (KeepsBut bn W wr2) ∧ J (preL l k ++ (e.fields.take j).map fun v => ((k : Int) + 1, v)) wr2) (fun s24 _ => e.fields.length - (intOf s24).toNat)
        case atStart => exact ⟨0, Nat.zero_le _, rfl, gK.out.trans (KeepsBut.alloc _ _ _), by simpa using HJ2.out⟩
        case round =>
          obtain ⟨j, hj, rfl, gK2, gJ2⟩ := hrel
          clear a0 a1 a2 a3 a4 a5 a6 HJ2 gK gJ
          by_cases hlj : j < e.fields.length
          · have hlj' : (j : Int) < (e.fields.length : Int) := by omega
            obtain ⟨b2, off2, hfA, hb2, hcell2⟩ := (HIE.out.lies.keeps (HB.out.trans gK2.out) hbn) j hlj
            have HT := hide (show (e.fields.take (j + 1)).map (fun v => ((k : Int) + 1, v)) = (e.fields.take j).map (fun v => ((k : Int) + 1, v)) ++ [((k : Int) + 1, e.fields[j])] by rw [List.take_succ_eq_append_getElem hlj, List.map_append]; rfl)
            obtain ⟨v, hv⟩ : ∃ v, v = e.fields[j] := ⟨_, rfl⟩
            rw [← hv] at hcell2 HT
            rw [hfA]
            have d0 : wr.cell? ⟨b2, off2 + j * 2, none⟩ = some (.bool v.ref) := hcell2 0 _ rfl
            have d1 : wr.cell? ⟨b2, off2 + j * 2 + 1, none⟩ = some (.int .i64 v.n) := hcell2 1 _ rfl
            have hlen : (preL l k ++ (e.fields.take j).map fun v => ((k : Int) + 1, v)).length < (held l f).length := by
              have h1 : preL l (k + 1) <+: held l f := preL_le
              have h2 := h1.length_le
              rw [HP2.out, List.length_append, List.length_map] at h2
              rw [List.length_append, List.length_map, List.length_take]
              omega
            obtain ⟨fn, tmps, assign, body, hy, hR⟩ := HY.out _ ((k : Int) + 1, v) (wr.alloc (.cells #[.bool v.ref, .int .i64 v.n] 53)) (HJA.out _ _ _ gJ2) hlen
            dsimp only [encH] at hy
            have HKJ := hide hlj
            have HG := hide gJ2
            clear hcell2 hv hlj hlen gJ2
            gi_wp2
            refine hR.mono ?_
            rintro e3 W3 (⟨rfl, hJ3, hk3⟩ | ⟨rfl, hJx3⟩)
            · have HJ3 : Hid (J (preL l k ++ (e.fields.take (j + 1)).map fun v => ((k : Int) + 1, v)) W3) := by show J _ _; rw [HT.out, ← List.append_assoc]; exact hJ3
              have HK3 := hide ((gK2.out.trans (KeepsBut.alloc _ _ _)).trans hk3)
              clear hJ3 hk3
              gi_wp2
              go_roundw
              case rel => exact ⟨j + 1, HKJ.out, by go_num, HK3.out, HJ3.out⟩
              case measure => have := HKJ.out; simp [intOf]; omega
            · have HX3 : Hid (preL l k ++ (e.fields.take j).map (fun v => ((k : Int) + 1, v)) ++ [((k : Int) + 1, v)] <+: held l f) := by
                show _ <+: _
                rw [List.append_assoc, ← HT.out]
                refine List.IsPrefix.trans ?_ (preL_le (k := k + 1))
                rw [HP2.out]
                exact ⟨(e.fields.drop (j + 1)).map fun v => ((k : Int) + 1, v), by rw [List.append_assoc, ← List.map_append, List.take_append_drop]⟩
              gi_wp2
              refine bodyPost_ret (results_none rfl _ _ _) rfl ?_
              exact ⟨⟨_, rfl⟩, .inr ⟨_, HX3.out, hJx3⟩⟩
          · have hlj' : ¬ (j : Int) < (e.fields.length : Int) := by omega
            have HJ3 : Hid (J (preL l (k + 1)) wr) := by
              show J _ _
              rw [HP2.out]
              rwa [List.take_of_length_le (by omega)] at gJ2
            clear hlj gJ2
            gi_wp2
            go_roundw
            case rel => exact ⟨k + 1, HK.out, by go_num, gK2.out, HJ3.out⟩
            case measure => have := HK.out; simp [intOf]; omega
      · rw [hd] at a6
        have HP2 : Hid (preL l (k + 1) = preL l k) := by show _ = _; rw [HP.out]; unfold heldC; rw [if_pos hd, List.append_nil]
        have HJ2 : Hid (J (preL l k) (wr.alloc (.cells #[.string e.cls, .int .i64 e.o0, .int .i64 e.o1, .int .i64 e.o2, .int .i64 e.o3, .slice e.fA e.fields.length e.fc, .bool true] 47))) := HJA.out _ _ _ gJ
        clear hd HJ1 HP
        gi_wp2
        go_roundw
        case rel => exact ⟨k + 1, HK.out, by go_num, gK.out.trans (KeepsBut.alloc _ _ _), by rw [HP2.out]; exact HJ2.out⟩
        case measure => have := HK.out; simp [intOf]; omega
    · obtain rfl : k = l.length := by omega
      have hlt' : ¬ (l.length : Int) < (l.length : Int) := by omega
      have hcf : wr.cell? ⟨Bf, 0, none⟩ = some (.slice B f.length d) := gK.out.cell HCF.out HNE.out.2
      have HJ0 : Hid (J (heldL l ++ preF f 0) wr) := by show J _ _; rw [preL_all] at gJ; simpa [preF] using gJ
      clear hcl HS hlt gJ
      gi_wp2
      gi_loopw [38] (fun s38 wr => ∃ k : Nat, k ≤ f.length ∧ s38 = .int .i64 k ∧ Hid (KeepsBut bn W wr) ∧ J (heldL l ++ preF f k) wr) (fun s38 _ => f.length - (intOf s38).toNat)
      case atStart => exact ⟨0, Nat.zero_le _, rfl, gK, HJ0.out⟩
      case round =>
        obtain ⟨k, hk, rfl, gK, gJ⟩ := hrel
        by_cases hlt : k < f.length
        · have hlt' : (k : Int) < (f.length : Int) := by omega
          have hKw := HB.out.trans gK.out
          obtain ⟨b, off, rfl, hb, hcell⟩ := (HSF.out.keeps hKw hbn) k hlt
          have hfe := HLF.out.2 _ (List.getElem_mem hlt)
          have hie := HIN.out.2 _ (List.getElem_mem hlt)
          have HP := hide (preF_succ hlt)
          obtain ⟨e, he⟩ : ∃ e, e = f[k] := ⟨_, rfl⟩
          rw [← he] at hcell hfe hie HP
          have a0 : wr.cell? ⟨b, off + k * 6, none⟩ = some (.int .i64 e.this) := hcell 0 _ rfl
          have a1 : wr.cell? ⟨b, off + k * 6 + 1, none⟩ = some (.string e.cls) := hcell 1 _ rfl
          have a2 : wr.cell? ⟨b, off + k * 6 + 2, none⟩ = some (.string e.meth) := hcell 2 _ rfl
          have a3 : wr.cell? ⟨b, off + k * 6 + 3, none⟩ = some (.slice e.vA e.vars.length e.vc) := hcell 3 _ rfl
          have a4 : wr.cell? ⟨b, off + k * 6 + 4, none⟩ = some (.int .i64 e.pc) := hcell 4 _ rfl
          have a5 : wr.cell? ⟨b, off + k * 6 + 5, none⟩ = some (.int .i64 e.into) := hcell 5 _ rfl
          have HK := hide hlt
          have HIE := hide hie
          obtain ⟨gb, hgb⟩ : ∃ gb, gb = wr.heap.size := ⟨_, rfl⟩
          have hgn : gb ≠ bn := by have := gK.out.size; omega
          have g0 : (wr.alloc (.cells #[.int .i64 e.this, .string e.cls, .string e.meth, .slice e.vA e.vars.length e.vc, .int .i64 e.pc, .int .i64 e.into] 42)).cell? ⟨gb, 0, none⟩ = some (.int .i64 e.this) := by rw [hgb, World.cell?_alloc_at _ _ _ _ rfl]; rfl
          have HJ2 : Hid (J (heldL l ++ preF f k) (wr.alloc (.cells #[.int .i64 e.this, .string e.cls, .string e.meth, .slice e.vA e.vars.length e.vc, .int .i64 e.pc, .int .i64 e.into] 42))) := HJA.out _ _ _ gJ
          have HP2 : Hid (heldL l ++ preF f (k + 1) = heldL l ++ preF f k ++ e.vars.map fun v => (e.this, v)) := by show _ = _; rw [HP.out, List.append_assoc]; rfl
          have HG0 := hide g0
          have HGB := hide (And.intro hgb hgn)
          clear hcell he hlt hie hKw HP g0 hgn hgb
          gi_wp2
          rw [← HGB.out.1]
          gi_loopw [45] (fun s45 wr => ∃ j : Nat, j ≤ e.vars.length ∧ s45 = .int .i64 j ∧ Hid (KeepsBut bn W wr) ∧ wr.cell? ⟨gb, 0, none⟩ = some (.int .i64 e.this) ∧ J (heldL l ++ preF f k ++ (e.vars.take j).map fun v => (e.this, v)) wr) (fun s45 _ => e.vars.length - (intOf s45).toNat)
          case atStart => exact ⟨0, Nat.zero_le _, rfl, gK.out.trans (KeepsBut.alloc _ _ _), HG0.out, by simpa using HJ2.out⟩
          case round =>
            obtain ⟨j, hj, rfl, gK2, g0, gJ2⟩ := hrel
            clear a0 a1 a2 a3 a4 a5 HJ2 gK gJ HG0
            by_cases hlj : j < e.vars.length
            · have hlj' : (j : Int) < (e.vars.length : Int) := by omega
              obtain ⟨b2, off2, hfA, hb2, hcell2⟩ := (HIE.out.lies.keeps (HB.out.trans gK2.out) hbn) j hlj
              have HT := hide (show (e.vars.take (j + 1)).map (fun v => (e.this, v)) = (e.vars.take j).map (fun v => (e.this, v)) ++ [(e.this, e.vars[j])] by rw [List.take_succ_eq_append_getElem hlj, List.map_append]; rfl)
              obtain ⟨v, hv⟩ : ∃ v, v = e.vars[j] := ⟨_, rfl⟩
              rw [← hv] at hcell2 HT
              rw [hfA]
              have d0 : wr.cell? ⟨b2, off2 + j * 2, none⟩ = some (.bool v.ref) := hcell2 0 _ rfl
              have d1 : wr.cell? ⟨b2, off2 + j * 2 + 1, none⟩ = some (.int .i64 v.n) := hcell2 1 _ rfl
              have hgl : gb < wr.heap.size := World.block_lt_of_cell? _ _ g0
              have hlen : (heldL l ++ preF f k ++ (e.vars.take j).map fun v => (e.this, v)).length < (held l f).length := by
                have h1 : heldL l ++ preF f (k + 1) <+: held l f := preF_le
                have h2 := h1.length_le
                rw [HP2.out, List.length_append, List.length_map] at h2
                rw [List.length_append, List.length_map, List.length_take]
                omega
              obtain ⟨fn, tmps, assign, body, hy, hR⟩ := HY.out _ (e.this, v) (wr.alloc (.cells #[.bool v.ref, .int .i64 v.n] 53)) (HJA.out _ _ _ gJ2) hlen
              dsimp only [encH] at hy
              have HKJ := hide hlj
              have HG := hide gJ2
              have HGW : Hid ((wr.alloc (.cells #[.bool v.ref, .int .i64 v.n] 53)).cell? ⟨gb, 0, none⟩ = some (.int .i64 e.this)) := ((KeepsBut.alloc bn wr _).cell g0 HGB.out.2)
              clear hcell2 hv hlj hlen gJ2
              gi_wp2
              refine hR.mono ?_
              rintro e3 W3 (⟨rfl, hJ3, hk3⟩ | ⟨rfl, hJx3⟩)
              · have HJ3 : Hid (J (heldL l ++ preF f k ++ (e.vars.take (j + 1)).map fun v => (e.this, v)) W3) := by show J _ _; rw [HT.out, ← List.append_assoc]; exact hJ3
                have HK3 := hide ((gK2.out.trans (KeepsBut.alloc _ _ _)).trans hk3)
                have HG3 := hide (hk3.cell HGW.out HGB.out.2)
                clear hJ3 hk3
                gi_wp2
                go_roundw
                case rel => exact ⟨j + 1, HKJ.out, by go_num, HK3.out, HG3.out, HJ3.out⟩
                case measure => have := HKJ.out; simp [intOf]; omega
              · have HX3 : Hid (heldL l ++ preF f k ++ (e.vars.take j).map (fun v => (e.this, v)) ++ [(e.this, v)] <+: held l f) := by
                  show _ <+: _
                  rw [List.append_assoc, ← HT.out]
                  refine List.IsPrefix.trans ?_ (preF_le (k := k + 1))
                  rw [HP2.out]
                  exact ⟨(e.vars.drop (j + 1)).map fun v => (e.this, v), by rw [List.append_assoc, ← List.map_append, List.take_append_drop]⟩
                gi_wp2
                refine bodyPost_ret (results_none rfl _ _ _) rfl ?_
                exact ⟨⟨_, rfl⟩, .inr ⟨_, HX3.out, hJx3⟩⟩
            · have hlj' : ¬ (j : Int) < (e.vars.length : Int) := by omega
              have HJ3 : Hid (J (heldL l ++ preF f (k + 1)) wr) := by
                show J _ _
                rw [HP2.out]
                rwa [List.take_of_length_le (by omega)] at gJ2
              clear hlj gJ2
              gi_wp2
              go_roundw
              case rel => exact ⟨k + 1, HK.out, by go_num, gK2.out, HJ3.out⟩
              case measure => have := HK.out; simp [intOf]; omega
        · obtain rfl : k = f.length := by omega
          have hlt' : ¬ (f.length : Int) < (f.length : Int) := by omega
          rw [preF_all] at gJ
          have HJ3 := hide gJ
          clear hlt gJ
          gi_wp2
          go_end0
          exact ⟨⟨_, rfl⟩, .inl (by first | exact HJ3.out | exact ⟨_, rfl, HJ3.out⟩)⟩
end Go.Proofs.Ytglgoegabihngaa
