/- The walks of demesneref37.into, Outside. -/
import Derived.Test.YtglgoegabihngaaOutside
import Derived.Test.YtglgoegabihngaaRef36
import Derived.Test.YtglgoegabihngaaClu
set_option linter.unusedSimpArgs false
set_option linter.unusedVariables false
namespace Go.Proofs.Grow
open Go.RowKit
def isInto (l : List Ce) (k : Int) (x : Vl) : Bool := x.ref && x.n != 0 && inB l x.n k
theorem into_eq (l : List Ce) (v : List Vl) (k : Int) : into l v k = (v.filter (isInto l k)).length := rfl
theorem into_take {l : List Ce} {v : List Vl} {k : Int} {j : Nat} (h : j < v.length) : into l (v.take (j + 1)) k = into l (v.take j) k + if isInto l k v[j] then 1 else 0 := by
  rw [into_eq, into_eq, List.take_succ_eq_append_getElem h, List.filter_append, List.length_append, List.filter_cons]
  split <;> rfl
theorem into_le (l : List Ce) (v : List Vl) (k : Int) : into l v k ≤ v.length := List.length_filter_le _ _
theorem cntOut_append (l : List Ce) (k : Int) (a b : List (Int × Vl)) : cntOut l k (a ++ b) = cntOut l k a + cntOut l k b := by
  unfold cntOut; rw [List.filter_append, List.length_append]
theorem cntOut_map (l : List Ce) (k b : Int) : ∀ v : List Vl, cntOut l k (v.map fun x => (b, x)) = if inB l b k then 0 else into l v k
  | [] => by simp [cntOut, into]
  | x :: v => by
    have ih := cntOut_map l k b v
    rw [List.map_cons, show ((b, x) :: v.map fun x => (b, x)) = [(b, x)] ++ v.map (fun x => (b, x)) from rfl, cntOut_append, ih, into_eq, into_eq, List.filter_cons]
    unfold cntOut isOut isInto
    by_cases h1 : inB l b k = true
    · simp [h1]
    · rw [Bool.not_eq_true] at h1
      simp only [h1, List.filter_cons]
      cases x.ref && x.n != 0 && inB l x.n k <;> simp <;> omega
theorem flatMap_le {α β : Type} {g : α → List β} {m : Nat} : ∀ {L : List α}, (∀ x ∈ L, (g x).length ≤ m) → (L.flatMap g).length ≤ L.length * m
  | [], _ => by simp
  | a :: L, h => by
    rw [List.flatMap_cons, List.length_append, List.length_cons, Nat.add_mul]
    have := h a (by simp)
    have := flatMap_le (L := L) (fun x hx => h x (by simp [hx]))
    omega
theorem held_len {l : List Ce} {f : List Fr} (h1 : l.length ≤ 200) (h2 : ∀ c ∈ l, c.fields.length ≤ 60) (h3 : f.length ≤ 50) (h4 : ∀ x ∈ f, x.vars.length ≤ 50) : (held l f).length ≤ 1000000 := by
  unfold held heldL heldF
  rw [List.length_append]
  have a := flatMap_le (g := heldC) (m := 60) (L := l.zipIdx) (fun p hp => by
    obtain ⟨c, i⟩ := p
    have hp : l[i]? = some c := List.mem_zipIdx_iff_getElem?.1 hp
    have := h2 c (List.mem_of_getElem? hp)
    unfold heldC
    split
    · simp
    · simpa using this)
  have b := flatMap_le (g := heldX) (m := 50) (L := f) (fun x hx => by unfold heldX; simpa using h4 x hx)
  have c : l.zipIdx.length * 60 ≤ 200 * 60 := Nat.mul_le_mul_right _ (by simpa using h1)
  have d : f.length * 50 ≤ 50 * 50 := Nat.mul_le_mul_right _ h3
  omega
end Go.Proofs.Grow
namespace Go.Proofs.Ytglgoegabihngaa
open Go.RowKit Go.Proofs.Grow

set_option maxHeartbeats 2000000 in
set_option maxRecDepth 100000 in
theorem into_any (w : World) (A B : Option Addr) (c d : Nat) (l : List Ce) (v : List Vl) (k : Int) (hl : l.length ≤ 1000000000) (hv : v.length ≤ 1000000000) (hs : Lies w 7 Ce.cells A l) (hsv : Lies w 2 Vl.cells B v) :
    Gives Try.prog 35 #[.slice A l.length c, .slice B v.length d, .int .i64 k] w (.int .i64 (into l v k)) := by
  refine Gives.mk ?_
  have HI := hide (fun (x : Ext w) (a : Int) => refInside_any x.val A c l a k (by omega) (hs.ext x))
  have HV := hide hsv
  clear hs hsv
  go_enter Try.func35, Try.ntmps35
  go_wp2_with fail
  go_loopw [7, 8] (fun s7 s8 wr => ∃ j : Nat, j ≤ v.length ∧ s8 = .int .i64 j ∧ s7 = .int .i64 (into l (v.take j) k) ∧ ∃ x : Ext w, wr = x.val) (fun _ s8 _ => v.length - (intOf s8).toNat)
  case atStart => exact ⟨0, Nat.zero_le _, rfl, rfl, Ext.here w, rfl⟩
  case round =>
    obtain ⟨j, hj, rfl, rfl, x, rfl⟩ := hrel
    by_cases hlt : j < v.length
    · have hlt' : (j : Int) < (v.length : Int) := by omega
      obtain ⟨b, off, rfl, hb, hcell⟩ := HV.out j hlt
      have HT := hide (into_take (l := l) (k := k) hlt)
      have hin := into_le l (v.take j) k
      rw [List.length_take] at hin
      obtain ⟨e, he⟩ : ∃ e, e = v[j] := ⟨_, rfl⟩
      rw [← he] at hcell HT
      have a0 : w.cell? ⟨b, off + j * 2, none⟩ = some (.bool e.ref) := hcell 0 _ rfl
      have a1 : w.cell? ⟨b, off + j * 2 + 1, none⟩ = some (.int .i64 e.n) := hcell 1 _ rfl
      have HJ := hide hlt
      obtain ⟨n, hn⟩ : ∃ n, n = into l (v.take j) k := ⟨_, rfl⟩
      rw [← hn] at HT ⊢
      have hnb : n ≤ 1000000000 := by omega
      obtain ⟨r, vn⟩ := e
      clear hcell he hlt hin hn
      dsimp only at a0 a1
      cases r
      · have HT2 : Hid (into l (v.take (j + 1)) k = n) := by show _ = _; rw [HT.out]; simp [isInto]
        go_wp2_with fail
        go_roundw
        case rel => exact ⟨j + 1, HJ.out, by go_num, by rw [HT2.out], x, rfl⟩
        case measure => have := HJ.out; simp [intOf]; omega
      · by_cases hvn : vn = 0
        · have HT2 : Hid (into l (v.take (j + 1)) k = n) := by show _ = _; rw [HT.out]; simp [isInto, hvn]
          subst hvn
          go_wp2_with fail
          go_roundw
          case rel => exact ⟨j + 1, HJ.out, by go_num, by rw [HT2.out], x, rfl⟩
          case measure => have := HJ.out; simp [intOf]; omega
        · have hvn' : (vn != 0) = true := bne_iff_ne.2 hvn
          have HQ := hide (HI.out x vn)
          obtain ⟨q, hq⟩ : ∃ q, inB l vn k = q := ⟨_, rfl⟩
          rw [hq] at HQ
          have HT2 : Hid (into l (v.take (j + 1)) k = n + if q then 1 else 0) := by show _ = _; rw [HT.out]; unfold isInto; dsimp only; rw [hvn', hq]; cases q <;> rfl
          clear hvn hq HT
          cases q
          · go_wp2_with (go_at_call 13; refine (HQ.out.over x).mono ?_; rintro _ _ ⟨y, hy, rfl, rfl⟩)
            go_roundw
            case rel => exact ⟨j + 1, HJ.out, by go_num, by rw [HT2.out]; rfl, y, rfl⟩
            case measure => have := HJ.out; simp [intOf]; omega
          · go_wp2_with (go_at_call 13; refine (HQ.out.over x).mono ?_; rintro _ _ ⟨y, hy, rfl, rfl⟩)
            go_roundw
            case rel => exact ⟨j + 1, HJ.out, by go_num, by rw [HT2.out]; simp, y, rfl⟩
            case measure => have := HJ.out; simp [intOf]; omega
    · have HE : Hid (into l (v.take j) k = into l v k) := by show _ = _; rw [List.take_of_length_le (by omega)]
      have hlt' : ¬ (j : Int) < (v.length : Int) := by omega
      rw [HE.out]
      clear HE
      go_wp2_with fail
      go_ret
      exact ⟨rfl, x.below⟩

set_option maxHeartbeats 4000000 in
set_option maxRecDepth 100000 in
theorem refOutside_any (w : World) (A B : Option Addr) (c d : Nat) (l : List Ce) (f : List Fr) (k : Int) (hl : l.length ≤ 1000000000) (hf : f.length ≤ 1000000000)
    (hlf : ∀ c ∈ l, c.fields.length ≤ 1000000000) (hff : ∀ x ∈ f, x.vars.length ≤ 1000000000) (hN : (held l f).length ≤ 1000000000) (hs : Lies w 7 Ce.cells A l) (hsf : Lies w 6 Fr.cells B f) (hin : ∀ c ∈ l, CeIn w c) (hinf : ∀ x ∈ f, FrIn w x) :
    Gives Try.prog 28 #[.slice A l.length c, .slice B f.length d, .int .i64 k] w (.int .i64 (cntOut l k (held l f))) := by
  refine Gives.mk ?_
  have HS := hide hs
  have HSF := hide hsf
  have HQ := hide (fun (x : Ext w) (a : Int) => refInside_any x.val A c l a k (by omega) (hs.ext x))
  have HL := hide (fun (e : Ce) (he : e ∈ l) (x : Ext w) => into_any x.val A e.fA c e.fc l e.fields k hl (hlf e he) (hs.ext x) ((hin e he).lies.ext x))
  have HF := hide (fun (e : Fr) (he : e ∈ f) (x : Ext w) => into_any x.val A e.vA c e.vc l e.vars k hl (hff e he) (hs.ext x) ((hinf e he).lies.ext x))
  have HB : Hid (∀ pre, pre <+: held l f → cntOut l k pre ≤ 1000000000) := fun pre h => Nat.le_trans (cntOut_le l k pre) (Nat.le_trans h.length_le hN)
  clear hlf hff hN hs hsf hin hinf
  go_enter Try.func28, Try.ntmps28
  go_wp2_with fail
  go_loopw [7, 8] (fun s7 s8 wr => ∃ i : Nat, i ≤ l.length ∧ s8 = .int .i64 i ∧ s7 = .int .i64 (cntOut l k (preL l i)) ∧ ∃ x : Ext w, wr = x.val) (fun _ s8 _ => l.length - (intOf s8).toNat)
  case atStart => exact ⟨0, Nat.zero_le _, rfl, by simp [preL, cntOut], Ext.here w, rfl⟩
  case round =>
    obtain ⟨i, hi, rfl, rfl, x, rfl⟩ := hrel
    by_cases hlt : i < l.length
    · have hlt' : (i : Int) < (l.length : Int) := by omega
      obtain ⟨b, off, rfl, hb, hcell⟩ := HS.out i hlt
      have HP := hide (preL_succ hlt)
      have HLe := hide (HL.out _ (List.getElem_mem hlt))
      have hb1 := HB.out _ (preL_le (f := f) (k := i + 1))
      obtain ⟨e, he⟩ : ∃ e, e = l[i] := ⟨_, rfl⟩
      rw [← he] at hcell HP HLe
      have a5 : w.cell? ⟨b, off + i * 7 + 5, none⟩ = some (.slice e.fA e.fields.length e.fc) := hcell 5 _ rfl
      have a6 : w.cell? ⟨b, off + i * 7 + 6, none⟩ = some (.bool e.dead) := hcell 6 _ rfl
      have HI := hide hlt
      rw [HP.out, cntOut_append] at hb1
      have hC : cntOut l k (preL l (i + 1)) = cntOut l k (preL l i) + cntOut l k (heldC (e, i)) := by rw [HP.out, cntOut_append]
      obtain ⟨n, hn⟩ : ∃ n, n = cntOut l k (preL l i) := ⟨_, rfl⟩
      rw [← hn] at hC hb1 ⊢
      have HC := hide hC
      clear hcell he hlt hn hC
      cases hd : e.dead
      · have HM : Hid (cntOut l k (heldC (e, i)) = if inB l ((i : Int) + 1) k then 0 else into l e.fields k) := by
          show _ = _
          unfold heldC
          rw [if_neg (by rw [hd]; simp), cntOut_map]
        rw [hd] at a6
        have HQ1 := hide (HQ.out x ((i : Int) + 1))
        obtain ⟨q, hq⟩ : ∃ q, inB l ((i : Int) + 1) k = q := ⟨_, rfl⟩
        rw [hq] at HQ1 HM
        clear hd hq
        cases q
        · have HM2 : Hid (cntOut l k (heldC (e, i)) = into l e.fields k) := HM.out
          rw [HM2.out] at hb1 HC
          obtain ⟨m, hm⟩ : ∃ m, m = into l e.fields k := ⟨_, rfl⟩
          rw [← hm] at hb1 HC HLe
          clear hm HM HM2
          go_wp2_with (first | (go_at_call 13; refine (HQ1.out.over x).mono ?_; rintro _ _ ⟨y, hy, rfl, rfl⟩) | (go_at_call 35; refine ((HLe.out y).over y).mono ?_; rintro _ _ ⟨z, hz, rfl, rfl⟩))
          go_roundw
          case rel => exact ⟨i + 1, HI.out, by go_num, by rw [HC.out]; go_num, z, rfl⟩
          case measure => have := HI.out; simp [intOf]; omega
        · have HC2 : Hid (cntOut l k (preL l (i + 1)) = n) := by show _ = _; rw [HC.out, HM.out]; rfl
          clear hb1 HM HC
          go_wp2_with (go_at_call 13; refine (HQ1.out.over x).mono ?_; rintro _ _ ⟨y, hy, rfl, rfl⟩)
          go_roundw
          case rel => exact ⟨i + 1, HI.out, by go_num, by rw [HC2.out], y, rfl⟩
          case measure => have := HI.out; simp [intOf]; omega
      · have HC2 : Hid (cntOut l k (preL l (i + 1)) = n) := by show _ = _; rw [HC.out]; unfold heldC; rw [if_pos hd]; rfl
        rw [hd] at a6
        clear hb1 HC hd
        go_wp2_with fail
        go_roundw
        case rel => exact ⟨i + 1, HI.out, by go_num, by rw [HC2.out], x, rfl⟩
        case measure => have := HI.out; simp [intOf]; omega
    · obtain rfl : i = l.length := by omega
      have hlt' : ¬ (l.length : Int) < (l.length : Int) := by omega
      have H0 : Hid (cntOut l k (preL l l.length) = cntOut l k (heldL l ++ preF f 0)) := by show _ = _; rw [preL_all]; simp [preF]
      rw [H0.out]
      clear hlt HL
      go_wp2_with fail
      go_loopw [7, 9] (fun s7 s9 wr => ∃ i : Nat, i ≤ f.length ∧ s9 = .int .i64 i ∧ s7 = .int .i64 (cntOut l k (heldL l ++ preF f i)) ∧ ∃ x : Ext w, wr = x.val) (fun _ s9 _ => f.length - (intOf s9).toNat)
      case atStart => exact ⟨0, Nat.zero_le _, rfl, rfl, x, rfl⟩
      case round =>
        obtain ⟨i, hi, rfl, rfl, x, rfl⟩ := hrel
        clear H0
        by_cases hlt : i < f.length
        · have hltf : (i : Int) < (f.length : Int) := by omega
          obtain ⟨b, off, rfl, hb, hcell⟩ := HSF.out i hlt
          have HP := hide (preF_succ hlt)
          have HFe := hide (HF.out _ (List.getElem_mem hlt))
          have hb1 := HB.out _ (preF_le (l := l) (k := i + 1))
          obtain ⟨e, he⟩ : ∃ e, e = f[i] := ⟨_, rfl⟩
          rw [← he] at hcell HP HFe
          have a0 : w.cell? ⟨b, off + i * 6, none⟩ = some (.int .i64 e.this) := hcell 0 _ rfl
          have a3 : w.cell? ⟨b, off + i * 6 + 3, none⟩ = some (.slice e.vA e.vars.length e.vc) := hcell 3 _ rfl
          have HI := hide hlt
          have hC : cntOut l k (heldL l ++ preF f (i + 1)) = cntOut l k (heldL l ++ preF f i) + if inB l e.this k then 0 else into l e.vars k := by rw [HP.out, ← List.append_assoc, cntOut_append]; unfold heldX; rw [cntOut_map]
          rw [hC] at hb1
          obtain ⟨n, hn⟩ : ∃ n, n = cntOut l k (heldL l ++ preF f i) := ⟨_, rfl⟩
          rw [← hn] at hC hb1 ⊢
          have HC := hide hC
          have HQ1 := hide (HQ.out x e.this)
          obtain ⟨q, hq⟩ : ∃ q, inB l e.this k = q := ⟨_, rfl⟩
          rw [hq] at HQ1 HC hb1
          clear hcell he hlt hn hC hq
          cases q
          · have HC2 : Hid (cntOut l k (heldL l ++ preF f (i + 1)) = n + into l e.vars k) := HC.out
            have hb2 : n + into l e.vars k ≤ 1000000000 := hb1
            obtain ⟨m, hm⟩ : ∃ m, m = into l e.vars k := ⟨_, rfl⟩
            rw [← hm] at hb2 HC2 HFe
            clear hm HC hb1
            go_wp2_with (first | (go_at_call 13; refine (HQ1.out.over x).mono ?_; rintro _ _ ⟨y, hy, rfl, rfl⟩) | (go_at_call 35; refine ((HFe.out y).over y).mono ?_; rintro _ _ ⟨z, hz, rfl, rfl⟩))
            go_roundw
            case rel => exact ⟨i + 1, HI.out, by go_num, by rw [HC2.out]; go_num, z, rfl⟩
            case measure => have := HI.out; simp [intOf]; omega
          · have HC2 : Hid (cntOut l k (heldL l ++ preF f (i + 1)) = n) := HC.out
            clear HC hb1
            go_wp2_with (go_at_call 13; refine (HQ1.out.over x).mono ?_; rintro _ _ ⟨y, hy, rfl, rfl⟩)
            go_roundw
            case rel => exact ⟨i + 1, HI.out, by go_num, by rw [HC2.out], y, rfl⟩
            case measure => have := HI.out; simp [intOf]; omega
        · obtain rfl : i = f.length := by omega
          have hltf : ¬ (f.length : Int) < (f.length : Int) := by omega
          have H1 : Hid (cntOut l k (heldL l ++ preF f f.length) = cntOut l k (held l f)) := by show _ = _; rw [preF_all]; rfl
          rw [H1.out]
          clear hlt H1
          go_wp2_with fail
          go_ret
          exact ⟨rfl, x.below⟩
end Go.Proofs.Ytglgoegabihngaa
