/- arena.own's range over the old method's statements: their places are noted. -/
import Derived.Test.YtmpdmelkbemabaaGreatRows
import Derived.Test.YtmpdmelkbemabaaGreatSlotP
import Derived.Test.YtmpdmelkbemabaaGreatOwnLib
import Derived.BigGuardPart
import Derived.Shelf.Abstract
import Derived.Test.YtmpdmelkbemabaaGreatOwn1
set_option linter.unusedSimpArgs false
set_option linter.unusedVariables false
namespace Go.Proofs.Grow
open Go.RowKit
/-- What is read of statements, their slices alone. -/
inductive RdI (W : World) : Option Addr → List St → Prop
  | mk {A : Option Addr} {l : List St} (len : l.length ≤ maxLen) (at_ : ∀ i (h : i < l.length), ∃ b off, A = some ⟨b, off, none⟩ ∧ b < W.heap.size ∧
      W.cell? ⟨b, off + i * 23 + 20, none⟩ = some (.slice l[i].bA l[i].body.length l[i].bc) ∧ W.cell? ⟨b, off + i * 23 + 21, none⟩ = some (.slice l[i].eA l[i].els.length l[i].ec))
      (body : ∀ s ∈ l, RdI W s.bA s.body) (els : ∀ s ∈ l, RdI W s.eA s.els) : RdI W A l
section
variable {W : World} {A : Option Addr} {l : List St}
theorem RdI.len (h : RdI W A l) : l.length ≤ maxLen := by cases h; assumption
theorem RdI.at_ (h : RdI W A l) (i : Nat) (hi : i < l.length) : ∃ b off, A = some ⟨b, off, none⟩ ∧ b < W.heap.size ∧
      W.cell? ⟨b, off + i * 23 + 20, none⟩ = some (.slice l[i].bA l[i].body.length l[i].bc) ∧ W.cell? ⟨b, off + i * 23 + 21, none⟩ = some (.slice l[i].eA l[i].els.length l[i].ec) := by cases h with | mk _ h _ _ => exact h i hi
theorem RdI.body (h : RdI W A l) {s : St} (hs : s ∈ l) : RdI W s.bA s.body := by cases h with | mk _ _ h _ => exact h s hs
theorem RdI.els (h : RdI W A l) {s : St} (hs : s ∈ l) : RdI W s.eA s.els := by cases h with | mk _ _ _ h => exact h s hs
end
theorem RdB.i {W : World} {A : Option Addr} {l : List St} (h : RdB W A l) : RdI W A l := by
  induction h with
  | mk len at_ _ _ ihb ihe => exact .mk len (fun i hi => by obtain ⟨b, off, hA, hb, _, h20, h21, _⟩ := at_ i hi; exact ⟨b, off, hA, hb, h20, h21⟩) ihb ihe
theorem St.atp20 (s : St) (p : Int) : (s.at p).cells[20]? = some (.slice s.bA s.body.length s.bc) := by
  obtain ⟨k, x, y, name, ty, ⟨ek, en, ename, eA', ec', kids⟩, aA, ac, args, bA, bc, body, eA, ec, els, pos⟩ := s
  rfl
theorem St.atp21 (s : St) (p : Int) : (s.at p).cells[21]? = some (.slice s.eA s.els.length s.ec) := by
  obtain ⟨k, x, y, name, ty, ⟨ek, en, ename, eA', ec', kids⟩, aA, ac, args, bA, bc, body, eA, ec, els, pos⟩ := s
  rfl
private theorem s_body {s : St} (h : StS s) : AdrOk s.bA s.body ∧ s.body.length ≤ s.bc ∧ s.bc ≤ maxLen ∧ ∀ t ∈ s.body, StS t := by
  cases h with | mk he ha hac ham hai hb hbc hbm hbi hl hlc hlm hli hs => exact ⟨hb, hbc, hbm, hbi⟩
private theorem s_els {s : St} (h : StS s) : AdrOk s.eA s.els ∧ s.els.length ≤ s.ec ∧ s.ec ≤ maxLen ∧ ∀ t ∈ s.els, StS t := by
  cases h with | mk he ha hac ham hai hb hbc hbm hbi hl hlc hlm hli hs => exact ⟨hl, hlc, hlm, hli⟩
/-- Rows whose places may be others: their slices can be read. -/
theorem RdI.of_mask {W : World} {D : Nat → Nat → Prop} {rs : List Rw} (hM : Mask altA rs D W) : ∀ (l : List St) (A : Option Addr), AdrOk A l → l.length ≤ maxLen → (∀ s ∈ l, StS s) → (∀ r ∈ rwSts A l, r ∈ rs) → RdI W A l
  | l, A, hA, hl, hS, hr => by
    have hsub : ∀ s ∈ l, ∀ r ∈ subSt s, r ∈ rs := fun s hs r h => hr r (List.mem_append_right _ (subSt_sub hs r h))
    refine .mk hl (fun i hi => ?_) (fun s hs => ?_) (fun s hs => ?_)
    · obtain ⟨b, off, rfl⟩ := hA (by omega)
      have h1 := hr _ (List.mem_append_left _ (rowsAt_get (b := b) (off := off) (size := 23) (l := l.map .st) i (by simpa using hi)))
      simp only [List.getElem_map] at h1
      exact ⟨b, off, rfl, hM.lt h1, hM.cell h1 20 _ (fun p => St.atp20 _ p), hM.cell h1 21 _ (fun p => St.atp21 _ p)⟩
    · have h1 := List.sizeOf_lt_of_mem hs
      have h2 := s.body_size
      have h3 := s_body (hS s hs)
      exact RdI.of_mask hM _ _ h3.1 (Nat.le_trans h3.2.1 h3.2.2.1) h3.2.2.2 fun r h => hsub s hs r (by rw [subSt_eq]; exact List.mem_append_right _ (List.mem_append_right _ (List.mem_append_left _ h)))
    · have h1 := List.sizeOf_lt_of_mem hs
      have h2 := s.els_size
      have h3 := s_els (hS s hs)
      exact RdI.of_mask hM _ _ h3.1 (Nat.le_trans h3.2.1 h3.2.2.1) h3.2.2.2 fun r h => hsub s hs r (by rw [subSt_eq]; exact List.mem_append_right _ (List.mem_append_right _ (List.mem_append_right _ h)))
termination_by l => SizeOf.sizeOf l
decreasing_by
  · omega
  · omega
end Go.Proofs.Grow
namespace Go.Proofs.YtmpdmelkbemabaaGreat
open Go.RowKit Go.Proofs.Grow
attribute [local go_sem] Oper.semAt_some

def InnerOkI (l : List St) : Prop := ∀ (A : Option Addr) (cap : Nat) (d : Int),
    Pushes Tryz.prog 45 (fun y => #[.slice A l.length cap, .int .i64 d, y]) Li.args (fun W => RdI W A l) isTrue isFalse (liAll l d (bkA A) (ofA A))

set_option maxHeartbeats 2000000 in
set_option maxRecDepth 100000 in
theorem innerI_step (l : List St) (ihb : ∀ s ∈ l, InnerOkI s.body) (ihe : ∀ s ∈ l, InnerOkI s.els) : InnerOkI l := by
  intro A cap d n ln J Jx pre O W hH h0
  have HH := hide hH
  have IHB := hide ihb
  have IHE := hide ihe
  have hl63 : l.length ≤ 9223372036854775807 := by have := (HH.out.read _ _ _ h0).len; unfold maxLen at this; omega
  have hj0 := hide h0
  clear hH ihb ihe h0
  refine callsIn_of_wp Tryz.func45 rfl trivial ?_ rfl
  simp only [Tryz.ntmps45, List.size_toArray, List.length_cons, List.length_nil, Nat.reduceAdd, Nat.reduceSub, Array.replicate_succ, Array.replicate_zero, List.push_toArray, List.append_toArray, List.nil_append, List.cons_append]
  gi_wp2
  gi_loopw [7, 10] (fun s7 s10 wr => ∃ (k : Nat) (O' : Nat → Prop), k ≤ l.length ∧ s10 = .int .i64 k ∧
    Hid (SubO O W.heap.size O' ∧ KeepsBut O W wr ∧ J (pre ++ liAll (l.take k) d (bkA A) (ofA A)) O' wr)) (fun _ s10 _ => l.length - (intOf s10).toNat)
  case atStart => exact ⟨0, O, Nat.zero_le _, rfl, SubO.refl _ _, KeepsBut.refl _ _, by simpa [liAll] using hj0.out⟩
  case round =>
    obtain ⟨k, O', hk, rfl, hF⟩ := hrel
    clear hj0
    by_cases hlt : k < l.length
    · obtain ⟨b, off, hA, hb, hc⟩ := (HH.out.read _ _ _ hF.out.2.2).at_ k hlt
      have hlt' : (k : Int) < (l.length : Int) := by omega
      have HT := liAll_take d (bkA A) (ofA A) l k hlt
      rw [liOne_eq] at HT
      have HP := hide (liAll_prefix d (bkA A) (ofA A) l (k + 1))
      have hmem := List.getElem_mem hlt
      have HRd : Hid (∀ s O X, J s O X → X.cell? ⟨b, off + k * 23 + 20, none⟩ = some (.slice l[k].bA l[k].body.length l[k].bc) ∧ X.cell? ⟨b, off + k * 23 + 21, none⟩ = some (.slice l[k].eA l[k].els.length l[k].ec)) := fun s O X h => by
        obtain ⟨b', off', hA', _, h20, h21⟩ := (HH.out.read _ _ _ h).at_ k hlt
        rw [hA] at hA'
        cases hA'
        exact ⟨h20, h21⟩
      obtain ⟨e, he⟩ : ∃ e, e = l[k] := ⟨_, rfl⟩
      rw [← he] at HT hmem HRd
      have IHb := hide (IHB.out e hmem)
      have IHe := hide (IHE.out e hmem)
      have HM := hide hmem
      have HT9 := hide HT
      have hlt9 := hide hlt
      subst hA
      clear hc he HT hmem hlt
      obtain ⟨fn, tmps, assign, body, hy, hR⟩ := HH.out.round (n - 1) _ ⟨d, b, off + k * 23, e⟩ O' wr hF.out.2.2 (by
        refine List.IsPrefix.trans ?_ HP.out
        rw [HT9.out]
        exact (List.prefix_append_right_inj _).2 (by simp [bkA, ofA]))
      dsimp only [Li.args] at hy
      have HX := hide (show liAll l d (bkA (some ⟨b, off, none⟩)) (ofA (some ⟨b, off, none⟩)) = liAll l d b off from rfl)
      have hJ9 := hF.out.2.2
      have HPx : Hid (liAll (l.take k) d b off ++ (⟨d, b, off + k * 23, e⟩ :: (liAll e.body (wrap64 (d + 1)) (bkA e.bA) (ofA e.bA) ++ liAll e.els (wrap64 (d + 1)) (bkA e.eA) (ofA e.eA))) <+: liAll l d b off) := by
        show _ <+: _
        have h := HP.out
        rw [HT9.out] at h
        exact h
      have HTk : Hid (liAll (l.take (k + 1)) d b off = liAll (l.take k) d b off ++ (⟨d, b, off + k * 23, e⟩ :: (liAll e.body (wrap64 (d + 1)) (bkA e.bA) (ofA e.bA) ++ liAll e.els (wrap64 (d + 1)) (bkA e.eA) (ofA e.eA)))) := HT9.out
      have HF1 := hide hF.out.1
      have HF2 := hide hF.out.2.1
      clear hF HP HT9 hJ9
      gi_wp2
      refine ⟨fun h => (by simp [Fence.wide] at h), ?_⟩
      refine hR.mono ?_
      clear hy hR
      rintro e3 W3 ⟨O3, hs3, hk3, ⟨he, hJ3⟩ | ⟨he, q, hq, hJ3⟩⟩
      · obtain rfl : e3 = .returned (.bool true) := he
        have c20 := (HRd.out _ _ _ hJ3).1
        have hw3 : W.heap.size ≤ W3.heap.size := Nat.le_trans HF2.out.size hk3.size
        have hB := IHb.out e.bA e.bc (wrap64 (d + 1)) (n - 1) ln J Jx _ O3 W3 (by
          refine HH.out.mono (ys := liAll e.body (wrap64 (d + 1)) (bkA e.bA) (ofA e.bA)) hw3 (fun X hX => hX.body HM.out) (liAll (l.take k) d b off ++ [⟨d, b, off + k * 23, e⟩]) ?_
          refine List.IsPrefix.trans ?_ HPx.out
          rw [List.append_assoc]
          refine (List.prefix_append_right_inj _).2 ?_
          rw [List.singleton_append, List.cons_prefix_cons]
          exact ⟨rfl, List.prefix_append _ _⟩) (by rw [← List.append_assoc]; exact hJ3)
        have HB := hide hB
        have HS3 := hide hs3
        have HK3 := hide hk3
        have HW3 := hide hw3
        clear hB hJ3 hs3 hk3 hw3
        gi_wp2
        refine ⟨trivial, fun h => (by simp [Fence.wide] at h), ?_⟩
        refine HB.out.mono ?_
        clear HB
        rintro e4 W4 ⟨O4, hs4, hk4, ⟨he, hJ4⟩ | ⟨he, q, hq, hJ4⟩⟩
        · obtain rfl : e4 = .returned (.bool true) := he
          have c21 := (HRd.out _ _ _ hJ4).2
          have hw4 : W.heap.size ≤ W4.heap.size := Nat.le_trans HW3.out hk4.size
          have hB := IHe.out e.eA e.ec (wrap64 (d + 1)) (n - 1) ln J Jx _ O4 W4 (by
            refine HH.out.mono (ys := liAll e.els (wrap64 (d + 1)) (bkA e.eA) (ofA e.eA)) hw4 (fun X hX => hX.els HM.out) (liAll (l.take k) d b off ++ (⟨d, b, off + k * 23, e⟩ :: liAll e.body (wrap64 (d + 1)) (bkA e.bA) (ofA e.bA))) ?_
            refine List.IsPrefix.trans ?_ HPx.out
            rw [List.append_assoc]
            exact List.prefix_refl _) (by simpa using hJ4)
          have HB := hide hB
          have HS4 := hide (HS3.out.trans hs4 HK3.out.size)
          have HK4 := hide (HK3.out.trans hk4 HS3.out)
          have HW4 := hide hw4
          clear hB hJ4 hs4 hk4 hw4 c20 HS3 HK3 HW3
          gi_wp2
          refine ⟨trivial, fun h => (by simp [Fence.wide] at h), ?_⟩
          refine HB.out.mono ?_
          clear HB
          rintro e5 W5 ⟨O5, hs5, hk5, ⟨he, hJ5⟩ | ⟨he, q, hq, hJ5⟩⟩
          · obtain rfl : e5 = .returned (.bool true) := he
            have HG : Hid (SubO O W.heap.size O5 ∧ KeepsBut O W W5 ∧ J (pre ++ liAll (l.take (k + 1)) d b off) O5 W5) := by
              refine ⟨HF1.out.trans (HS4.out.trans hs5 HK4.out.size) HF2.out.size, HF2.out.trans (HK4.out.trans hk5 HS4.out) HF1.out, ?_⟩
              rw [HTk.out]
              simpa using hJ5
            clear hJ5 hs5 hk5 HS4 HK4 HW4 c21
            gi_wp2
            go_roundw
            case rel => exact ⟨k + 1, O5, hlt9.out, by go_num, HG⟩
            case measure => have := hlt9.out; simp [intOf]; omega
          · obtain rfl : e5 = .returned (.bool false) := he
            have HG : Hid (SubO O W.heap.size O5 ∧ KeepsBut O W W5 ∧ ∃ q, q <+: liAll l d b off ∧ Jx (pre ++ q) O5 W5) := by
              refine ⟨HF1.out.trans (HS4.out.trans hs5 HK4.out.size) HF2.out.size, HF2.out.trans (HK4.out.trans hk5 HS4.out) HF1.out, liAll (l.take k) d b off ++ (⟨d, b, off + k * 23, e⟩ :: (liAll e.body (wrap64 (d + 1)) (bkA e.bA) (ofA e.bA) ++ q)), ?_, by simpa using hJ5⟩
              refine List.IsPrefix.trans ?_ HPx.out
              refine (List.prefix_append_right_inj _).2 ?_
              rw [List.cons_prefix_cons]
              exact ⟨rfl, (List.prefix_append_right_inj _).2 hq⟩
            clear hJ5 hs5 hk5 HS4 HK4 HW4 c21
            gi_wp2
            go_ret
            exact ⟨O5, HG.out.1, HG.out.2.1, .inr ⟨rfl, HG.out.2.2⟩⟩
        · obtain rfl : e4 = .returned (.bool false) := he
          have HG : Hid (SubO O W.heap.size O4 ∧ KeepsBut O W W4 ∧ ∃ q, q <+: liAll l d b off ∧ Jx (pre ++ q) O4 W4) := by
            refine ⟨HF1.out.trans (HS3.out.trans hs4 HK3.out.size) HF2.out.size, HF2.out.trans (HK3.out.trans hk4 HS3.out) HF1.out, liAll (l.take k) d b off ++ (⟨d, b, off + k * 23, e⟩ :: q), ?_, by simpa using hJ4⟩
            refine List.IsPrefix.trans ?_ HPx.out
            refine (List.prefix_append_right_inj _).2 ?_
            rw [List.cons_prefix_cons]
            exact ⟨rfl, hq.trans (List.prefix_append _ _)⟩
          clear hJ4 hs4 hk4 HS3 HK3 HW3 c20
          gi_wp2
          refine ⟨trivial, ?_⟩
          gi_wp2
          go_ret
          exact ⟨O4, HG.out.1, HG.out.2.1, .inr ⟨rfl, HG.out.2.2⟩⟩
      · obtain rfl : e3 = .returned (.bool false) := he
        have HG : Hid (SubO O W.heap.size O3 ∧ KeepsBut O W W3 ∧ ∃ q, q <+: liAll l d b off ∧ Jx (pre ++ q) O3 W3) := by
          refine ⟨HF1.out.trans hs3 HF2.out.size, HF2.out.trans hk3 HF1.out, liAll (l.take k) d b off ++ q, ?_, by rw [← List.append_assoc]; exact hJ3⟩
          refine List.IsPrefix.trans ?_ HPx.out
          refine (List.prefix_append_right_inj _).2 ?_
          exact hq.trans (by simp)
        clear hJ3 hs3 hk3
        gi_wp2
        refine ⟨trivial, ?_⟩
        gi_wp2
        refine ⟨trivial, ?_⟩
        gi_wp2
        go_ret
        exact ⟨O3, HG.out.1, HG.out.2.1, .inr ⟨rfl, HG.out.2.2⟩⟩
    · obtain rfl : k = l.length := by omega
      have hlt' : ¬ (l.length : Int) < (l.length : Int) := by omega
      have HG : Hid (SubO O W.heap.size O' ∧ KeepsBut O W wr ∧ J (pre ++ liAll l d (bkA A) (ofA A)) O' wr) := ⟨hF.out.1, hF.out.2.1, by have := hF.out.2.2; rwa [List.take_length] at this⟩
      clear hF
      gi_wp2
      go_ret
      exact ⟨O', HG.out.1, HG.out.2.1, .inl ⟨rfl, HG.out.2.2⟩⟩

theorem innerI_ok : ∀ l : List St, InnerOkI l := fun l => innerI_step l
  (fun s hs => have h1 := List.sizeOf_lt_of_mem hs; have h2 := s.body_size
               innerI_ok s.body)
  (fun s hs => have h1 := List.sizeOf_lt_of_mem hs; have h2 := s.els_size
               innerI_ok s.els)
termination_by l => SizeOf.sizeOf l

set_option maxRecDepth 100000 in
theorem bodyI_push (B : Nat) (A : Option Addr) (c : Nat) (l : List St) :
    Pushes Tryz.prog 44 (fun y => #[y] ++ #[.pointer (some ⟨B, 0, none⟩)]) Li.args (fun W => RdI W A l ∧ W.cell? ⟨B, 15, none⟩ = some (.slice A l.length c)) isDone isDone (liAll l 0 (bkA A) (ofA A)) := by
  intro n ln J Jx pre O W hH h0
  have hc := (hH.read _ _ _ h0).2
  have hC := hide (innerI_ok l A c 0 (n - 1) ln J Jx pre O W (by have := hH.mono (ys := liAll l 0 (bkA A) (ofA A)) (Nat.le_refl _) (fun X hX => hX.1) [] (List.prefix_refl _); simpa using this) h0)
  clear hH h0
  refine callsIn_of_wp Tryz.func44 rfl trivial ?_ rfl
  simp only [Tryz.ntmps44, List.size_toArray, List.length_cons, List.length_nil, Nat.reduceAdd, Nat.reduceSub, Array.replicate_succ, Array.replicate_zero, List.push_toArray, List.append_toArray, List.nil_append, List.cons_append]
  gi_wp2
  refine ⟨trivial, fun h => (by simp [Fence.wide] at h), ?_⟩
  refine hC.out.mono ?_
  rintro e W' ⟨O', hs, hk, ⟨he, hJ⟩ | ⟨he, q, hq, hJ⟩⟩
  · obtain rfl : e = .returned (.bool true) := he
    have HG := hide (And.intro hs (And.intro hk hJ))
    clear hs hk hJ
    gi_wp2
    go_end0
    exact ⟨O', HG.out.1, HG.out.2.1, .inl ⟨⟨_, rfl⟩, HG.out.2.2⟩⟩
  · obtain rfl : e = .returned (.bool false) := he
    have HG := hide (And.intro hs (And.intro hk hJ))
    clear hs hk hJ
    gi_wp2
    go_end0
    exact ⟨O', HG.out.1, HG.out.2.1, .inr ⟨⟨_, rfl⟩, q, hq, HG.out.2.2⟩⟩

end Go.Proofs.YtmpdmelkbemabaaGreat
set_option linter.unusedSimpArgs false
set_option linter.unusedVariables false
namespace Go.Proofs.YtmpdmelkbemabaaGreat
open Go.RowKit Go.Proofs.Grow
attribute [local go_sem] Oper.semAt_some

def encP (p : Int) : List Value := [.int .i64 p]
theorem encP_len (p : Int) : (encP p).length = 1 := rfl
theorem encP_one (p : Int) : ∀ u ∈ encP p, u.oneCell' = true := by intro u hu; simp [encP] at hu; subst hu; rfl
theorem infoP : (Tryz.prog.info? 3).map (fun i => (i.zero.map (·.cells.size), i.size, i.bytes)) = some (some 1, 1, 8) := by kernel_rfl

/-- Between two rounds: the places so far, in the box Ba. -/
def InA (Ba : Nat) (Wr : World) (s : List Li) (O : Nat → Prop) (X : World) : Prop :=
  ∃ v, (O = fun j => j = Ba ∨ v.ownBlock = some j) ∧ X.heap[Ba]? = some (.cells #[v] 98 (0, 0)) ∧ Grow.Own X Wr.heap.size 3 1 encP v (s.map fun x => x.s.pos) ∧ SubO (fun j => j = Ba) Wr.heap.size O ∧ KeepsBut (fun j => j = Ba) Wr X
section
variable {Ba : Nat} {Wr X Y : World} {s : List Li} {O : Nat → Prop}
theorem InA.turn (h : InA Ba Wr s O X) (t : Turns Wr.heap.size O X Y) : InA Ba Wr s O Y := by
  obtain ⟨v, rfl, h1, h2, h3, h4⟩ := h
  exact ⟨v, rfl, (t.own (.inl rfl) (row_lt h1)).trans h1, h2.keep fun g hg => t.own (.inr hg) (h2.from_ g hg).2, h3, h4.trans t fun j hj => .inr hj.1⟩
theorem InA.there (h : InA Ba Wr s O X) : ∀ j, O j → j < X.heap.size := by
  obtain ⟨v, rfl, h1, h2, h3, h4⟩ := h
  rintro j (rfl | hj)
  · exact row_lt h1
  · exact (h2.from_ j hj).2
theorem InA.below {w : World} (h : InA Ba Wr s O X) (hw : Below w.heap.size w Wr) (hv : w.heap.size ≤ Ba) : Below w.heap.size w X := by
  obtain ⟨v, rfl, h1, h2, h3, h4⟩ := h
  exact hw.trans (h4.below (fun j hj => by have : j = Ba := hj; omega) hw.size)
end

set_option maxHeartbeats 0 in
set_option maxRecDepth 1000000 in
theorem own_r1 (n : Nat) (w Wr : World) (B Ba : Nat) (m : Me) (hB : Hid (Below w.heap.size w Wr)) (hin : Hid (MeIn w m)) (hlen : Hid ((liAll m.body 0 (bkA m.bA) (ofA m.bA)).length ≤ 1048576)) (hba : Hid (Wr.heap[Ba]? = some (.cells #[.slice none 0 0] 98 (0, 0))))
    (hbb : Hid (Wr.heap[B]? = some (.cells m.cells.toArray 43 (0, 0)))) (hne : B ≠ Ba) (hwa : w.heap.size ≤ Ba) (q0 q1 q2 q3 q4 q5 q6 q7 q8 q9 q10 q12 q13 q14 q15 q16 q17 q18 q19 q20 q21 q22 q23 q24 q25 q26 q27 q28 q29 q30 q31 q32 q33 q34 q35 q36 q37 q38 q39 q40 q41 q42 q43 q44 q45 q46 q47 q48 q49 q50 q51 q52 q53 q54 q55 q56 q57 q58 q59 q60 q61 q62 q63 q64 q65 q66 q67 q68 q69 q70 q71 q72 q73 q74 q75 q76 q77 q78 q79 q80 q81 q82 q83 q84 q85 q86 q87 q88 q89 q90 q91 q92 q93 q94 q95 q96 q97 q98 q99 q100 q101 q102 q103 q104 q105 q106 q107 q108 q109 q110 q111 q112 q113 q114 q115 q116 q117 q118 q119 q120 q121 q122 q123 q124 q125 q126 q127 q128 q129 q130 q131 q132 q134 q135 q136 q137 q138 q139 q140 q141 q142 q143 q144 q145 q146 q147 q148 q149 q150 q151 q152 q153 q154 q155 q156 q157 q158 q159 : Value) (ds : List Deferred) (Q : Exit → Act → World → Prop)
    (hexit : ∀ (v : Value) (D : Nat) (V : World), Hid (KeepsBut (fun j => j = Ba) Wr V ∧ V.heap[Ba]? = some (.cells #[v] 98 (0, 0)) ∧ Grow.Own V Wr.heap.size 3 1 encP v ((liAll m.body 0 (bkA m.bA) (ofA m.bA)).map fun x => x.s.pos) ∧ Wr.heap.size ≤ D ∧ v.ownBlock ≠ some D ∧ V.heap[D]? = some (.deferred (some []))) → Q .normal ⟨List.toArray (q0 :: q1 :: q2 :: q3 :: q4 :: q5 :: q6 :: q7 :: q8 :: q9 :: q10 :: (Value.pointer (some ⟨Ba, 0, none⟩)) :: q12 :: q13 :: q14 :: q15 :: q16 :: q17 :: q18 :: q19 :: q20 :: q21 :: q22 :: q23 :: q24 :: q25 :: q26 :: q27 :: q28 :: q29 :: q30 :: q31 :: q32 :: q33 :: q34 :: q35 :: q36 :: q37 :: q38 :: q39 :: q40 :: q41 :: q42 :: q43 :: q44 :: q45 :: q46 :: q47 :: q48 :: q49 :: q50 :: q51 :: q52 :: q53 :: q54 :: q55 :: q56 :: q57 :: q58 :: q59 :: q60 :: q61 :: q62 :: q63 :: q64 :: q65 :: q66 :: q67 :: q68 :: q69 :: q70 :: q71 :: q72 :: q73 :: q74 :: q75 :: q76 :: q77 :: q78 :: q79 :: q80 :: q81 :: q82 :: q83 :: q84 :: q85 :: q86 :: q87 :: q88 :: q89 :: q90 :: q91 :: q92 :: q93 :: q94 :: q95 :: q96 :: q97 :: q98 :: q99 :: q100 :: q101 :: q102 :: q103 :: q104 :: q105 :: q106 :: q107 :: q108 :: q109 :: q110 :: q111 :: q112 :: q113 :: q114 :: q115 :: q116 :: q117 :: q118 :: q119 :: q120 :: q121 :: q122 :: q123 :: q124 :: q125 :: q126 :: q127 :: q128 :: q129 :: q130 :: q131 :: q132 :: (Value.func (.func 44) #[] #[.pointer (some ⟨B, 0, none⟩)]) :: q134 :: q135 :: q136 :: q137 :: q138 :: q139 :: q140 :: q141 :: q142 :: q143 :: q144 :: q145 :: q146 :: q147 :: q148 :: q149 :: q150 :: q151 :: q152 :: q153 :: q154 :: q155 :: q156 :: q157 :: q158 :: q159 :: []), { target := .collected D, args := #[] } :: ds⟩ V) :
    Code.wpIn Fence.wide n Tryz.prog (ownRange 0) Q ⟨List.toArray (q0 :: q1 :: q2 :: q3 :: q4 :: q5 :: q6 :: q7 :: q8 :: q9 :: q10 :: (Value.pointer (some ⟨Ba, 0, none⟩)) :: q12 :: q13 :: q14 :: q15 :: q16 :: q17 :: q18 :: q19 :: q20 :: q21 :: q22 :: q23 :: q24 :: q25 :: q26 :: q27 :: q28 :: q29 :: q30 :: q31 :: q32 :: q33 :: q34 :: q35 :: q36 :: q37 :: q38 :: q39 :: q40 :: q41 :: q42 :: q43 :: q44 :: q45 :: q46 :: q47 :: q48 :: q49 :: q50 :: q51 :: q52 :: q53 :: q54 :: q55 :: q56 :: q57 :: q58 :: q59 :: q60 :: q61 :: q62 :: q63 :: q64 :: q65 :: q66 :: q67 :: q68 :: q69 :: q70 :: q71 :: q72 :: q73 :: q74 :: q75 :: q76 :: q77 :: q78 :: q79 :: q80 :: q81 :: q82 :: q83 :: q84 :: q85 :: q86 :: q87 :: q88 :: q89 :: q90 :: q91 :: q92 :: q93 :: q94 :: q95 :: q96 :: q97 :: q98 :: q99 :: q100 :: q101 :: q102 :: q103 :: q104 :: q105 :: q106 :: q107 :: q108 :: q109 :: q110 :: q111 :: q112 :: q113 :: q114 :: q115 :: q116 :: q117 :: q118 :: q119 :: q120 :: q121 :: q122 :: q123 :: q124 :: q125 :: q126 :: q127 :: q128 :: q129 :: q130 :: q131 :: q132 :: (Value.func (.func 44) #[] #[.pointer (some ⟨B, 0, none⟩)]) :: q134 :: q135 :: q136 :: q137 :: q138 :: q139 :: q140 :: q141 :: q142 :: q143 :: q144 :: q145 :: q146 :: q147 :: q148 :: q149 :: q150 :: q151 :: q152 :: q153 :: q154 :: q155 :: q156 :: q157 :: q158 :: q159 :: []), ds⟩ Wr := by
  obtain ⟨i0, z0, hi0, hz0, hz1, hz2, hzs⟩ := info_row infoP
  conv => arg 4; whnf
  have hI0 : Hid (InA Ba Wr [] (fun g => g = Ba ∨ (Value.slice none 0 0).ownBlock = some g) Wr) := ⟨.slice none 0 0, rfl, hba.out, Own.nil, fun j hj => hj.elim .inl (fun h => by cases h), KeepsBut.refl _ _⟩
  refine wpIn_rangeR (gf := 44) (lb := #[.pointer (some ⟨B, 0, none⟩)]) rfl (enters_of Tryz.func44 (by kernel_rfl) rfl) (bodyI_push B m.bA m.bc m.body) (fun _ => rfl)
    (fun g => g = Ba ∨ (Value.slice none 0 0).ownBlock = some g) (fun s O Y => InA Ba Wr s O Y) (fun _ _ _ _ => False) ?hIT (fun _ _ _ _ _ h _ => h) ?hIO ?hIR (fun _ _ _ _ h => h.elim) hI0.out ?hround ?hdone (fun _ _ _ _ _ _ _ _ _ _ h _ => h.elim)
  case hIT => exact fun s O X Y h t => h.turn t
  case hIO => exact fun s O X h => h.there
  case hIR =>
    intro s O Y h
    have hb := h.below hB.out hwa
    obtain ⟨u, hu⟩ := Ext.of hb
    obtain ⟨_, _, _, _, _, hk⟩ := h
    refine ⟨(RdB.of_st _ _ (hin.out.body.below hb) (fun t ht => hu ▸ (hin.out.stmts t ht).ext u) (Nat.le_trans hin.out.bc hin.out.bm)).i, ?_⟩
    exact (World.cell?_of_block (hk.block B (row_lt hbb.out) hne)).trans (row_cell hbb.out (j := 15) rfl).1
  case hround =>
    rintro m1 l1 s x O Y hl0 hlY hnl hI hpre
    have hx := hide (liAll_ty m.body 0 m.bA hin.out.body hin.out.stmts x (hpre.subset (by simp)))
    have hst : Hid (s.length + 1 ≤ 1048576) := by
      have h1 := hpre.length_le
      have h2 := hlen.out
      simp at h1
      show _ ≤ _
      omega
    unfold Li.args
    gi_wp2
    refine ⟨O, SubO.refl _ _, KeepsBut.refl _ _, fun Z => InA Ba Wr s O Z, fun _ _ h t => h.turn t, hI, ?_⟩
    clear hI hl0 hlY hnl Y
    rintro m2 l2 Y hl2 hlY hnl hI
    obtain ⟨v1, hO, hv, hown, hsub, hkeep⟩ := hI
    have hbY : Below w.heap.size w Y := InA.below ⟨v1, hO, hv, hown, hsub, hkeep⟩ hB.out hwa
    have hp0 : Y.cell? ⟨x.b, x.off + 22, none⟩ = some (.int .i64 x.s.pos) := (World.cell?_of_block (hbY.block _ hx.out.1)).trans (hx.out.2 22 _ (St.at22 _))
    have hv1 := hown.from_
    have nx : ¬ (v1.ownBlock = some x.b) := fun h => by have := hv1 _ h; have := hx.out.1; have := hB.out.size; omega
    have na : v1.ownBlock ≠ some Ba := fun h => by have := hv1 _ h; have := row_lt hba.out; omega
    have hxY : x.b < Y.heap.size := Nat.lt_of_lt_of_le hx.out.1 hbY.size
    obtain ⟨ps, hps⟩ : ∃ p, p = x.s.pos := ⟨_, rfl⟩
    rw [← hps] at hp0
    have hps9 := hide hps
    let S : World → Prop := fun Z => KeepsBut (fun g => v1.ownBlock = some g) Y Z
    have hSc : ∀ Z, S Z → Z.cell? ⟨Ba, 0, none⟩ = some v1 ∧ Z.cell? ⟨x.b, x.off + 22, none⟩ = some (.int .i64 ps) := fun Z h =>
      ⟨(h.cell (a := ⟨Ba, 0, none⟩) (row_lt hv) na).trans (row_cell (cs := [v1]) hv (j := 0) rfl).1, (h.cell (a := ⟨x.b, x.off + 22, none⟩) hxY nx).trans hp0⟩
    have hS : S Y.drew := KeepsBut.drew Y
    have hO9 := hide hO
    have hvd : Hid (Y.drew.heap[Ba]? = some (.cells #[v1] 98 (0, 0))) := hv
    have hod : Hid (Grow.Own Y.drew Wr.heap.size 3 1 encP v1 (s.map fun x => x.s.pos)) := hown.drew
    have hsub9 := hide hsub
    have hk9 : Hid (KeepsBut (fun g => g = Ba) Wr Y.drew) := hkeep.trans' (KeepsBut.drew _)
    have hwY : Hid (Wr.heap.size ≤ Y.heap.size) := hkeep.size
    have hlen2 : Hid ((s.map fun x => x.s.pos).length + [ps].length ≤ maxLen ∧ ((s.map fun x => x.s.pos).length + [ps].length) * 8 ≤ 140737488355328) := by
      have := hst.out
      show _ ∧ _
      simp only [List.length_map, List.length_cons, List.length_nil]
      unfold maxLen
      omega
    clear hO hv hown hsub hkeep hbY hp0 hv1 hxY hl2 hlY hnl hps
    gi_wp2
    refine wpIn_region_tillL S 7 (by kernel_rfl) ?_
    simp only [List.size_toArray, List.length_cons, List.length_nil, Nat.reduceAdd]
    refine TillL.take (i := 0) (v := ?_) (fun _ => trivial) rfl (by kernel_rfl) (fun _ _ _ h => h) hS ?_ rfl ?_
    rotate_left
    · intro X hSX
      obtain ⟨e0, e1⟩ := hSc X hSX
      go_simp
      all_goals with_reducible rfl
    try simp only [Act.put, List.getElem_toArray, List.getElem_cons_succ, List.getElem_cons_zero, List.setIfInBounds_toArray, List.set_cons_zero, List.set_cons_succ]
    refine TillL.take (i := 1) (v := ?_) (fun _ => trivial) rfl (by kernel_rfl) (fun _ _ _ h => h) hS ?_ rfl ?_
    rotate_left
    · intro X hSX
      skip
      go_simp
      all_goals with_reducible rfl
    try simp only [Act.put, List.getElem_toArray, List.getElem_cons_succ, List.getElem_cons_zero, List.setIfInBounds_toArray, List.set_cons_zero, List.set_cons_succ]
    refine TillL.take (i := 2) (v := ?_) (fun _ => trivial) rfl (by kernel_rfl) (fun _ _ _ h => h) hS ?_ rfl ?_
    rotate_left
    · intro X hSX
      skip
      go_simp
      all_goals with_reducible rfl
    try simp only [Act.put, List.getElem_toArray, List.getElem_cons_succ, List.getElem_cons_zero, List.setIfInBounds_toArray, List.set_cons_zero, List.set_cons_succ]
    refine TillL.take (i := 3) (v := ?_) (fun _ => trivial) rfl (by kernel_rfl) (fun _ _ _ h => h) hS ?_ rfl ?_
    rotate_left
    · intro X hSX
      skip
      go_simp
      all_goals with_reducible rfl
    try simp only [Act.put, List.getElem_toArray, List.getElem_cons_succ, List.getElem_cons_zero, List.setIfInBounds_toArray, List.set_cons_zero, List.set_cons_succ]
    refine TillL.take (i := 4) (v := ?_) (fun _ => trivial) rfl (by kernel_rfl) (fun _ _ _ h => h) hS ?_ rfl ?_
    rotate_left
    · intro X hSX
      obtain ⟨e0, e1⟩ := hSc X hSX
      go_simp
      all_goals with_reducible rfl
    try simp only [Act.put, List.getElem_toArray, List.getElem_cons_succ, List.getElem_cons_zero, List.setIfInBounds_toArray, List.set_cons_zero, List.set_cons_succ]
    have hod1 : Grow.Own Y Wr.heap.size 3 1 encP v1 (s.map fun x => x.s.pos) := hod.out
    obtain ⟨W1, hW1⟩ : ∃ W1, W1 = (Y.alloc (.cells #[.int .i64 ps] 3)).drew := ⟨_, rfl⟩
    have hS1 : S W1 := by show KeepsBut _ _ _; rw [hW1]; exact (KeepsBut.alloc Y _).trans' (KeepsBut.drew _)
    have how1 : Hid (Grow.Own W1 Wr.heap.size 3 1 encP v1 (s.map fun x => x.s.pos)) := by show Grow.Own _ _ _ _ _ _ _; rw [hW1]; exact (hod1.alloc _).drew
    have hL1 : Hid (Lies W1 1 encP (some ⟨Y.heap.size, 0, none⟩) [ps]) := by show Lies _ _ _ _ _; rw [hW1]; exact (Lies.one (e := 3) (size := 1) (enc := encP) Y ps #[.int .i64 ps] rfl).drew
    have hW1s : Hid (Wr.heap.size ≤ W1.heap.size) := by show _ ≤ _; rw [hW1]; show Wr.heap.size ≤ (Y.alloc _).heap.size; rw [World.size_alloc]; have := hwY.out; omega
    have hW1n : Hid (W1.heap.size = Y.heap.size + 1) := by show _ = _; rw [hW1]; show (Y.alloc _).heap.size = _; rw [World.size_alloc]
    refine TillL.one (i := 5) rfl (by kernel_rfl) rfl ?_
    intro K hK
    go_simp
    rw [← hW1]
    refine hK _ _ (fun _ => hS1) ?_
    clear hK K hW1 hod1 hod hS
    try simp only [Act.put, List.getElem_toArray, List.getElem_cons_succ, List.getElem_cons_zero, List.setIfInBounds_toArray, List.set_cons_zero, List.set_cons_succ]
    refine TillL.one (i := 6) rfl (by kernel_rfl) rfl ?_
    intro K hK
    refine opIn_append_list W1 (fun _ => trivial) (.tmp 136) (.tmp 141) 98 rfl Wr.heap.size 3 i0 z0 1 8 Tryz.underlying98 hi0 hz0 hz1 hz2 hzs (by decide) encP_len encP_one v1 (s.map fun x => x.s.pos) rfl how1.out _ 1 1 [ps] rfl rfl hL1.out hlen2.out.1 hlen2.out.2 hW1s.out ?_
    intro v' w' hown' hgr hat
    obtain ⟨g', N, cap', rfl⟩ : ∃ g' N cap', v' = .slice (some ⟨g', 0, none⟩) N cap' := by
      obtain ⟨g, c, h⟩ := hown'.some_
      exact ⟨g, _, c, h⟩
    have hk10 : KeepsBut (fun g => v1.ownBlock = some g) Y w' := hS1.trans' (KeepsBut.of_grown hgr fun g hg => hg)
    have hrow' : w'.heap[Ba]? = some (.cells #[v1] 98 (0, 0)) := (hk10.block _ (row_lt hvd.out) na).trans hvd.out
    refine hK _ _ (fun _ => hk10) ?_
    clear hK K
    obtain ⟨c0, f0⟩ := row_cell (cs := [v1]) hrow' (j := 0) rfl
    have hF := hide (And.intro hown' (And.intro hat (And.intro hk10 hrow')))
    clear hown' hgr hat hk10 hrow'
    try simp only [Act.put, List.getElem_toArray, List.getElem_cons_succ, List.getElem_cons_zero, List.setIfInBounds_toArray, List.set_cons_zero, List.set_cons_succ]
    refine TillL.one (i := 7) rfl (by kernel_rfl) rfl ?_
    intro K hK
    go_simp
    refine hK _ _ (fun h => absurd rfl h) ?_
    clear hK K
    refine TillL.done (by kernel_rfl) ?_ _
    gi_wp2
    have hO1 : O Ba := by rw [hO9.out]; exact .inl rfl
    have hO2 : ∀ g, v1.ownBlock = some g → O g := fun g hg => by rw [hO9.out]; exact .inr hg
    have hSO : SubO O Y.heap.size (fun g => g = Ba ∨ (Value.slice (some ⟨g', 0, none⟩) N cap').ownBlock = some g) := by
      rintro g (rfl | hg)
      · exact .inl hO1
      · rcases hF.out.2.1 with h | h
        · exact .inl (hO2 g (h.symm.trans hg))
        · rw [hg] at h
          simp only [Option.some.injEq] at h
          exact .inr (by rw [h, hW1n.out]; exact Nat.le_succ _)
    have hKO : KeepsBut O Y (w'.setCell ⟨Ba, 0, none⟩ (.slice (some ⟨g', 0, none⟩) N cap')) := (hF.out.2.2.1.mono fun g _ h => hO2 g h).trans' (KeepsBut.setCell _ _ _ hO1)
    refine ⟨_, hSO, hKO, _, rfl, row_store hF.out.2.2.2 0 (.slice (some ⟨g', 0, none⟩) N cap'), ?_, ?_, ?_⟩
    · have h5 := hF.out.1
      rw [List.map_append, List.map_cons, List.map_nil, ← hps9.out]
      refine Own.keep (A := w') h5 fun g hg => Below.heap_setCell _ _ _ _ ?_
      have := (h5.from_ g hg).1
      have := row_lt hba.out
      show g ≠ Ba
      omega
    · exact hsub9.out.trans hSO hk9.out.size
    · have h1 : KeepsBut (fun g => g = Ba) Wr Y := ⟨hk9.out.size, hk9.out.os, hk9.out.tape, hk9.out.output, hk9.out.block⟩
      exact h1.trans hKO hsub9.out
  case hdone =>
    rintro O D V hD hnD _ _ ⟨v1, rfl, hv, hown, hsub, hkeep⟩ hKD
    exact hexit v1 D V ⟨hkeep, hv, hown, hD, fun h => hnD (.inr h), hKD⟩
end Go.Proofs.YtmpdmelkbemabaaGreat
