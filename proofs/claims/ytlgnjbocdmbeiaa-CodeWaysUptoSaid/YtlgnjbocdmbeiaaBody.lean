/- The code that statements have; the walk of code.writer's method body. -/
import Derived.Test.YtlgnjbocdmbeiaaHere
set_option linter.unusedSimpArgs false
set_option linter.unusedVariables false
namespace Go.Proofs.Ytlgnjbocdmbeiaa
open Go.RowKit Go.Proofs.Grow

def _root_.Go.Proofs.Grow.St.k : St → Int | .mk k _ _ _ _ _ _ _ _ _ _ _ _ _ _ _ => k
def _root_.Go.Proofs.Grow.St.body : St → List St | .mk _ _ _ _ _ _ _ _ _ _ _ body _ _ _ _ => body
def _root_.Go.Proofs.Grow.St.els : St → List St | .mk _ _ _ _ _ _ _ _ _ _ _ _ _ _ els _ => els
def _root_.Go.Proofs.Grow.Ty.zero : Ty := ⟨0, ByteArray.empty, 0, ⟨0, 0⟩, ⟨0, 0⟩, ⟨0, 0⟩, ⟨0, 0⟩⟩
def _root_.Go.Proofs.Grow.St.zero : St := .mk 0 ByteArray.empty ByteArray.empty ByteArray.empty Ty.zero (.mk 0 0 ByteArray.empty none 0 []) none 0 [] none 0 [] none 0 [] 0

mutual
/-- The code of a statement, the first step of which is at a place. -/
def codeOne : St → Nat → List Ins
  | .mk k x y name ty e aA ac args bA bc body eA ec els pos, p =>
    let me := bare (.mk k x y name ty e aA ac args bA bc body eA ec els pos)
    if k = 9 then
      if els.length = 0 then ⟨2, me, (p + 1 + (codeList body (p + 1)).length : Nat)⟩ :: codeList body (p + 1)
      else ⟨2, me, (p + 1 + (codeList body (p + 1)).length + 1 : Nat)⟩ :: (codeList body (p + 1) ++
        ⟨3, St.zero, (p + 1 + (codeList body (p + 1)).length + 1 + (codeList els (p + 1 + (codeList body (p + 1)).length + 1)).length : Nat)⟩ :: codeList els (p + 1 + (codeList body (p + 1)).length + 1))
    else if k = 10 then ⟨2, me, (p + 1 + (codeList body (p + 1)).length + 1 : Nat)⟩ :: (codeList body (p + 1) ++ [⟨3, St.zero, (p : Nat)⟩])
    else [⟨1, me, 0⟩]
def codeList : List St → Nat → List Ins
  | [], _ => []
  | s :: l, p => codeOne s p ++ codeList l (p + (codeOne s p).length)
end

theorem put_any (w : World) (base g : Nat) (v : Value) (acc : List Ins) (kd go : Int) (s : St) (cs : Array Value) (hcs : cs = s.cells.toArray) (hW : Wr base g w v acc) (hbase : base ≤ w.heap.size) (hacc : acc.length < 400000000000) :
    Calls Try.prog 17 #[.pointer (some ⟨g, 0, none⟩), .int .i64 kd, .agg cs, .int .i64 go] w fun e w' => e = .returned (.int .i64 acc.length) ∧ Wrote base g w v (acc ++ [⟨kd, bare s, go⟩]) w' := by
  subst hcs
  obtain ⟨k, x, y, name, ⟨tk, tc, tn, ⟨k0, n0⟩, ⟨k1, n1⟩, ⟨k2, n2⟩, ⟨k3, n3⟩⟩, ⟨ek, en, ename, eA, ec, kids⟩, aA, ac, args, bA, bc, body, lA, lc, els, pos⟩ := s
  exact put_core w base g v acc kd go _ _ _ _ _ _ _ _ _ _ _ _ _ _ _ _ _ _ _ _ _ _ _ _ rfl hW hbase hacc

/-- Where the walk of body stands: the list is acc now; block p (the loop's variable) is there as it was made. -/
structure At (w0 w : World) (g p : Nat) (v : Value) (cs : Array Value) (acc : List Ins) (W : World) (v' : Value) : Prop where
  wr : Wr w0.heap.size g W v' acc
  kept : Kept g v.ownBlock w W
  own : v'.ownBlock = v.ownBlock ∨ ∃ k, v'.ownBlock = some k ∧ w.heap.size ≤ k
  below : Below w0.heap.size w0 W
  box : W.heap[p]? = some (.cells cs 41 (0, 0))
  notG : p ≠ g
  notOwn : some p ≠ v'.ownBlock

theorem At.after {w0 w W W' : World} {g p : Nat} {v v' : Value} {cs : Array Value} {acc acc' : List Ins} (h : At w0 w g p v cs acc W v') (hg : w0.heap.size ≤ g) (h2 : Wrote w0.heap.size g W v' acc' W') : ∃ v'', At w0 w g p v cs acc' W' v'' := by
  obtain ⟨v'', hwr, hk, ho⟩ := h2
  have hp : p < W.heap.size := by
    rcases Nat.lt_or_ge p W.heap.size with h' | h'
    · exact h'
    · have := h.box; rw [Array.getElem?_eq_none h'] at this; cases this
  refine ⟨v'', hwr, ?_, ?_, ?_, (hk.block p hp h.notG h.notOwn).trans h.box, h.notG, ?_⟩
  · refine ⟨hk.os.trans h.kept.os, hk.tape.trans h.kept.tape, hk.output.trans h.kept.output, Nat.le_trans h.kept.size hk.size, fun k hk1 hkg hko => ?_⟩
    refine (hk.block k (Nat.lt_of_lt_of_le hk1 h.kept.size) hkg ?_).trans (h.kept.block k hk1 hkg hko)
    rcases h.own with e | ⟨j, e, hj⟩
    · rw [e]; exact hko
    · rw [e]; intro e2; cases e2; omega
  · rcases ho with e | ⟨j, e, hj⟩
    · rw [e]; exact h.own
    · exact .inr ⟨j, e, Nat.le_trans h.kept.size hj⟩
  · refine ⟨hk.os.trans h.below.os, hk.tape.trans h.below.tape, hk.output.trans h.below.output, Nat.le_trans h.below.size hk.size, fun k hk1 => ?_⟩
    refine (hk.block k (Nat.lt_of_lt_of_le hk1 h.below.size) (by omega) ?_).trans (h.below.block k hk1)
    intro e
    have := (h.wr.own.from_ k e.symm).1
    omega
  · rcases ho with e | ⟨j, e, hj⟩
    · rw [e]; exact h.notOwn
    · rw [e]; intro e2; cases e2; omega

theorem Wrote.ext0 {w0 w W : World} {g : Nat} {v : Value} {acc : List Ins} (h : Wrote w0.heap.size g w v acc W) (hgb : w0.heap.size ≤ g) (hv : ∀ k, v.ownBlock = some k → w0.heap.size ≤ k) (hb : Below w0.heap.size w0 w) : ∃ x : Ext w0, W = x.val := by
  obtain ⟨v', hwr, hk, ho⟩ := h
  refine Ext.of ⟨hk.os.trans hb.os, hk.tape.trans hb.tape, hk.output.trans hb.output, Nat.le_trans hb.size hk.size, fun k hk1 => ?_⟩
  refine (hk.block k (Nat.lt_of_lt_of_le hk1 hb.size) (by omega) ?_).trans (hb.block k hk1)
  intro e
  have := hv k e.symm
  omega

theorem At.start {w0 w W : World} {g : Nat} {v : Value} {acc : List Ins} (cs : Array Value) (h : Wrote w0.heap.size g w v acc W) (hg : g < w.heap.size) (hgb : w0.heap.size ≤ g) (hv : ∀ k, v.ownBlock = some k → w0.heap.size ≤ k) (hb : Below w0.heap.size w0 w) :
    ∃ v', At w0 w g W.heap.size v cs acc (W.alloc (.cells cs 41)) v' := by
  obtain ⟨v', hwr, hk, ho⟩ := h
  refine ⟨v', ⟨(Below.heap_alloc W _ g (Nat.lt_of_lt_of_le hg hk.size)).trans hwr.blk, hwr.own.alloc _⟩, ⟨hk.os, hk.tape, hk.output, by have := hk.size; simp; omega, fun k hk1 hkg hko => (Below.heap_alloc W _ k (Nat.lt_of_lt_of_le hk1 hk.size)).trans (hk.block k hk1 hkg hko)⟩, ho, ?_, heap_alloc_new W _, ?_, ?_⟩
  · refine Below.alloc ⟨hk.os.trans hb.os, hk.tape.trans hb.tape, hk.output.trans hb.output, Nat.le_trans hb.size hk.size, fun k hk1 => ?_⟩ (Nat.le_trans hb.size hk.size) _
    refine (hk.block k (Nat.lt_of_lt_of_le hk1 hb.size) (by omega) ?_).trans (hb.block k hk1)
    intro e
    have := hv k e.symm
    omega
  · have := hk.size; omega
  · intro e
    have := (hwr.own.from_ _ e.symm).2
    omega

theorem At.done {w0 w W : World} {g p : Nat} {v v' : Value} {cs : Array Value} {acc : List Ins} (h : At w0 w g p v cs acc W v') : Wrote w0.heap.size g w v acc W := ⟨v', h.wr, h.kept, h.own⟩

theorem Wrote.refl {base g : Nat} {w : World} {v : Value} {acc : List Ins} (h : Wr base g w v acc) : Wrote base g w v acc w := ⟨v, h, ⟨rfl, rfl, rfl, Nat.le_refl _, fun _ _ _ _ => rfl⟩, .inl rfl⟩

/-- What body does. -/
def Bodies (l : List St) : Prop := ∀ (w0 w : World) (g : Nat) (v : Value) (acc : List Ins) (A : Option Addr) (c : Nat), Wr w0.heap.size g w v acc → Below w0.heap.size w0 w → w0.heap.size ≤ g → (∀ s ∈ l, StIn w0 s) → Lies w0 23 St.cells A l → l.length ≤ c → c ≤ maxLen →
  (acc ++ codeList l acc.length).length < 400000000000 →
  Calls Try.prog 16 #[.pointer (some ⟨g, 0, none⟩), .slice A l.length c] w fun e w' => e = .returned (.tuple #[]) ∧ Wrote w0.heap.size g w v (acc ++ codeList l acc.length) w'

theorem codeList_drop {l : List St} {k : Nat} (h : k < l.length) (p : Nat) : codeList (l.drop k) p = codeOne l[k] p ++ codeList (l.drop (k + 1)) (p + (codeOne l[k] p).length) := by
  rw [List.drop_eq_getElem_cons h, codeList]

theorem set_mid {α : Type} (a b : List α) (x y : α) : (a ++ x :: b).set a.length y = a ++ y :: b := by
  rw [List.set_append_right _ _ (Nat.le_refl _)]; simp

theorem codeOne_if {s : St} (h : s.k = 9) (he : s.els.length = 0) (p : Nat) : codeOne s p = ⟨2, bare s, (p + 1 + (codeList s.body (p + 1)).length : Nat)⟩ :: codeList s.body (p + 1) := by
  obtain ⟨k, x, y, name, ty, e, aA, ac, args, bA, bc, body, eA, ec, els, pos⟩ := s
  simp only [St.k, St.els, St.body] at h he ⊢
  rw [codeOne, if_pos h, if_pos he]
theorem codeOne_else {s : St} (h : s.k = 9) (he : s.els.length ≠ 0) (p : Nat) : codeOne s p = ⟨2, bare s, (p + 1 + (codeList s.body (p + 1)).length + 1 : Nat)⟩ :: (codeList s.body (p + 1) ++
        ⟨3, St.zero, (p + 1 + (codeList s.body (p + 1)).length + 1 + (codeList s.els (p + 1 + (codeList s.body (p + 1)).length + 1)).length : Nat)⟩ :: codeList s.els (p + 1 + (codeList s.body (p + 1)).length + 1)) := by
  obtain ⟨k, x, y, name, ty, e, aA, ac, args, bA, bc, body, eA, ec, els, pos⟩ := s
  simp only [St.k, St.els, St.body] at h he ⊢
  rw [codeOne, if_pos h, if_neg he]
theorem codeOne_while {s : St} (h : s.k = 10) (p : Nat) : codeOne s p = ⟨2, bare s, (p + 1 + (codeList s.body (p + 1)).length + 1 : Nat)⟩ :: (codeList s.body (p + 1) ++ [⟨3, St.zero, (p : Nat)⟩]) := by
  obtain ⟨k, x, y, name, ty, e, aA, ac, args, bA, bc, body, eA, ec, els, pos⟩ := s
  simp only [St.k, St.els, St.body] at h ⊢
  rw [codeOne, if_neg (by omega), if_pos h]
theorem codeOne_do {s : St} (h : s.k ≠ 9) (h2 : s.k ≠ 10) (p : Nat) : codeOne s p = [⟨1, bare s, 0⟩] := by
  obtain ⟨k, x, y, name, ty, e, aA, ac, args, bA, bc, body, eA, ec, els, pos⟩ := s
  simp only [St.k] at h h2
  rw [codeOne, if_neg h, if_neg h2]

theorem At.put {w0 w W : World} {g p : Nat} {v v' : Value} {cs : Array Value} {acc : List Ins} (h : At w0 w g p v cs acc W v') (hg : w0.heap.size ≤ g) (kd go : Int) (s : St) (us : Array Value) (hus : us = s.cells.toArray) (L : Nat) (hL : acc.length = L) (hacc : L < 400000000000) :
    Calls Try.prog 17 #[.pointer (some ⟨g, 0, none⟩), .int .i64 kd, .agg us, .int .i64 go] W fun e W' => e = .returned (.int .i64 L) ∧ ∃ v'', Hid (At w0 w g p v cs (acc ++ [⟨kd, bare s, go⟩]) W' v'') :=
  hL ▸ (put_any W w0.heap.size g v' acc kd go s us hus h.wr h.below.size (hL ▸ hacc)).mono fun _ _ ⟨he, hw⟩ => ⟨he, h.after hg hw⟩

theorem At.here {w0 w W : World} {g p : Nat} {v v' : Value} {cs : Array Value} {a b : List Ins} {x : Ins} (h : At w0 w g p v cs (a ++ x :: b) W v') (hg : w0.heap.size ≤ g) (n : Nat) (hn : a.length = n) :
    Calls Try.prog 24 #[.pointer (some ⟨g, 0, none⟩), .int .i64 n] W fun e W' => e = .returned (.tuple #[]) ∧ ∃ v'', Hid (At w0 w g p v cs (a ++ ⟨x.k, x.s, (a.length + 1 + b.length : Nat)⟩ :: b) W' v'') := by
  subst hn
  have hk : a.length < (a ++ x :: b).length := by simp
  refine (here_core W w0.heap.size g v' _ a.length hk h.wr).mono fun _ _ ⟨he, hw⟩ => ⟨he, ?_⟩
  rw [set_mid] at hw
  have e1 : (a ++ x :: b)[a.length] = x := by simp
  have e2 : (a ++ x :: b).length = a.length + 1 + b.length := by simp; omega
  rw [e1, e2] at hw
  exact h.after hg hw

theorem At.body {w0 w W : World} {g p : Nat} {v v' : Value} {cs : Array Value} {acc : List Ins} {l : List St} (ih : Bodies l) (h : At w0 w g p v cs acc W v') (hg : w0.heap.size ≤ g) (hin : ∀ s ∈ l, StIn w0 s) {A : Option Addr} {c : Nat} (hl : Lies w0 23 St.cells A l) (hlc : l.length ≤ c) (hcm : c ≤ maxLen)
    (hN : acc.length + (codeList l acc.length).length < 400000000000) :
    Calls Try.prog 16 #[.pointer (some ⟨g, 0, none⟩), .slice A l.length c] W fun e W' => e = .returned (.tuple #[]) ∧ ∃ v'', Hid (At w0 w g p v cs (acc ++ codeList l acc.length) W' v'') :=
  (ih w0 W g v' acc A c h.wr h.below hg hin hl hlc hcm (by simpa using hN)).mono fun _ _ ⟨he, hw⟩ => ⟨he, h.after hg hw⟩

theorem At.eq {w0 w W : World} {g p : Nat} {v v' : Value} {cs : Array Value} {acc acc' : List Ins} (h : Hid (At w0 w g p v cs acc W v')) (e : acc = acc') : Hid (At w0 w g p v cs acc' W v') := e ▸ h

/-- The round's end. -/
theorem At.round {w0 w W : World} {g p : Nat} {v v' : Value} {cs : Array Value} {acc acc1 acc' : List Ins} {l : List St} {k : Nat} {s : St} (h : At w0 w g p v cs acc' W v')
    (hT : Hid (acc ++ codeList l acc.length = acc1 ++ (codeOne s acc1.length ++ codeList (l.drop (k + 1)) (acc1.length + (codeOne s acc1.length).length)))) (e : acc' = acc1 ++ codeOne s acc1.length) :
    Hid (Wrote w0.heap.size g w v acc' W) ∧ Hid (acc ++ codeList l acc.length = acc' ++ codeList (l.drop (k + 1)) acc'.length) := by
  refine ⟨h.done, ?_⟩
  subst e
  exact hT.out.trans (by simp)

set_option maxHeartbeats 4000000 in
set_option maxRecDepth 100000 in
theorem body_step (l : List St) (ih : ∀ s ∈ l, Bodies s.body ∧ Bodies s.els) : Bodies l := by
  intro w0 w g v acc A c hW hB hgb hin hl hlc hcm hN
  have hg : g < w.heap.size := by
    rcases Nat.lt_or_ge g w.heap.size with h | h
    · exact h
    · have := hW.blk; rw [Array.getElem?_eq_none h] at this; cases this
  have HV := hide fun k (e : v.ownBlock = some k) => (hW.own.from_ k e).1
  have HW := hide hW
  have HB := hide hB
  have HI := hide hin
  have HL := hide hl
  have HN := hide hN
  have IH := hide ih
  clear hW hB hin hl hN ih
  go_enter Try.func16, Try.ntmps16
  go_wp2_with fail
  go_loopg [11] (l.length) (fun n i W => ∃ (k : Nat) (acc' : List Ins), k ≤ l.length ∧ n = l.length - k ∧ i = .int .i64 k ∧ Hid (Wrote w0.heap.size g w v acc' W) ∧ Hid (acc ++ codeList l acc.length = acc' ++ codeList (l.drop k) acc'.length))
  case atStart => exact ⟨0, acc, Nat.zero_le _, rfl, rfl, Wrote.refl HW.out, rfl⟩
  case round =>
    obtain ⟨k, acc', hk, rfl, rfl, hD, hT⟩ := hrel
    by_cases hlt : k < l.length
    · obtain ⟨b, off, rfl, hb, hcell⟩ := HL.out k hlt
      have hlt' : (k : Int) < (l.length : Int) := by omega
      have hs := hide (HI.out _ (List.getElem_mem hlt))
      have IHs := hide (IH.out _ (List.getElem_mem hlt))
      have hT' := hide (hT.out.trans (by rw [codeList_drop hlt]))
      obtain ⟨s, hse⟩ : ∃ s, s = l[k] := ⟨_, rfl⟩
      rw [← hse] at hs IHs hT' hcell
      clear hse
      have hTN : Hid (acc'.length + (codeOne s acc'.length).length < 400000000000) := by
        have := HN.out
        rw [hT'.out] at this
        simp at this
        show _ < _
        omega
      have hlt9 := hide hlt
      have HKW : Hid (wrap64 ((k : Int) + 1) = ((k + 1 : Nat) : Int)) := by
        have := hcm
        unfold maxLen at this
        show wrap64 _ = _
        unfold wrap64
        omega
      clear hT HN IH HL HI hlt
      have hcell' := hide hcell
      clear hcell
      obtain ⟨kd, x, y, name, tk, tc, tn, k0, n0, k1, n1, k2, n2, k3, n3, ek, en, ename, eA, ec, kids, aA, ac, args, bA, bc, body, lA, lc, els, pos, hse⟩ : ∃ kd x y name tk tc tn k0 n0 k1 n1 k2 n2 k3 n3 ek en ename eA ec kids aA ac args bA bc body lA lc els pos, Hid (s = (.mk kd x y name ⟨tk, tc, tn, ⟨k0, n0⟩, ⟨k1, n1⟩, ⟨k2, n2⟩, ⟨k3, n3⟩⟩ (.mk ek en ename eA ec kids) aA ac args bA bc body lA lc els pos)) := by
        obtain ⟨kd, x, y, name, ⟨tk, tc, tn, ⟨k0, n0⟩, ⟨k1, n1⟩, ⟨k2, n2⟩, ⟨k3, n3⟩⟩, ⟨ek, en, ename, eA, ec, kids⟩, aA, ac, args, bA, bc, body, lA, lc, els, pos⟩ := s
        exact ⟨_, _, _, _, _, _, _, _, _, _, _, _, _, _, _, _, _, _, _, _, _, _, _, _, _, _, _, _, _, _, _, rfl⟩
      have hcs : Hid (s.cells.toArray = #[.int .i64 kd, .string x, .string y, .string name, .int .i64 tk, .string tc, .int .i64 tn, .int .i64 k0, .int .i64 n0, .int .i64 k1, .int .i64 n1, .int .i64 k2, .int .i64 n2, .int .i64 k3, .int .i64 n3, .int .i64 ek, .int .i64 en, .string ename, .slice eA kids.length ec, .slice aA args.length ac, .slice bA body.length bc, .slice lA els.length lc, .int .i64 pos]) := by rw [hse.out]; rfl
      have eb : Hid (s.body = body) := by rw [hse.out]; rfl
      have el : Hid (s.els = els) := by rw [hse.out]; rfl
      have ek' : Hid (s.k = kd) := by rw [hse.out]; rfl
      have IHb : Hid (Bodies body) := by rw [← eb.out]; exact IHs.out.1
      have IHl : Hid (Bodies els) := by rw [← el.out]; exact IHs.out.2
      obtain ⟨hbody, hels⟩ : Hid (Lies w0 23 St.cells bA body ∧ body.length ≤ bc ∧ bc ≤ maxLen ∧ ∀ s ∈ body, StIn w0 s) ∧ Hid (Lies w0 23 St.cells lA els ∧ els.length ≤ lc ∧ lc ≤ maxLen ∧ ∀ s ∈ els, StIn w0 s) := by
        have h := hs.out
        rw [hse.out] at h
        cases h with
        | mk he ha hac ham hai hb hbc hbm hbi hl hlc hlm hli hs => exact ⟨⟨hb, hbc, hbm, hbi⟩, ⟨hl, hlc, hlm, hli⟩⟩
      clear IHs hs
      obtain ⟨x0, rfl⟩ := hD.out.ext0 hgb HV.out HB.out
      go_upto_region 2 with fail
      go_cut [5] (fun u W => ∃ (p : Nat) (v' : Value), u = .pointer (some ⟨p, 0, none⟩) ∧ Hid (At w0 w g p v #[.int .i64 kd, .string x, .string y, .string name, .int .i64 tk, .string tc, .int .i64 tn, .int .i64 k0, .int .i64 n0, .int .i64 k1, .int .i64 n1, .int .i64 k2, .int .i64 n2, .int .i64 k3, .int .i64 n3, .int .i64 ek, .int .i64 en, .string ename, .slice eA kids.length ec, .slice aA args.length ac, .slice bA body.length bc, .slice lA els.length lc, .int .i64 pos] acc' W v'))
      case first =>
        as_aux_lemma =>
          have hcell : ∀ j u, s.cells.toArray[j]? = some u → w0.cell? ⟨b, off + k * 23 + j, none⟩ = some u := fun j u h => hcell'.out j u (by simpa using h)
          rw [hcs.out] at hcell
          have hrange : Hid (x0.val.rangeAt b (off + k * 23) #[.int .i64 kd, .string x, .string y, .string name, .int .i64 tk, .string tc, .int .i64 tn, .int .i64 k0, .int .i64 n0, .int .i64 k1, .int .i64 n1, .int .i64 k2, .int .i64 n2, .int .i64 k3, .int .i64 n3, .int .i64 ek, .int .i64 en, .string ename, .slice eA kids.length ec, .slice aA args.length ac, .slice bA body.length bc, .slice lA els.length lc, .int .i64 pos].toList) := fun j u h => (x0.cell hb).trans (hcell j u (by simpa using h))
          have hone : Hid (∀ u ∈ (#[.int .i64 kd, .string x, .string y, .string name, .int .i64 tk, .string tc, .int .i64 tn, .int .i64 k0, .int .i64 n0, .int .i64 k1, .int .i64 n1, .int .i64 k2, .int .i64 n2, .int .i64 k3, .int .i64 n3, .int .i64 ek, .int .i64 en, .string ename, .slice eA kids.length ec, .slice aA args.length ac, .slice bA body.length bc, .slice lA els.length lc, .int .i64 pos] : Array Value).toList, u.oneCell' = true) := by
            intro u hu
            rw [← hcs.out] at hu
            exact Ins.cells_one ⟨0, s, 0⟩ u (by simp [Ins.cells]; exact .inr (.inl (by simpa using hu)))
          clear hcell
          go_wp2_with (first | (refine wpList_load_mid rfl 41 (.tmp 13) rfl b (off + k * 23) rfl #[.int .i64 kd, .string x, .string y, .string name, .int .i64 tk, .string tc, .int .i64 tn, .int .i64 k0, .int .i64 n0, .int .i64 k1, .int .i64 n1, .int .i64 k2, .int .i64 n2, .int .i64 k3, .int .i64 n3, .int .i64 ek, .int .i64 en, .string ename, .slice eA kids.length ec, .slice aA args.length ac, .slice bA body.length bc, .slice lA els.length lc, .int .i64 pos].toList _ hrange.out Try.underlying41 rfl (by kernel_rfl) ?_; simp only [Array.toArray_toList]) | (refine wpList_store_new rfl 41 (.tmp 5) (.tmp 14) rfl _ _ _ _ rfl rfl rfl (by kernel_rfl) rfl hone.out ?_))
          go_meet
          case rel =>
            obtain ⟨v', hv'⟩ := At.start _ hD.out hg hgb HV.out HB.out
            exact ⟨_, v', rfl, hv'⟩
      case rest =>
        clear hcell' hD
        obtain ⟨p, v', rfl, hA⟩ := hcut
        have c0 : wc.cell? ⟨p, 0, none⟩ = some (.int .i64 kd) := (cell_of_row wc p 0 _ _ _ hA.out.box).trans rfl
        have hN1 : Hid (acc'.length < 400000000000) := by have := hTN.out; show _ < _; omega
        by_cases hk9' : kd = 9
        · have hk9b : (kd == 9) = true := beq_iff_eq.2 hk9'
          have hk9 := hide hk9'
          clear hk9'
          by_cases hel : (0 : Int) < (els.length : Int)
          · as_aux_lemma =>
              have hl1 : Hid (acc'.length + 1 + (codeList body (acc'.length + 1)).length + 1 + (codeList els (acc'.length + 1 + (codeList body (acc'.length + 1)).length + 1)).length < 400000000000) := by
                have := hTN.out
                rw [codeOne_else (ek'.out.trans hk9.out) (by rw [el.out]; omega), eb.out, el.out] at this
                simp only [List.length_cons, List.length_append] at this
                show _ < _
                omega
              have EQ := hide (codeOne_else (s := s) (ek'.out.trans hk9.out) (by rw [el.out]; omega) acc'.length)
              rw [eb.out, el.out] at EQ
              go_wp2_with (refine wpList_load_row rfl 41 (.tmp 5) rfl p rfl 41 #[.int .i64 kd, .string x, .string y, .string name, .int .i64 tk, .string tc, .int .i64 tn, .int .i64 k0, .int .i64 n0, .int .i64 k1, .int .i64 n1, .int .i64 k2, .int .i64 n2, .int .i64 k3, .int .i64 n3, .int .i64 ek, .int .i64 en, .string ename, .slice eA kids.length ec, .slice aA args.length ac, .slice bA body.length bc, .slice lA els.length lc, .int .i64 pos] _ _ hA.out.box Try.underlying41 rfl (by kernel_rfl) ?_)
              refine (At.put hA.out hgb 2 0 s _ hcs.out.symm acc'.length rfl hN1.out).mono ?_
              rintro _ w1 ⟨rfl, v1, hA1⟩
              clear c0
              have c20 : w1.cell? ⟨p, 20, none⟩ = some (.slice bA body.length bc) := (cell_of_row w1 p 20 _ _ _ hA1.out.box).trans rfl
              go_wp2_with fail
              refine (At.body IHb.out hA1.out hgb hbody.out.2.2.2 hbody.out.1 hbody.out.2.1 hbody.out.2.2.1 (by have := hl1.out; simp at this ⊢; omega)).mono ?_
              rintro _ w2 ⟨rfl, v2, hA2'⟩
              have hA2 := At.eq hA2' (acc' := acc' ++ ⟨2, bare s, 0⟩ :: codeList body (acc'.length + 1)) (by simp)
              clear hA2' hA1 c20 IHb hbody
              have c21 : w2.cell? ⟨p, 21, none⟩ = some (.slice lA els.length lc) := (cell_of_row w2 p 21 _ _ _ hA2.out.box).trans rfl
              obtain ⟨L3, hL3⟩ : ∃ L : Nat, Hid ((acc' ++ ⟨2, bare s, 0⟩ :: codeList body (acc'.length + 1)).length = L) := ⟨_, rfl⟩
              go_wp2_with fail
              refine (At.put hA2.out hgb 3 0 St.zero _ rfl L3 hL3.out (by have := hl1.out; have := hL3.out; simp at this; omega)).mono ?_
              rintro _ w3 ⟨rfl, v3, hA3'⟩
              have hA3 := At.eq hA3' (acc' := acc' ++ ⟨2, bare s, 0⟩ :: (codeList body (acc'.length + 1) ++ [⟨3, St.zero, 0⟩])) (by simp [St.zero, bare])
              clear hA3' hA2 c21
              go_wp2_with fail
              refine (At.here hA3.out hgb acc'.length rfl).mono ?_
              rintro _ w4 ⟨rfl, v4, hA4⟩
              clear hA3
              have c21 : w4.cell? ⟨p, 21, none⟩ = some (.slice lA els.length lc) := (cell_of_row w4 p 21 _ _ _ hA4.out.box).trans rfl
              go_wp2_with fail
              have hl2 : (acc' ++ (⟨2, bare s, (acc'.length + 1 + (codeList body (acc'.length + 1) ++ [(⟨3, St.zero, 0⟩ : Ins)]).length : Nat)⟩ : Ins) :: (codeList body (acc'.length + 1) ++ [(⟨3, St.zero, 0⟩ : Ins)])).length = acc'.length + 1 + (codeList body (acc'.length + 1)).length + 1 := by simp; omega
              refine (At.body IHl.out hA4.out hgb hels.out.2.2.2 hels.out.1 hels.out.2.1 hels.out.2.2.1 (by rw [hl2]; exact hl1.out)).mono ?_
              clear hl2
              rintro _ w5 ⟨rfl, v5, hA5'⟩
              have hA5 := At.eq hA5' (acc' := (acc' ++ ⟨2, bare s, (acc'.length + 1 + (codeList body (acc'.length + 1)).length + 1 : Nat)⟩ :: codeList body (acc'.length + 1)) ++ ⟨3, St.zero, 0⟩ :: codeList els (acc'.length + 1 + (codeList body (acc'.length + 1)).length + 1)) (by
                have e : (acc' ++ (⟨2, bare s, (acc'.length + 1 + (codeList body (acc'.length + 1) ++ [(⟨3, St.zero, 0⟩ : Ins)]).length : Nat)⟩ : Ins) :: (codeList body (acc'.length + 1) ++ [(⟨3, St.zero, 0⟩ : Ins)])).length = acc'.length + 1 + (codeList body (acc'.length + 1)).length + 1 := by simp; omega
                rw [e]
                simp
                omega)
              clear hA5' hA4 c21 IHl hels
              go_wp2_with fail
              refine (At.here hA5.out hgb L3 (by rw [← hL3.out]; simp)).mono ?_
              rintro _ w6 ⟨rfl, v6, hFin⟩
              clear hA5
              go_wp2_with fail
              go_roundg (l.length - (k + 1))
              case measure => have := hlt9.out; omega
              case rel =>
                have hF := At.round hFin.out hT' (by rw [EQ.out]; simp; omega)
                exact ⟨k + 1, _, Nat.succ_le_of_lt hlt9.out, rfl, by rw [HKW.out], hF.1, hF.2⟩
          · as_aux_lemma =>
              have EQ := hide (codeOne_if (s := s) (ek'.out.trans hk9.out) (by rw [el.out]; omega) acc'.length)
              rw [eb.out] at EQ
              have hl1 : Hid (acc'.length + 1 + (codeList body (acc'.length + 1)).length < 400000000000) := by
                have := hTN.out
                rw [EQ.out] at this
                simp only [List.length_cons] at this
                show _ < _
                omega
              go_wp2_with (refine wpList_load_row rfl 41 (.tmp 5) rfl p rfl 41 #[.int .i64 kd, .string x, .string y, .string name, .int .i64 tk, .string tc, .int .i64 tn, .int .i64 k0, .int .i64 n0, .int .i64 k1, .int .i64 n1, .int .i64 k2, .int .i64 n2, .int .i64 k3, .int .i64 n3, .int .i64 ek, .int .i64 en, .string ename, .slice eA kids.length ec, .slice aA args.length ac, .slice bA body.length bc, .slice lA els.length lc, .int .i64 pos] _ _ hA.out.box Try.underlying41 rfl (by kernel_rfl) ?_)
              refine (At.put hA.out hgb 2 0 s _ hcs.out.symm acc'.length rfl hN1.out).mono ?_
              rintro _ w1 ⟨rfl, v1, hA1⟩
              clear c0
              have c20 : w1.cell? ⟨p, 20, none⟩ = some (.slice bA body.length bc) := (cell_of_row w1 p 20 _ _ _ hA1.out.box).trans rfl
              go_wp2_with fail
              refine (At.body IHb.out hA1.out hgb hbody.out.2.2.2 hbody.out.1 hbody.out.2.1 hbody.out.2.2.1 (by have := hl1.out; simp at this ⊢; omega)).mono ?_
              rintro _ w2 ⟨rfl, v2, hA2'⟩
              have hA2 := At.eq hA2' (acc' := acc' ++ ⟨2, bare s, 0⟩ :: codeList body (acc'.length + 1)) (by simp)
              clear hA2' hA1 c20 IHb hbody
              have c21 : w2.cell? ⟨p, 21, none⟩ = some (.slice lA els.length lc) := (cell_of_row w2 p 21 _ _ _ hA2.out.box).trans rfl
              go_wp2_with fail
              refine (At.here hA2.out hgb acc'.length rfl).mono ?_
              rintro _ w6 ⟨rfl, v6, hFin⟩
              clear hA2 c21
              go_wp2_with fail
              go_roundg (l.length - (k + 1))
              case measure => have := hlt9.out; omega
              case rel =>
                have hF := At.round hFin.out hT' (by rw [EQ.out])
                exact ⟨k + 1, _, Nat.succ_le_of_lt hlt9.out, rfl, by rw [HKW.out], hF.1, hF.2⟩
        · have hk9b : (kd == 9) = false := beq_eq_false_iff_ne.2 hk9'
          have hk9 := hide hk9'
          clear hk9'
          by_cases hk10' : kd = 10
          · have hk10b : (kd == 10) = true := beq_iff_eq.2 hk10'
            have hk10 := hide hk10'
            clear hk10'
            as_aux_lemma =>
              have EQ := hide (codeOne_while (s := s) (ek'.out.trans hk10.out) acc'.length)
              rw [eb.out] at EQ
              have hl1 : Hid (acc'.length + 1 + (codeList body (acc'.length + 1)).length + 1 < 400000000000) := by
                have := hTN.out
                rw [EQ.out] at this
                simp only [List.length_cons, List.length_append, List.length_nil] at this
                show _ < _
                omega
              go_wp2_with (refine wpList_load_row rfl 41 (.tmp 5) rfl p rfl 41 #[.int .i64 kd, .string x, .string y, .string name, .int .i64 tk, .string tc, .int .i64 tn, .int .i64 k0, .int .i64 n0, .int .i64 k1, .int .i64 n1, .int .i64 k2, .int .i64 n2, .int .i64 k3, .int .i64 n3, .int .i64 ek, .int .i64 en, .string ename, .slice eA kids.length ec, .slice aA args.length ac, .slice bA body.length bc, .slice lA els.length lc, .int .i64 pos] _ _ hA.out.box Try.underlying41 rfl (by kernel_rfl) ?_)
              refine (At.put hA.out hgb 2 0 s _ hcs.out.symm acc'.length rfl hN1.out).mono ?_
              rintro _ w1 ⟨rfl, v1, hA1⟩
              clear c0
              have c20 : w1.cell? ⟨p, 20, none⟩ = some (.slice bA body.length bc) := (cell_of_row w1 p 20 _ _ _ hA1.out.box).trans rfl
              go_wp2_with fail
              refine (At.body IHb.out hA1.out hgb hbody.out.2.2.2 hbody.out.1 hbody.out.2.1 hbody.out.2.2.1 (by have := hl1.out; simp at this ⊢; omega)).mono ?_
              rintro _ w2 ⟨rfl, v2, hA2'⟩
              have hA2 := At.eq hA2' (acc' := acc' ++ ⟨2, bare s, 0⟩ :: codeList body (acc'.length + 1)) (by simp)
              clear hA2' hA1 c20 IHb hbody
              obtain ⟨L3, hL3⟩ : ∃ L : Nat, Hid ((acc' ++ ⟨2, bare s, 0⟩ :: codeList body (acc'.length + 1)).length = L) := ⟨_, rfl⟩
              go_wp2_with fail
              refine (At.put hA2.out hgb 3 acc'.length St.zero _ rfl L3 hL3.out (by have := hl1.out; have := hL3.out; simp at this; omega)).mono ?_
              rintro _ w3 ⟨rfl, v3, hA3'⟩
              have hA3 := At.eq hA3' (acc' := acc' ++ ⟨2, bare s, 0⟩ :: (codeList body (acc'.length + 1) ++ [⟨3, St.zero, acc'.length⟩])) (by simp [St.zero, bare])
              clear hA3' hA2
              go_wp2_with fail
              refine (At.here hA3.out hgb acc'.length rfl).mono ?_
              rintro _ w6 ⟨rfl, v6, hFin⟩
              clear hA3
              go_wp2_with fail
              go_roundg (l.length - (k + 1))
              case measure => have := hlt9.out; omega
              case rel =>
                have hF := At.round hFin.out hT' (by rw [EQ.out]; simp; omega)
                exact ⟨k + 1, _, Nat.succ_le_of_lt hlt9.out, rfl, by rw [HKW.out], hF.1, hF.2⟩
          · have hk10b : (kd == 10) = false := beq_eq_false_iff_ne.2 hk10'
            have hk10 := hide hk10'
            clear hk10'
            as_aux_lemma =>
              have EQ := hide (codeOne_do (s := s) (fun h => hk9.out (ek'.out.symm.trans h)) (fun h => hk10.out (ek'.out.symm.trans h)) acc'.length)
              go_wp2_with (refine wpList_load_row rfl 41 (.tmp 5) rfl p rfl 41 #[.int .i64 kd, .string x, .string y, .string name, .int .i64 tk, .string tc, .int .i64 tn, .int .i64 k0, .int .i64 n0, .int .i64 k1, .int .i64 n1, .int .i64 k2, .int .i64 n2, .int .i64 k3, .int .i64 n3, .int .i64 ek, .int .i64 en, .string ename, .slice eA kids.length ec, .slice aA args.length ac, .slice bA body.length bc, .slice lA els.length lc, .int .i64 pos] _ _ hA.out.box Try.underlying41 rfl (by kernel_rfl) ?_)
              refine (At.put hA.out hgb 1 0 s _ hcs.out.symm acc'.length rfl hN1.out).mono ?_
              rintro _ w1 ⟨rfl, v1, hFin⟩
              clear c0
              go_wp2_with fail
              go_roundg (l.length - (k + 1))
              case measure => have := hlt9.out; omega
              case rel =>
                have hF := At.round hFin.out hT' (by rw [EQ.out])
                exact ⟨k + 1, _, Nat.succ_le_of_lt hlt9.out, rfl, by rw [HKW.out], hF.1, hF.2⟩
    · have e := hide (Nat.le_antisymm hk (Nat.le_of_not_lt hlt))
      as_aux_lemma =>
        have hlt' : ¬ (k : Int) < (l.length : Int) := by omega
        have hF := hide (fun W (hW : Wrote w0.heap.size g w v acc' W) => (show Wrote w0.heap.size g w v (acc ++ codeList l acc.length) W by rw [hT.out, e.out, List.drop_length]; simpa [codeList] using hW))
        go_wp2_with fail
        go_end0
        exact ⟨rfl, hF.out _ hD.out⟩
end Go.Proofs.Ytlgnjbocdmbeiaa
