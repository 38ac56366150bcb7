import Derived.Test.YtfebpmaaaiaccaaRows
import Derived.Test.YtfebpmaaaiaccaaData
set_option linter.unusedSimpArgs false
set_option linter.unusedVariables false
namespace Go.Proofs.Ytfebpmaaaiaccaa
open Go.RowKit Go.Proofs.Grow

def far (k : Int) : Int := if k = 5 ∨ k = 6 then 1 else if k = 1 then 2 else if k = 2 then 3 else if k = 3 then 4 else if k = 4 then 5 else 0
def isIn (k n l m : Int) : Bool := if far k = 0 ∨ far l = 0 then false else if far k = 1 then far l == 5 else if far k = far l then (far k != 4) || n == m else decide (far k < far l)

theorem far_any (k n : Int) (w : World) : Gives Try.prog 30 #[.agg #[.int .i64 k, .int .i64 n]] w (.int .i64 (far k)) := by
  refine Gives.mk ?_
  go_enter Try.func30, Try.ntmps30
  go_wp2
  all_goals
    go_ret
    refine ⟨?_, (Below.refl _ _).alloc (Nat.le_refl _) _⟩
    simp_all [far]

set_option maxHeartbeats 400000 in
theorem is_any (k n l m : Int) (w : World) : Gives Try.prog 9 #[.agg #[.int .i64 k, .int .i64 n], .agg #[.int .i64 l, .int .i64 m]] w (.bool (isIn k n l m)) := by
  refine Gives.mk ?_
  go_enter Try.func9, Try.ntmps9
  go_wp2_with fail
  refine wp_region_ext (by kernel_rfl) (by kernel_rfl) ?_
  repeat (go_big_quiet_step ((first | exact (far_any _ _ _).ext)))
  refine wpQuiet_nil ?_
  intro _ hw'
  obtain ⟨x, hw''⟩ := hw'
  subst hw''
  go_wp2
  all_goals
    go_ret
    refine ⟨?_, below_ext (((Below.refl _ _).alloc (Nat.le_refl _) _).alloc (by simp) _) (by simp; omega) _⟩
  all_goals first | (simp_all [isIn]; done) | (simp_all [isIn]; omega)
/-- The first index at which p holds, from i on; -1: none. -/
def idx {α : Type} (p : α → Bool) : List α → Nat → Int
  | [], _ => -1
  | a :: l, i => if p a then i else idx p l (i + 1)


set_option maxHeartbeats 400000 in
theorem indexFunc_any (w : World) (A : Option Addr) (c : Nat) (cap : Value) (l : List Ow) (p : Ow → Bool) (hl : l.length ≤ 9223372036854775807)
   (hs : Lies w 2 Ow.cells A l)
   (hp : ∀ x : Ext w, ∀ o ∈ l, Gives Try.prog 32 #[.agg #[.int .i64 o.k, .int .i64 o.n], cap] x.val (.bool (p o))) :
   Gives Try.prog 46 #[.slice A l.length c, .func (.func 32) #[] #[cap]] w (.int .i64 (idx p l 0)) := by
  refine Gives.mk ?_
  have Hp := hide hp
  have Hs := hide hs
  clear hp hs
  go_enter Try.func46, Try.ntmps46
  go_wp2_with fail
  go_loopw [8] (fun i wr => ∃ k : Nat, k ≤ l.length ∧ i = .int .i64 k ∧ (∃ x : Ext w, wr = x.val) ∧ idx p l 0 = idx p (l.drop k) k) (fun i _ => l.length - (intOf i).toNat)
  case atStart => exact ⟨0, Nat.zero_le _, rfl, ⟨Ext.here w, rfl⟩, rfl⟩
  case round =>
    obtain ⟨k, hk, rfl, ⟨x, rfl⟩, hi⟩ := hrel
    by_cases hlt : k < l.length
    · obtain ⟨b, off, rfl, hb, hcell⟩ := Hs.out k hlt
      have h0 : w.cell? ⟨b, off + k * 2, none⟩ = _ := hcell 0 _ rfl
      have h1 : w.cell? ⟨b, off + k * 2 + 1, none⟩ = _ := hcell 1 _ rfl
      clear hcell
      have hpk := Hp.out x l[k] (List.getElem_mem hlt)
      have hn : idx p l 0 = if p l[k] then (k : Int) else idx p (l.drop (k+1)) (k+1) := by
        rw [hi, List.drop_eq_getElem_cons hlt, idx]
      have Hn := hide hn
      clear hn hi
      go_wp2_with (go_at_call 32; refine hpk.mono ?_; rintro _ _ ⟨y, rfl, rfl⟩)
      · go_ret
        have hh : p l[k] = true := by assumption
        exact ⟨ret_int (by rw [Hn.out, if_pos hh]), (x.over y).elim fun z hz => hz ▸ z.below⟩
      · go_roundw
        case rel =>
          have hh : p l[k] = false := by assumption
          exact ⟨k + 1, hlt, by go_num, x.over y, by rw [Hn.out, hh]; rfl⟩
        case measure => simp [intOf]; omega
    · go_wp2
      go_ret
      have : k = l.length := by omega
      exact ⟨ret_int (by rw [hi, this]; simp [idx]), x.below⟩

theorem containsFunc_any (w : World) (A : Option Addr) (c : Nat) (cap : Value) (l : List Ow) (p : Ow → Bool) (hl : l.length ≤ 9223372036854775807)
   (hs : Lies w 2 Ow.cells A l)
   (hp : ∀ x : Ext w, ∀ o ∈ l, Gives Try.prog 32 #[.agg #[.int .i64 o.k, .int .i64 o.n], cap] x.val (.bool (p o))) :
   Gives Try.prog 31 #[.slice A l.length c, .func (.func 32) #[] #[cap]] w (.bool (l.any p)) := by
  refine Gives.mk ?_
  have hi := indexFunc_any w A c cap l p hl hs hp
  clear hp hs
  go_enter Try.func31, Try.ntmps31
  go_wp2_with (go_at_call 46; refine hi.mono ?_; rintro _ _ ⟨y, rfl, rfl⟩)
  go_ret
  refine ⟨ret_bool ?_, y.below⟩
  have key : ∀ (l : List Ow) (i : Nat), decide (0 ≤ idx p l i) = l.any p := by
    intro l
    induction l with
    | nil => intro i; rfl
    | cons a l ih => intro i; by_cases h : p a = true <;> simp [idx, h, ih]
  simpa using key l 0

theorem all1_any (w : World) (o q : Ow) (b off n c b' : Nat) (hb : b < w.heap.size) (hb' : b' < w.heap.size) (hn : 0 < n)
   (hl : w.cell? ⟨b', 0, none⟩ = some (.slice (some ⟨b, off, none⟩) n c))
   (h0 : w.cell? ⟨b, off, none⟩ = some (.int .i64 q.k)) (h1 : w.cell? ⟨b, off + 1, none⟩ = some (.int .i64 q.n)) :
   Gives Try.prog 32 #[.agg #[.int .i64 o.k, .int .i64 o.n], .pointer (some ⟨b', 0, none⟩)] w (.bool (!isIn q.k q.n o.k o.n)) := by
  refine Gives.mk ?_
  have hn' : (0 : Int) < (n : Int) := by omega
  go_enter Try.func32, Try.ntmps32
  go_wp2_with fail
  refine wp_region_ext (by kernel_rfl) (by kernel_rfl) ?_
  repeat (go_big_quiet_step ((first | exact (is_any _ _ _ _ _).ext)))
  refine wpQuiet_nil ?_
  intro _ hw'
  obtain ⟨x, hw''⟩ := hw'
  subst hw''
  go_wp2
  go_ret
  exact ⟨rfl, below_ext ((Below.refl _ _).alloc (Nat.le_refl _) _) (by simp) x⟩

/-- The first is inside all others. -/
def allIn : List Ow → Bool
  | [] => true
  | q :: l => !l.any fun o => !isIn q.k q.n o.k o.n

theorem all_any (w : World) (A : Option Addr) (c : Nat) (l : List Ow) (hl : l.length ≤ 9223372036854775807) (hc : l.length ≤ c)  (hs : Lies w 2 Ow.cells A l) :
   Gives Try.prog 10 #[.slice A l.length c] w (.bool (allIn l)) := by
  refine Gives.mk ?_
  cases l with
  | nil =>
    go_enter Try.func10, Try.ntmps10
    go_wp2_with fail
    go_ret
    exact ⟨rfl, (Below.refl _ _).alloc (Nat.le_refl _) _⟩
  | cons q l =>
    obtain ⟨b, off, rfl, hb, hcell⟩ := hs 0 (by simp)
    have h0 := hcell 0 _ rfl
    have h1 := hcell 1 _ rfl
    simp only [Nat.zero_mul, Nat.add_zero] at h0 h1
    let w1 := w.alloc (.cells #[.slice (some ⟨b, off, none⟩) (l.length + 1) c] 27)
    have hp : ∀ x : Ext w1, ∀ o ∈ l, Gives Try.prog 32 #[.agg #[.int .i64 o.k, .int .i64 o.n], .pointer (some ⟨w.heap.size, 0, none⟩)] x.val (.bool (!isIn q.k q.n o.k o.n)) := fun x o _ => by
      refine all1_any x.val o q b off (l.length + 1) c w.heap.size (x.lt (by simp [w1]; omega)) (x.lt (by simp [w1])) (by omega) ?_ ?_ ?_
      · simp [w1, go_sem]
      · simp [w1, go_sem, h0, hb]
      · simp [w1, go_sem, h1, hb]
    have hcut := (hs.cut (k := 1) (c := c) (by simp) (by simpa using hc)).alloc (.cells #[.slice (some ⟨b, off, none⟩) (l.length + 1) c] 27)
    have H1 := fun A' c' h => containsFunc_any w1 A' c' (.pointer (some ⟨w.heap.size, 0, none⟩)) l (fun o => !isIn q.k q.n o.k o.n) (by simp at hl; omega) h hp
    have HH := hide (And.intro H1 hcut)
    have hz : (((l.length : Int) + 1) == 0) = false := by simp; omega
    clear hcut hp H1 hs hcell
    by_cases hc1 : c = 1
    · subst hc1
      have HH := hide (HH.out.1 _ 0 (by simpa using HH.out.2))
      go_enter Try.func10, Try.ntmps10
      go_wp2_with (go_at_call 31; refine HH.out.mono ?_; rintro _ _ ⟨y, rfl, rfl⟩)
      go_ret
      exact ⟨ret_bool (by simp [allIn]), below_ext ((Below.refl _ _).alloc (Nat.le_refl _) _) (by simp [w1]) y⟩
    · have HH := hide (HH.out.1 (some ⟨b, off + 2, none⟩) (c - 1) (by simpa [hc1, Addr.add] using HH.out.2))
      go_enter Try.func10, Try.ntmps10
      go_wp2_with (go_at_call 31; refine HH.out.mono ?_; rintro _ _ ⟨y, rfl, rfl⟩)
      go_ret
      exact ⟨ret_bool (by simp [allIn]), below_ext ((Below.refl _ _).alloc (Nat.le_refl _) _) (by simp [w1]) y⟩
end Go.Proofs.Ytfebpmaaaiaccaa
