/- What a way through statements meets, and that the code's way meets the same: plain law. -/
import Derived.Test.YtlgnjbocdmbeiaaBodyAll
import Derived.Test.YtlgnjbocdmbeiaaMeArgs
set_option linter.unusedSimpArgs false
set_option linter.unusedVariables false
namespace Go.Proofs.Ytlgnjbocdmbeiaa
open Go.RowKit Go.Proofs.Grow

/-- A way: the turns left, what was met, whether it went back. -/
structure Wy where
  turns : List Bool
  met : List Int
  back : Bool

mutual
def wayL (n : Nat) (l : List St) (w : Wy) : Wy :=
  match l with
  | [] => w
  | s :: l => if w.back then w else wayL n l (wayS n s w)
termination_by (n, SizeOf.sizeOf l)
def wayS (n : Nat) (s : St) (w : Wy) : Wy :=
  match s with
  | .mk k x y name ty e aA ac args bA bc body eA ec els pos =>
    if k = 9 then
      if w.turns.headD false then wayL n body ⟨w.turns.tail, w.met ++ [k], false⟩ else wayL n els ⟨w.turns.tail, w.met ++ [k], false⟩
    else if k = 10 then wayW n k body ⟨w.turns, w.met ++ [k], false⟩
    else ⟨w.turns, w.met ++ [k], k == 11⟩
termination_by (n, SizeOf.sizeOf s)
decreasing_by all_goals (simp_wf; omega)
def wayW (n : Nat) (k : Int) (body : List St) (w : Wy) : Wy :=
  match n with
  | 0 => ⟨w.turns.tail, w.met, false⟩
  | n + 1 =>
    if w.turns.headD false then
      if (wayL n body ⟨w.turns.tail, w.met, false⟩).back then wayL n body ⟨w.turns.tail, w.met, false⟩
      else wayW n k body ⟨(wayL n body ⟨w.turns.tail, w.met, false⟩).turns, (wayL n body ⟨w.turns.tail, w.met, false⟩).met ++ [k], false⟩
    else ⟨w.turns.tail, w.met, false⟩
termination_by (n, SizeOf.sizeOf body)
end

theorem wayL_nil (n : Nat) (w : Wy) : wayL n [] w = w := by rw [wayL]
theorem wayL_cons (n : Nat) (s : St) (l : List St) (w : Wy) : wayL n (s :: l) w = if w.back then w else wayL n l (wayS n s w) := by rw [wayL]
theorem wayL_back (n : Nat) (l : List St) (w : Wy) (h : w.back = true) : wayL n l w = w := by
  cases l with
  | nil => exact wayL_nil n w
  | cons s l => rw [wayL_cons, if_pos h]
theorem wayS_if {n : Nat} {s : St} {w : Wy} (h : s.k = 9) : wayS n s w = if w.turns.headD false then wayL n s.body ⟨w.turns.tail, w.met ++ [s.k], false⟩ else wayL n s.els ⟨w.turns.tail, w.met ++ [s.k], false⟩ := by
  obtain ⟨k, x, y, name, ty, e, aA, ac, args, bA, bc, body, eA, ec, els, pos⟩ := s
  simp only [St.k, St.els, St.body] at h ⊢
  rw [wayS, if_pos h]
theorem wayS_while {n : Nat} {s : St} {w : Wy} (h : s.k = 10) : wayS n s w = wayW n s.k s.body ⟨w.turns, w.met ++ [s.k], false⟩ := by
  obtain ⟨k, x, y, name, ty, e, aA, ac, args, bA, bc, body, eA, ec, els, pos⟩ := s
  simp only [St.k, St.els, St.body] at h ⊢
  rw [wayS, if_neg (by omega), if_pos h]
theorem wayS_do {n : Nat} {s : St} {w : Wy} (h : s.k ≠ 9) (h2 : s.k ≠ 10) : wayS n s w = ⟨w.turns, w.met ++ [s.k], s.k == 11⟩ := by
  obtain ⟨k, x, y, name, ty, e, aA, ac, args, bA, bc, body, eA, ec, els, pos⟩ := s
  simp only [St.k, St.els, St.body] at h h2 ⊢
  rw [wayS, if_neg h, if_neg h2]
theorem wayW_no {n : Nat} {k : Int} {body : List St} {w : Wy} (h : w.turns.headD false = false) : wayW n k body w = ⟨w.turns.tail, w.met, false⟩ := by
  cases n with
  | zero => rw [wayW]
  | succ n => rw [wayW, if_neg (by rw [h]; simp)]
theorem wayW_yes {n : Nat} {k : Int} {body : List St} {w : Wy} (h : w.turns.headD false = true) : wayW (n + 1) k body w = if (wayL n body ⟨w.turns.tail, w.met, false⟩).back then wayL n body ⟨w.turns.tail, w.met, false⟩
      else wayW n k body ⟨(wayL n body ⟨w.turns.tail, w.met, false⟩).turns, (wayL n body ⟨w.turns.tail, w.met, false⟩).met ++ [k], false⟩ := by
  rw [wayW, if_pos h]
theorem head_some {l : List Bool} (h : l.headD false = true) : l.tail.length + 1 = l.length := by
  cases l with
  | nil => cases h
  | cons a l => rfl

/-- How much is met: the turns say. -/
def Much (w w' : Wy) (m : Nat) : Prop := w'.turns.length ≤ w.turns.length ∧ w.met.length ≤ w'.met.length ∧ w'.met.length ≤ w.met.length + m * (w.turns.length - w'.turns.length + 1)
def MuchW (w w' : Wy) (m : Nat) : Prop := w'.turns.length ≤ w.turns.length ∧ w.met.length ≤ w'.met.length ∧ w'.met.length ≤ w.met.length + m * (w.turns.length - w'.turns.length)
theorem Much.trans {a b c : Wy} {m1 m2 : Nat} (h1 : Much a b m1) (h2 : Much b c m2) : Much a c (m1 + m2) := by
  obtain ⟨x1, x2, x3⟩ := h1
  obtain ⟨y1, y2, y3⟩ := h2
  refine ⟨Nat.le_trans y1 x1, Nat.le_trans x2 y2, ?_⟩
  have e1 : m1 * (a.turns.length - b.turns.length + 1) ≤ m1 * (a.turns.length - c.turns.length + 1) := Nat.mul_le_mul_left _ (by omega)
  have e2 : m2 * (b.turns.length - c.turns.length + 1) ≤ m2 * (a.turns.length - c.turns.length + 1) := Nat.mul_le_mul_left _ (by omega)
  rw [Nat.add_mul]
  omega

theorem _root_.Go.Proofs.Grow.St.wt_eq (s : St) : s.wt = 1 + wtAll s.body + wtAll s.els := by cases s; simp [St.wt, St.body, St.els]
theorem _root_.Go.Proofs.Grow.St.bs (s : St) : SizeOf.sizeOf s.body < SizeOf.sizeOf s := by cases s; simp [St.body]; omega
theorem _root_.Go.Proofs.Grow.St.es (s : St) : SizeOf.sizeOf s.els < SizeOf.sizeOf s := by cases s; simp [St.els]; omega

theorem muchW {n : Nat} {k : Int} {body : List St} (ih : ∀ m < n, ∀ w, w.turns.length ≤ m → Much w (wayL m body w) (wtAll body)) : ∀ (m : Nat), m ≤ n → ∀ w : Wy, w.turns.length ≤ m → MuchW w (wayW m k body w) (1 + wtAll body)
  | m, hm, w, hw => by
    by_cases h : w.turns.headD false = true
    · have ht := head_some h
      obtain ⟨m, rfl⟩ : ∃ j, m = j + 1 := ⟨m - 1, by omega⟩
      rw [wayW_yes h]
      have h1 := ih m (by omega) ⟨w.turns.tail, w.met, false⟩ (by show w.turns.tail.length ≤ m; omega)
      obtain ⟨x1, x2, x3⟩ := h1
      generalize wayL m body ⟨w.turns.tail, w.met, false⟩ = w2 at x1 x2 x3 ⊢
      simp only at x1 x2 x3
      have e3 : (1 + wtAll body) * (w.turns.tail.length - w2.turns.length + 1) = (w.turns.tail.length - w2.turns.length + 1) + wtAll body * (w.turns.tail.length - w2.turns.length + 1) := by rw [Nat.add_mul]; omega
      split
      · refine ⟨by omega, x2, ?_⟩
        have e1 : w.turns.length - w2.turns.length = w.turns.tail.length - w2.turns.length + 1 := by omega
        rw [e1]
        omega
      · obtain ⟨y1, y2, y3⟩ := muchW ih m (by omega) ⟨w2.turns, w2.met ++ [k], false⟩ (by show w2.turns.length ≤ m; omega)
        generalize wayW m k body ⟨w2.turns, w2.met ++ [k], false⟩ = w3 at y1 y2 y3 ⊢
        simp only [List.length_append, List.length_cons, List.length_nil] at y1 y2 y3
        refine ⟨by omega, by omega, ?_⟩
        have e1 : w.turns.length - w3.turns.length = (w.turns.tail.length - w2.turns.length + 1) + (w2.turns.length - w3.turns.length) := by omega
        rw [e1, Nat.mul_add]
        omega
    · rw [wayW_no (by simpa using h)]
      exact ⟨by simp, Nat.le_refl _, by simp⟩

theorem much_way (n : Nat) (l : List St) (w : Wy) (hw : w.turns.length ≤ n) : Much w (wayL n l w) (wtAll l) := by
  cases l with
  | nil => rw [wayL_nil]; exact ⟨Nat.le_refl _, Nat.le_refl _, by omega⟩
  | cons s l =>
    rw [wayL_cons, wtAll]
    split
    · exact ⟨Nat.le_refl _, Nat.le_refl _, by omega⟩
    · have hs : Much w (wayS n s w) s.wt := by
        have hsz := s.bs
        have hez := s.es
        by_cases h9 : s.k = 9
        · rw [wayS_if h9, s.wt_eq]
          split
          · rename_i ht
            have ht := head_some ht
            obtain ⟨x1, x2, x3⟩ := much_way n s.body ⟨w.turns.tail, w.met ++ [s.k], false⟩ (by show w.turns.tail.length ≤ n; omega)
            generalize wayL n s.body ⟨w.turns.tail, w.met ++ [s.k], false⟩ = w2 at x1 x2 x3 ⊢
            simp only [List.length_append, List.length_cons, List.length_nil] at x1 x2 x3
            refine ⟨by omega, by omega, ?_⟩
            have e1 : wtAll s.body * (w.turns.tail.length - w2.turns.length + 1) ≤ wtAll s.body * (w.turns.length - w2.turns.length + 1) := Nat.mul_le_mul_left _ (by omega)
            rw [Nat.add_mul, Nat.add_mul]
            omega
          · obtain ⟨x1, x2, x3⟩ := much_way n s.els ⟨w.turns.tail, w.met ++ [s.k], false⟩ (by show w.turns.tail.length ≤ n; rw [List.length_tail]; omega)
            generalize wayL n s.els ⟨w.turns.tail, w.met ++ [s.k], false⟩ = w2 at x1 x2 x3 ⊢
            simp only [List.length_append, List.length_cons, List.length_nil, List.length_tail] at x1 x2 x3
            refine ⟨by omega, by omega, ?_⟩
            have e1 : wtAll s.els * (w.turns.length - 1 - w2.turns.length + 1) ≤ wtAll s.els * (w.turns.length - w2.turns.length + 1) := Nat.mul_le_mul_left _ (by omega)
            rw [Nat.add_mul, Nat.add_mul]
            omega
        · by_cases h10 : s.k = 10
          · rw [wayS_while h10, s.wt_eq]
            obtain ⟨x1, x2, x3⟩ := muchW (n := n) (k := s.k) (body := s.body) (fun m hm w hw => much_way m s.body w hw) n (Nat.le_refl _) ⟨w.turns, w.met ++ [s.k], false⟩ hw
            generalize wayW n s.k s.body ⟨w.turns, w.met ++ [s.k], false⟩ = w2 at x1 x2 x3 ⊢
            simp only [List.length_append, List.length_cons, List.length_nil] at x1 x2 x3
            refine ⟨x1, by omega, ?_⟩
            rw [Nat.add_mul, Nat.mul_add]
            omega
          · rw [wayS_do h9 h10, s.wt_eq]
            refine ⟨Nat.le_refl _, by simp, ?_⟩
            simp only [List.length_append, List.length_cons, List.length_nil]
            rw [Nat.add_mul, Nat.add_mul]
            omega
      exact hs.trans (much_way n l (wayS n s w) (Nat.le_trans hs.1 hw))
termination_by (n, SizeOf.sizeOf l)
decreasing_by all_goals (simp_wf; omega)

theorem much_S (n : Nat) (s : St) (w : Wy) (hw : w.turns.length ≤ n) (hb : w.back = false) : Much w (wayS n s w) s.wt := by
  have h := much_way n [s] w hw
  rw [wayL_cons, if_neg (by rw [hb]; simp), wayL_nil, wtAll, wtAll] at h
  exact h
theorem much_W (n : Nat) (k : Int) (body : List St) (w : Wy) (hw : w.turns.length ≤ n) : MuchW w (wayW n k body w) (1 + wtAll body) :=
  muchW (n := n) (fun m _ w hw => much_way m body w hw) n (Nat.le_refl _) w hw

/-- The way through the code: at a place, with turns left: what is met yet, and whether it goes back. -/
inductive Path (L : List Ins) : Nat → List Bool → List Int → Bool → Prop
  | fin {p : Nat} {ts : List Bool} (h : p < L.length) (hk : L[p].k = 4) (he : p + 1 = L.length) : Path L p ts [] false
  | ret {p : Nat} {ts : List Bool} (h : p < L.length) (hk : L[p].k = 1) (hs : L[p].s.k = 11) : Path L p ts [11] true
  | go {p q : Nat} {ts : List Bool} {m : List Int} {b : Bool} (h : p < L.length) (hk : L[p].k = 1) (hs : L[p].s.k ≠ 11) (hn : next L (p + 1 : Nat) = q) (r : Path L q ts m b) : Path L p ts (L[p].s.k :: m) b
  | yes {p q : Nat} {ts : List Bool} {m : List Int} {b : Bool} (h : p < L.length) (hk : L[p].k = 2) (ht : ts.headD false = true) (hn : next L (p + 1 : Nat) = q) (r : Path L q ts.tail m b) : Path L p ts (L[p].s.k :: m) b
  | no {p q : Nat} {ts : List Bool} {m : List Int} {b : Bool} (h : p < L.length) (hk : L[p].k = 2) (ht : ts.headD false = false) (hn : next L L[p].go = q) (r : Path L q ts.tail m b) : Path L p ts (L[p].s.k :: m) b

/-- Jumps go on, or back to no jump. -/
def Good (L : List Ins) : Prop := ∀ p (h : p < L.length), L[p].k = 3 → ∃ q : Nat, L[p].go = q ∧ ((p < q ∧ q < L.length) ∨ ∃ h2 : q < L.length, L[q].k ≠ 3)

theorem nextGo_more {L : List Ins} (hG : Good L) : ∀ (d p : Nat) (n : Nat), L.length - p ≤ d → L.length - p + 1 ≤ n → nextGo L n p = nextGo L (n + 1) p
  | d, p, n, hd, hn => by
    by_cases hp : p < L.length
    · obtain ⟨n, rfl⟩ : ∃ j, n = j + 1 := ⟨n - 1, by omega⟩
      rw [nextGo_in hp, nextGo_in hp]
      split
      · rename_i h3
        obtain ⟨q, hq, h⟩ := hG p hp h3
        rw [hq]
        rcases h with h | ⟨h2, h4⟩
        · obtain ⟨d, rfl⟩ : ∃ j, d = j + 1 := ⟨d - 1, by omega⟩
          exact nextGo_more hG d q n (by omega) (by omega)
        · obtain ⟨n, rfl⟩ : ∃ j, n = j + 1 := ⟨n - 1, by omega⟩
          rw [nextGo_in h2, nextGo_in h2, if_neg h4, if_neg h4]
      · rfl
    · rw [nextGo_out (.inr (by omega)), nextGo_out (.inr (by omega))]
theorem next_jump {L : List Ins} (hG : Good L) {p : Nat} (hp : p < L.length) (h3 : L[p].k = 3) : next L (p : Nat) = next L L[p].go := by
  unfold next
  rw [nextGo_in hp, if_pos h3]
  obtain ⟨q, hq, h⟩ := hG p hp h3
  rw [hq]
  rcases h with h | ⟨h2, h4⟩
  · exact nextGo_more hG (L.length - q) q L.length (Nat.le_refl _) (by omega)
  · obtain ⟨n, hn⟩ : ∃ j, L.length = j + 1 := ⟨L.length - 1, by omega⟩
    rw [hn, nextGo_in h2, nextGo_in h2, if_neg h4, if_neg h4]
theorem next_here {L : List Ins} {p : Nat} (hp : p < L.length) (h3 : L[p].k ≠ 3) : next L (p : Nat) = p := by
  unfold next
  rw [nextGo_in hp, if_neg h3]

/-- A piece of the code. -/
def Sits (L c : List Ins) (p : Nat) : Prop := ∃ a b, L = a ++ (c ++ b) ∧ a.length = p
theorem Sits.left {L c d : List Ins} {p : Nat} (h : Sits L (c ++ d) p) : Sits L c p := by
  obtain ⟨a, b, h1, h2⟩ := h
  exact ⟨a, d ++ b, by rw [h1, List.append_assoc], h2⟩
theorem Sits.right {L c d : List Ins} {p : Nat} (h : Sits L (c ++ d) p) : Sits L d (p + c.length) := by
  obtain ⟨a, b, h1, h2⟩ := h
  exact ⟨a ++ c, b, by rw [h1]; simp, by simp [h2]⟩
theorem Sits.head {L c : List Ins} {i : Ins} {p : Nat} (h : Sits L (i :: c) p) : ∃ hp : p < L.length, L[p] = i := by
  obtain ⟨a, b, h1, h2⟩ := h
  subst h1 h2
  exact ⟨by simp, by simp⟩
theorem Sits.tail {L c : List Ins} {i : Ins} {p : Nat} (h : Sits L (i :: c) p) : Sits L c (p + 1) := Sits.right (c := [i]) h
theorem bare_k (s : St) : (bare s).k = s.k := by cases s; rfl

/-- From a place on: a way through the code (nothing is asked where it stands). -/
def PathAt (L : List Ins) (p : Nat) (ts : List Bool) (m : List Int) (b : Bool) : Prop := ∃ q : Nat, next L (p : Nat) = q ∧ Path L q ts m b
theorem PathAt.jump {L : List Ins} (hG : Good L) {p q : Nat} {ts : List Bool} {m : List Int} {b : Bool} (hp : p < L.length) (h3 : L[p].k = 3) (hq : L[p].go = q) (h : PathAt L q ts m b) : PathAt L p ts m b := by
  obtain ⟨r, h1, h2⟩ := h
  exact ⟨r, by rw [next_jump hG hp h3, hq, h1], h2⟩
theorem PathAt.here {L : List Ins} {p : Nat} {ts : List Bool} {m : List Int} {b : Bool} (hp : p < L.length) (h3 : L[p].k ≠ 3) (h : Path L p ts m b) : PathAt L p ts m b := ⟨p, next_here hp h3, h⟩
theorem PathAt.yes {L : List Ins} {p : Nat} {ts : List Bool} {m : List Int} {b : Bool} {k : Int} (hp : p < L.length) (hk : L[p].k = 2) (hs : L[p].s.k = k) (ht : ts.headD false = true) (h : PathAt L (p + 1) ts.tail m b) : PathAt L p ts (k :: m) b := by
  obtain ⟨q, h1, h2⟩ := h
  subst hs
  exact .here hp (by rw [hk]; decide) (.yes hp hk ht h1 h2)
theorem PathAt.no {L : List Ins} {p q : Nat} {ts : List Bool} {m : List Int} {b : Bool} {k : Int} (hp : p < L.length) (hk : L[p].k = 2) (hs : L[p].s.k = k) (hq : L[p].go = q) (ht : ts.headD false = false) (h : PathAt L q ts.tail m b) : PathAt L p ts (k :: m) b := by
  obtain ⟨r, h1, h2⟩ := h
  subst hs
  exact .here hp (by rw [hk]; decide) (.no hp hk ht (by rw [hq]; exact h1) h2)

/-- What a piece of code does for a way: it goes back within, or comes to the place behind. -/
def Sim (L : List Ins) (p q : Nat) (w w' : Wy) : Prop := ∃ g, w'.met = w.met ++ g ∧ (w'.back = true → PathAt L p w.turns g true) ∧ (w'.back = false → ∀ m b, PathAt L q w'.turns m b → PathAt L p w.turns (g ++ m) b)

theorem simW {L : List Ins} (hG : Good L) {n p e : Nat} {s : St} (hk : s.k = 10) (hsit : Sits L (codeOne s p) p) (he : e = p + (codeOne s p).length)
    (ih : ∀ m < n, ∀ w, w.turns.length ≤ m → w.back = false → Sim L (p + 1) (p + 1 + (codeList s.body (p + 1)).length) w (wayL m s.body w)) : ∀ (m : Nat), m ≤ n → ∀ w : Wy, w.turns.length ≤ m →
    ∃ g, (wayW m s.k s.body w).met = w.met ++ g ∧ ((wayW m s.k s.body w).back = true → PathAt L p w.turns (s.k :: g) true) ∧ ((wayW m s.k s.body w).back = false → ∀ r b, PathAt L e (wayW m s.k s.body w).turns r b → PathAt L p w.turns (s.k :: (g ++ r)) b)
  | m, hm, w, hw => by
    have hc := codeOne_while hk p
    have hlen : (codeOne s p).length = (codeList s.body (p + 1)).length + 2 := by rw [hc]; simp
    rw [hc] at hsit
    obtain ⟨hp, hLp⟩ := hsit.head
    obtain ⟨hp2, hLp2⟩ := hsit.tail.right.head
    have hs : L[p].s.k = s.k := by rw [hLp]; exact bare_k s
    by_cases h : w.turns.headD false = true
    · have ht := head_some h
      obtain ⟨m, rfl⟩ : ∃ j, m = j + 1 := ⟨m - 1, by omega⟩
      rw [wayW_yes h]
      obtain ⟨g1, x1, x2, x3⟩ := ih m (by omega) ⟨w.turns.tail, w.met, false⟩ (by show w.turns.tail.length ≤ m; omega) rfl
      have hmu := much_way m s.body ⟨w.turns.tail, w.met, false⟩ (by show w.turns.tail.length ≤ m; omega)
      have hmu1 := hmu.1
      generalize wayL m s.body ⟨w.turns.tail, w.met, false⟩ = w2 at x1 x2 x3 hmu1 ⊢
      simp only at x1 x2 x3 hmu1
      split
      · rename_i hb
        exact ⟨g1, x1, fun _ => .yes hp (by rw [hLp]) hs h (x2 hb), fun hb2 => by rw [hb] at hb2; cases hb2⟩
      · rename_i hb
        have hb : w2.back = false := by simpa using hb
        obtain ⟨g2, y1, y2, y3⟩ := simW hG hk (hc ▸ hsit) he ih m (by omega) ⟨w2.turns, w2.met ++ [s.k], false⟩ (by show w2.turns.length ≤ m; omega)
        generalize wayW m s.k s.body ⟨w2.turns, w2.met ++ [s.k], false⟩ = w3 at y1 y2 y3 ⊢
        simp only at y1 y2 y3
        refine ⟨g1 ++ s.k :: g2, by rw [y1, x1]; simp, fun hb3 => ?_, fun hb3 r b hr => ?_⟩
        · exact .yes hp (by rw [hLp]) hs h (x3 hb _ _ (.jump hG hp2 (by rw [hLp2]) (by rw [hLp2]) (y2 hb3)))
        · have := PathAt.yes hp (by rw [hLp]) hs h (x3 hb _ _ (.jump hG hp2 (by rw [hLp2]) (by rw [hLp2]) (y3 hb3 r b hr)))
          simpa using this
    · have h : w.turns.headD false = false := by simpa using h
      rw [wayW_no h]
      refine ⟨[], by simp, (fun hb => by cases hb), fun _ r b hr => ?_⟩
      exact .no hp (by rw [hLp]) hs (by rw [hLp, he, hlen]; show ((_ : Nat) : Int) = _; congr 1; omega) h hr

theorem sim_way {L : List Ins} (hG : Good L) : ∀ (n : Nat) (l : List St) (p : Nat) (w : Wy) (hw : w.turns.length ≤ n) (hb : w.back = false) (hsit : Sits L (codeList l p) p), Sim L p (p + (codeList l p).length) w (wayL n l w)
  | n, [], p, w, hw, hb, hsit => by
    rw [wayL_nil, codeList]; exact ⟨[], by simp, (fun h => by rw [hb] at h; cases h), fun _ m b h => h⟩
  | n, s :: l, p, w, hw, hb, hsit => by
    rw [wayL_cons, if_neg (by rw [hb]; simp)]
    rw [codeList] at hsit
    rw [codeList, List.length_append, ← Nat.add_assoc]
    have hs : Sim L p (p + (codeOne s p).length) w (wayS n s w) := by
      have h1 := hsit.left
      have hsz := s.bs
      have hez := s.es
      by_cases h9 : s.k = 9
      · rw [wayS_if h9]
        by_cases he : s.els.length = 0
        · have he' : s.els = [] := by simpa using he
          rw [codeOne_if h9 he] at h1 ⊢
          obtain ⟨hp, hLp⟩ := h1.head
          have hs : L[p].s.k = s.k := by rw [hLp]; exact bare_k s
          split
          · rename_i ht
            have htl := head_some ht
            obtain ⟨g, x1, x2, x3⟩ := sim_way hG n s.body (p + 1) ⟨w.turns.tail, w.met ++ [s.k], false⟩ (by show w.turns.tail.length ≤ n; omega) rfl h1.tail
            generalize wayL n s.body ⟨w.turns.tail, w.met ++ [s.k], false⟩ = w2 at x1 x2 x3 ⊢
            refine ⟨s.k :: g, by rw [x1]; simp, fun h => .yes hp (by rw [hLp]) hs ht (x2 h), fun h m b hm => ?_⟩
            refine .yes hp (by rw [hLp]) hs ht (x3 h m b ?_)
            have e : p + 1 + (codeList s.body (p + 1)).length = p + (⟨2, bare s, (p + 1 + (codeList s.body (p + 1)).length : Nat)⟩ :: codeList s.body (p + 1) : List Ins).length := by simp; omega
            rw [e]; exact hm
          · rename_i ht
            have ht : w.turns.headD false = false := by simpa using ht
            rw [he', wayL_nil]
            refine ⟨[s.k], rfl, (fun h => by cases h), fun h m b hm => ?_⟩
            refine .no hp (by rw [hLp]) hs (by rw [hLp]) ht ?_
            have e : p + 1 + (codeList s.body (p + 1)).length = p + (⟨2, bare s, (p + 1 + (codeList s.body (p + 1)).length : Nat)⟩ :: codeList s.body (p + 1) : List Ins).length := by simp; omega
            rw [e]; exact hm
        · have HC := codeOne_else h9 he p
          have hlen : (codeOne s p).length = (codeList s.body (p + 1)).length + 2 + (codeList s.els (p + 1 + (codeList s.body (p + 1)).length + 1)).length := by rw [HC]; simp; omega
          rw [hlen]
          rw [HC] at h1
          obtain ⟨hp, hLp⟩ := h1.head
          have hs : L[p].s.k = s.k := by rw [hLp]; exact bare_k s
          obtain ⟨hp2, hLp2⟩ := h1.tail.right.head
          split
          · rename_i ht
            have htl := head_some ht
            obtain ⟨g, x1, x2, x3⟩ := sim_way hG n s.body (p + 1) ⟨w.turns.tail, w.met ++ [s.k], false⟩ (by show w.turns.tail.length ≤ n; omega) rfl h1.tail.left
            generalize wayL n s.body ⟨w.turns.tail, w.met ++ [s.k], false⟩ = w2 at x1 x2 x3 ⊢
            refine ⟨s.k :: g, by rw [x1]; simp, fun h => .yes hp (by rw [hLp]) hs ht (x2 h), fun h m b hm => ?_⟩
            refine .yes hp (by rw [hLp]) hs ht (x3 h m b (.jump hG hp2 (by rw [hLp2]) (by rw [hLp2]) ?_))
            have e : p + 1 + (codeList s.body (p + 1)).length + 1 + (codeList s.els (p + 1 + (codeList s.body (p + 1)).length + 1)).length = p + ((codeList s.body (p + 1)).length + 2 + (codeList s.els (p + 1 + (codeList s.body (p + 1)).length + 1)).length) := by omega
            rw [e]; exact hm
          · rename_i ht
            have ht : w.turns.headD false = false := by simpa using ht
            obtain ⟨g, x1, x2, x3⟩ := sim_way hG n s.els (p + 1 + (codeList s.body (p + 1)).length + 1) ⟨w.turns.tail, w.met ++ [s.k], false⟩ (by show w.turns.tail.length ≤ n; rw [List.length_tail]; omega) rfl h1.tail.right.tail
            generalize wayL n s.els ⟨w.turns.tail, w.met ++ [s.k], false⟩ = w2 at x1 x2 x3 ⊢
            refine ⟨s.k :: g, by rw [x1]; simp, fun h => .no hp (by rw [hLp]) hs (by rw [hLp]) ht (x2 h), fun h m b hm => ?_⟩
            refine .no hp (by rw [hLp]) hs (by rw [hLp]) ht (x3 h m b ?_)
            have e : p + 1 + (codeList s.body (p + 1)).length + 1 + (codeList s.els (p + 1 + (codeList s.body (p + 1)).length + 1)).length = p + ((codeList s.body (p + 1)).length + 2 + (codeList s.els (p + 1 + (codeList s.body (p + 1)).length + 1)).length) := by omega
            rw [e]; exact hm
      · by_cases h10 : s.k = 10
        · rw [wayS_while h10]
          have hc := codeOne_while h10 p
          have hin : Sits L (codeList s.body (p + 1)) (p + 1) := by rw [hc] at h1; exact h1.tail.left
          obtain ⟨g, x1, x2, x3⟩ := simW hG h10 h1 rfl (fun m hm w hw hb => sim_way hG m s.body (p + 1) w hw hb hin) n (Nat.le_refl _) ⟨w.turns, w.met ++ [s.k], false⟩ hw
          refine ⟨s.k :: g, by rw [x1]; simp, x2, fun h m b hm => x3 h m b hm⟩
        · rw [wayS_do h9 h10]
          rw [codeOne_do h9 h10] at h1 ⊢
          obtain ⟨hp, hLp⟩ := h1.head
          have hs : L[p].s.k = s.k := by rw [hLp]; exact bare_k s
          refine ⟨[s.k], rfl, fun h => ?_, fun h m b hm => ?_⟩
          · have h11 : s.k = 11 := by simpa using h
            have := PathAt.here (ts := w.turns) hp (by rw [hLp]; exact (by decide : (1 : Int) ≠ 3)) (.ret hp (by rw [hLp]) (hs.trans h11))
            rw [h11]; exact this
          · have h11 : s.k ≠ 11 := by simpa using h
            obtain ⟨q, y1, y2⟩ := hm
            have := PathAt.here hp (by rw [hLp]; exact (by decide : (1 : Int) ≠ 3)) (.go hp (by rw [hLp]) (by rw [hs]; exact h11) y1 y2)
            rw [hs] at this
            exact this
    obtain ⟨g1, x1, x2, x3⟩ := hs
    have hmu := (much_S n s w hw hb).1
    cases hb2 : (wayS n s w).back with
    | true =>
      rw [wayL_back n l _ hb2]
      exact ⟨g1, x1, x2, fun h => by rw [hb2] at h; cases h⟩
    | false =>
      obtain ⟨g2, y1, y2, y3⟩ := sim_way hG n l (p + (codeOne s p).length) (wayS n s w) (Nat.le_trans hmu hw) hb2 hsit.right
      refine ⟨g1 ++ g2, by rw [y1, x1]; simp, fun h => x3 hb2 _ _ (y2 h), fun h m b hm => ?_⟩
      have := x3 hb2 _ _ (y3 h m b hm)
      simpa using this
termination_by n l => (n, SizeOf.sizeOf l)
decreasing_by all_goals (simp_wf; omega)

/-! The code is good. -/
def GoodFrom (c : List Ins) (p : Nat) : Prop := ∀ i (h : i < c.length), c[i].k = 3 → ∃ q : Nat, c[i].go = q ∧ ((p + i < q ∧ q ≤ p + c.length) ∨ ∃ j, q = p + j ∧ ∃ h2 : j < c.length, c[j].k ≠ 3)
theorem GoodFrom.append {c d : List Ins} {p : Nat} (h1 : GoodFrom c p) (h2 : GoodFrom d (p + c.length)) : GoodFrom (c ++ d) p := by
  intro i h h3
  by_cases hi : i < c.length
  · rw [List.getElem_append_left hi] at h3 ⊢
    obtain ⟨q, hq, h4⟩ := h1 i hi h3
    refine ⟨q, hq, ?_⟩
    rcases h4 with h4 | ⟨j, hj, hj2, hj3⟩
    · exact .inl ⟨h4.1, by simp; omega⟩
    · exact .inr ⟨j, hj, by simp; omega, by rw [List.getElem_append_left hj2]; exact hj3⟩
  · have hi2 : i - c.length < d.length := by simp at h; omega
    rw [List.getElem_append_right (by omega)] at h3 ⊢
    obtain ⟨q, hq, h4⟩ := h2 (i - c.length) hi2 h3
    refine ⟨q, hq, ?_⟩
    rcases h4 with h4 | ⟨j, hj, hj2, hj3⟩
    · exact .inl ⟨by omega, by simp; omega⟩
    · exact .inr ⟨c.length + j, by omega, by simp; omega, by rw [List.getElem_append_right (by omega)]; simpa using hj3⟩
theorem GoodFrom.one {i : Ins} (h : i.k ≠ 3) (p : Nat) : GoodFrom [i] p := by
  intro j hj h3
  obtain rfl : j = 0 := by simpa using hj
  exact absurd h3 h
theorem GoodFrom.nil (p : Nat) : GoodFrom [] p := fun i h => by simp at h
theorem good_list (l : List St) (p : Nat) : GoodFrom (codeList l p) p := by
  cases l with
  | nil => rw [codeList]; exact .nil p
  | cons s l =>
    rw [codeList]
    have hsz := s.bs
    have hez := s.es
    refine .append ?_ (good_list l _)
    by_cases h9 : s.k = 9
    · by_cases he : s.els.length = 0
      · rw [codeOne_if h9 he]
        exact .append (c := [_]) (.one (show (2 : Int) ≠ 3 by decide) p) (good_list s.body (p + 1))
      · rw [codeOne_else h9 he]
        refine .append (c := [_]) (.one (show (2 : Int) ≠ 3 by decide) p) ?_
        have h1 := good_list s.body (p + 1)
        have h2 := good_list s.els (p + 1 + (codeList s.body (p + 1)).length + 1)
        generalize codeList s.els (p + 1 + (codeList s.body (p + 1)).length + 1) = E at h2 ⊢
        generalize codeList s.body (p + 1) = B at h1 h2 ⊢
        refine .append h1 ?_
        show GoodFrom (_ :: E) (p + 1 + B.length)
        intro i h h3
        cases i with
        | zero => exact ⟨_, rfl, .inl ⟨by omega, by simp; omega⟩⟩
        | succ i =>
          obtain ⟨q, hq, h4⟩ := h2 i (by simpa using h) h3
          refine ⟨q, hq, ?_⟩
          rcases h4 with h4 | ⟨j, hj, hj2, hj3⟩
          · exact .inl ⟨by omega, by simp; omega⟩
          · exact .inr ⟨j + 1, by omega, by simpa using hj2, hj3⟩
    · by_cases h10 : s.k = 10
      · rw [codeOne_while h10]
        have h1 := good_list s.body (p + 1)
        generalize codeList s.body (p + 1) = B at h1 ⊢
        intro i h h3
        cases i with
        | zero => exact absurd h3 (show ¬ (2 : Int) = 3 by decide)
        | succ i =>
          by_cases hi : i < B.length
          · simp only [List.getElem_cons_succ] at h3 ⊢
            rw [List.getElem_append_left hi] at h3 ⊢
            obtain ⟨q, hq, h4⟩ := h1 i hi h3
            refine ⟨q, hq, ?_⟩
            rcases h4 with h4 | ⟨j, hj, hj2, hj3⟩
            · exact .inl ⟨by omega, by simp; omega⟩
            · refine .inr ⟨j + 1, by omega, by simp; omega, ?_⟩
              simp only [List.getElem_cons_succ]
              rw [List.getElem_append_left hj2]; exact hj3
          · obtain rfl : i = B.length := by simp at h; omega
            refine ⟨p, ?_, .inr ⟨0, rfl, by simp, ?_⟩⟩
            · simp only [List.getElem_cons_succ]
              rw [List.getElem_append_right (Nat.le_refl _)]
              simp
            · show (2 : Int) ≠ 3
              decide
      · rw [codeOne_do h9 h10]
        exact .one (show (1 : Int) ≠ 3 by decide) p
termination_by SizeOf.sizeOf l
decreasing_by all_goals (simp_wf; omega)

theorem last_at (a : List Ins) (x : Ins) : (a ++ [x])[a.length]'(by simp) = x := by simp
theorem good_code (l : List St) : Good (codeOf l) := by
  intro p hp h3
  have hlen : (codeOf l).length = (codeList l 0).length + 1 := by simp [codeOf]
  by_cases hi : p < (codeList l 0).length
  · have e : (codeOf l)[p] = (codeList l 0)[p] := List.getElem_append_left hi
    rw [e] at h3 ⊢
    obtain ⟨q, hq, h4⟩ := good_list l 0 p hi h3
    refine ⟨q, hq, ?_⟩
    rcases h4 with h4 | ⟨j, hj, hj2, hj3⟩
    · exact .inl ⟨by omega, by omega⟩
    · obtain rfl : q = j := by omega
      refine .inr ⟨by omega, ?_⟩
      have e2 : (codeOf l)[q] = (codeList l 0)[q] := List.getElem_append_left hj2
      rw [e2]; exact hj3
  · obtain rfl : p = (codeList l 0).length := by omega
    have e : (codeOf l)[(codeList l 0).length] = ⟨4, St.zero, 0⟩ := last_at (codeList l 0) ⟨4, St.zero, 0⟩
    rw [e] at h3
    exact absurd h3 (by decide)

/-- The whole method. -/
theorem path_code (l : List St) (ts : List Bool) (n : Nat) (hn : ts.length ≤ n) : PathAt (codeOf l) 0 ts (wayL n l ⟨ts, [], false⟩).met (wayL n l ⟨ts, [], false⟩).back := by
  have hsit : Sits (codeOf l) (codeList l 0) 0 := ⟨[], [⟨4, St.zero, 0⟩], rfl, rfl⟩
  obtain ⟨g, x1, x2, x3⟩ := sim_way (good_code l) n l 0 ⟨ts, [], false⟩ hn rfl hsit
  have hlen : (codeOf l).length = (codeList l 0).length + 1 := by simp [codeOf]
  have e : (codeOf l)[(codeList l 0).length]'(by omega) = ⟨4, St.zero, 0⟩ := last_at (codeList l 0) ⟨4, St.zero, 0⟩
  generalize wayL n l ⟨ts, [], false⟩ = w at x1 x2 x3 ⊢
  simp only [List.nil_append] at x1
  rw [x1]
  cases hb : w.back with
  | true => exact x2 hb
  | false =>
    have := x3 hb [] false (by
      rw [Nat.zero_add]
      exact .here (by omega) (by rw [e]; decide) (.fin (by omega) (by rw [e]) (by omega)))
    simpa using this
end Go.Proofs.Ytlgnjbocdmbeiaa
