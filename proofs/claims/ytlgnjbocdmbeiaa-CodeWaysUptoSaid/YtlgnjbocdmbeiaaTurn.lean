/- The walk of demesnelaw34.turn. -/
import Derived.Test.YtlgnjbocdmbeiaaWays
import Derived.Test.YtlgnjbocdmbeiaaTwoG
import Derived.Test.YtlgnjbocdmbeiaaIdx
import Derived.Test.YtlgnjbocdmbeiaaUniq
set_option linter.unusedSimpArgs false
set_option linter.unusedVariables false
namespace Go.Proofs.Ytlgnjbocdmbeiaa
open Go.RowKit Go.Proofs.Grow

theorem row_fill {W : World} {g : Nat} {t : TypeId} {old cs : Array Value} (h : W.heap[g]? = some (.cells old t (0, 0))) (hs : old.size = cs.size) : (W.setCells g 0 cs.toList).heap[g]? = some (.cells cs t (0, 0)) := by
  obtain ⟨cur', h1, h2⟩ := setCells_row g t cs.toList 0 W _ h (by simp; omega)
  have e : cur' = cs := by
    apply Array.toList_inj.1
    rw [h2]
    simp
    omega
  rw [e] at h1
  exact h1
theorem row_there {W : World} {g : Nat} {t : TypeId} {cs : Array Value} (h : W.heap[g]? = some (.cells cs t (0, 0))) (n : Nat) (hn : n ≤ cs.size) : W.there g 0 n := fun j hj => by
  rw [cell_of_row W g _ _ _ _ h]
  have hlt : j < cs.size := by omega
  exact ⟨by simp [hlt], by simp [World.frozen?, h]⟩
theorem two_rows (w : World) (o p : Obj) : ((w.alloc o).alloc p).heap[w.heap.size]? = some o ∧ ((w.alloc o).alloc p).heap[w.heap.size + 1]? = some p ∧ Below w.heap.size w ((w.alloc o).alloc p) := by
  refine ⟨(Below.heap_alloc _ _ _ (by simp)).trans (heap_alloc_new w _), ?_, ((Below.refl _ _).alloc (Nat.le_refl _) _).alloc (by simp) _⟩
  have := heap_alloc_new (w.alloc o) p
  simpa using this
def encB (b : Bool) : List Value := [.bool b]
def encI (k : Int) : List Value := [.int .i64 k]
/-- demesnelaw34.Way -/
def wyC (tv mv : Value) (b : Bool) : List Value := [tv, mv, .bool b]
theorem wyC_len (tv mv : Value) (b : Bool) : (wyC tv mv b).length = 3 := rfl

theorem _root_.Go.Proofs.Grow.Lies.tail_ {w : World} {A : Option Addr} {c : Nat} {ts : List Bool} (hl : Lies w 1 encB A ts) (h1 : 1 ≤ ts.length) (hc : ts.length ≤ c) : Lies w 1 encB (if c = 1 then A else A.map (·.add 1)) ts.tail := by
  have := hl.cut (k := 1) (c := c) h1 hc
  rw [List.drop_one] at this
  exact this

set_option maxHeartbeats 2000000 in
set_option maxRecDepth 100000 in
theorem turn_any (wb w : World) (hbw : Below wb.heap.size wb w) (A : Option Addr) (c : Nat) (ts : List Bool) (mA : Option Addr) (mn mc : Nat) (b : Bool) (hl : Lies wb 1 encB A ts) (hlc : ts.length ≤ c) (hcm : c ≤ maxLen) :
    Calls Try.prog 14 #[.agg #[.slice A ts.length c, .slice mA mn mc, .bool b]] w fun e w' => ∃ (x : Ext w) (A' : Option Addr) (c' : Nat), e = .returned (.tuple #[.bool (ts.headD false), Value.agg #[.slice A' ts.tail.length c', .slice mA mn mc, .bool b]]) ∧ w' = x.val ∧ ts.tail.length ≤ c' ∧ c' ≤ maxLen ∧ Lies wb 1 encB A' ts.tail := by
  have HL := hide hl
  cases ts with
  | nil =>
    clear hl hbw
    have HC := hide (And.intro hlc hcm)
    clear hlc hcm
    go_enter Try.func14, Try.ntmps14
    go_wp2_with fail
    obtain ⟨Z, hZ⟩ : ∃ Z, Z = (w.alloc (.cells #[.slice A 0 c, .slice mA mn mc, .bool b] 52)).alloc (.cells #[.slice none 0 0, .slice none 0 0, .bool false] 52) := ⟨_, rfl⟩
    have hr := two_rows w (.cells #[.slice A 0 c, .slice mA mn mc, .bool b] 52) (.cells #[.slice none 0 0, .slice none 0 0, .bool false] 52)
    rw [← hZ] at hr ⊢
    clear hZ
    let S : World → Prop := fun X => X.heap[w.heap.size]? = some (.cells #[.slice A 0 c, .slice mA mn mc, .bool b] 52 (0, 0)) ∧ Below w.heap.size w X
    have hS : S Z.drew := ⟨hr.1, hr.2.2.drew⟩
    have hz1 : Hid (Z.drew.heap[w.heap.size + 1]? = some (.cells #[.slice none 0 0, .slice none 0 0, .bool false] 52 (0, 0))) := hr.2.1
    clear hr
    refine wp_region_till S 99 (by kernel_rfl) ?_
    simp only [List.size_toArray, List.length_cons, List.length_nil, Nat.reduceAdd]
    refine AnyTill.takeG (i := 0) (v := .agg #[.slice A 0 c, .slice mA mn mc, .bool b]) rfl (by kernel_rfl) (fun _ _ _ h => h) hS (fun X hX => run_load_block (g := w.heap.size) rfl rfl hX.1 Try.underlying52 rfl (by kernel_rfl)) rfl ?_
    try simp only [Act.put, List.getElem_toArray, List.getElem_cons_succ, List.getElem_cons_zero, List.setIfInBounds_toArray, List.set_cons_zero, List.set_cons_succ]
    refine AnyTill.takeG (i := 1) (v := ?_) rfl (by kernel_rfl) (fun _ _ _ h => h) hS ?_ rfl ?_
    rotate_left
    · intro X hSX
      skip
      go_simp
      all_goals with_reducible rfl
    try simp only [Act.put, List.getElem_toArray, List.getElem_cons_succ, List.getElem_cons_zero, List.setIfInBounds_toArray, List.set_cons_zero, List.set_cons_succ]
    obtain ⟨W3, hW3⟩ : ∃ W3, W3 = Z.drew.setCells (w.heap.size + 1) 0 (#[.slice A 0 c, .slice mA mn mc, .bool b] : Array Value).toList := ⟨_, rfl⟩
    have h3 : W3.heap[w.heap.size + 1]? = some (.cells (#[.slice A 0 c, .slice mA mn mc, .bool b] : Array Value).toList.toArray 52 (0, 0)) := by rw [hW3]; exact row_fill hz1.out (by simp)
    have hb3 : Below w.heap.size w W3 := by rw [hW3]; exact hS.2.trans (setCells_below (Nat.le_succ _) _ 0 _)
    have hS3 : S W3 := ⟨by rw [hW3]; exact (setCells_other _ _ _ _ _ (by omega)).trans hS.1, hb3⟩
    refine AnyTill.oneG (i := 2) rfl (by kernel_rfl) rfl ?_
    intro K hK
    refine wp_store_mid 52 (.tmp 3) (.tmp 9) rfl (w.heap.size + 1) 0 #[.slice A 0 c, .slice mA mn mc, .bool b] rfl rfl (row_there hz1.out 3 (by simp)) (by kernel_rfl) (by simp [Value.oneCell']) ?_
    rw [← hW3]
    refine hK _ _ (fun _ => hS3) ?_
    clear hK K hS hS3 hz1 hW3
    refine AnyTill.done (by kernel_rfl) ?_ _
    obtain ⟨q0, _⟩ := row_cell h3 (j := 0) rfl
    obtain ⟨q1, _⟩ := row_cell h3 (j := 1) rfl
    obtain ⟨q2, _⟩ := row_cell h3 (j := 2) rfl
    have hbz := hide hb3
    clear hb3 h3
    go_wp2_with fail
    refine bodyPost_ret (v := .tuple #[.bool false, .agg #[.slice A 0 c, .slice mA mn mc, .bool b]]) ?_ ?_ ?_
    · simp [results, Try.f14, go_sem, q0, q1, q2]
    · rfl
    · exact ⟨⟨_, hbz.out⟩, A, c, rfl, rfl, HC.out.1, HC.out.2, HL.out⟩
  | cons t ts =>
    obtain ⟨g, off, rfl, hbb, hc⟩ := hl 0 (by simp)
    have a0 : w.cell? ⟨g, off, none⟩ = some (.bool t) := (hbw.cell (p := ⟨g, off, none⟩) hbb).trans (hc 0 _ rfl)
    have hb : g < w.heap.size := Nat.lt_of_lt_of_le hbb hbw.size
    clear hl hc hbb hbw
    have HT := hide (HL.out.tail_ (by simp) hlc)
    have HC := hide (And.intro hlc hcm)
    simp only [List.length_cons] at hlc ⊢
    unfold maxLen at hcm
    rcases Nat.lt_or_ge 1 c with hc1 | hc1
    · go_enter Try.func14, Try.ntmps14
      go_wp2_with fail
      obtain ⟨Z, hZ⟩ : ∃ Z, Z = (w.alloc (.cells #[.slice (some ⟨g, off + 1, none⟩) ts.length (c - 1), .slice mA mn mc, .bool b] 52)).alloc (.cells #[.slice none 0 0, .slice none 0 0, .bool false] 52) := ⟨_, rfl⟩
      have hr := two_rows w (.cells #[.slice (some ⟨g, off + 1, none⟩) ts.length (c - 1), .slice mA mn mc, .bool b] 52) (.cells #[.slice none 0 0, .slice none 0 0, .bool false] 52)
      rw [← hZ] at hr ⊢
      clear hZ
      let S : World → Prop := fun X => X.heap[w.heap.size]? = some (.cells #[.slice (some ⟨g, off + 1, none⟩) ts.length (c - 1), .slice mA mn mc, .bool b] 52 (0, 0)) ∧ Below w.heap.size w X
      have hS : S Z.drew := ⟨hr.1, hr.2.2.drew⟩
      have hz1 : Hid (Z.drew.heap[w.heap.size + 1]? = some (.cells #[.slice none 0 0, .slice none 0 0, .bool false] 52 (0, 0))) := hr.2.1
      clear hr
      refine wp_region_till S 99 (by kernel_rfl) ?_
      simp only [List.size_toArray, List.length_cons, List.length_nil, Nat.reduceAdd]
      refine AnyTill.takeG (i := 0) (v := ?_) rfl (by kernel_rfl) (fun _ _ _ h => h) hS ?_ rfl ?_
      rotate_left
      · intro X hSX
        skip
        go_simp
        all_goals with_reducible rfl
      try simp only [Act.put, List.getElem_toArray, List.getElem_cons_succ, List.getElem_cons_zero, List.setIfInBounds_toArray, List.set_cons_zero, List.set_cons_succ]
      refine AnyTill.takeG (i := 1) (v := .agg #[.slice (some ⟨g, off + 1, none⟩) ts.length (c - 1), .slice mA mn mc, .bool b]) rfl (by kernel_rfl) (fun _ _ _ h => h) hS (fun X hX => run_load_block (g := w.heap.size) rfl rfl hX.1 Try.underlying52 rfl (by kernel_rfl)) rfl ?_
      try simp only [Act.put, List.getElem_toArray, List.getElem_cons_succ, List.getElem_cons_zero, List.setIfInBounds_toArray, List.set_cons_zero, List.set_cons_succ]
      refine AnyTill.takeG (i := 2) (v := ?_) rfl (by kernel_rfl) (fun _ _ _ h => h) hS ?_ rfl ?_
      rotate_left
      · intro X hSX
        skip
        go_simp
        all_goals with_reducible rfl
      try simp only [Act.put, List.getElem_toArray, List.getElem_cons_succ, List.getElem_cons_zero, List.setIfInBounds_toArray, List.set_cons_zero, List.set_cons_succ]
      obtain ⟨W3, hW3⟩ : ∃ W3, W3 = Z.drew.setCells (w.heap.size + 1) 0 (#[.slice (some ⟨g, off + 1, none⟩) ts.length (c - 1), .slice mA mn mc, .bool b] : Array Value).toList := ⟨_, rfl⟩
      have h3 : W3.heap[w.heap.size + 1]? = some (.cells (#[.slice (some ⟨g, off + 1, none⟩) ts.length (c - 1), .slice mA mn mc, .bool b] : Array Value).toList.toArray 52 (0, 0)) := by rw [hW3]; exact row_fill hz1.out (by simp)
      have hb3 : Below w.heap.size w W3 := by rw [hW3]; exact hS.2.trans (setCells_below (Nat.le_succ _) _ 0 _)
      have hS3 : S W3 := ⟨by rw [hW3]; exact (setCells_other _ _ _ _ _ (by omega)).trans hS.1, hb3⟩
      refine AnyTill.oneG (i := 3) rfl (by kernel_rfl) rfl ?_
      intro K hK
      refine wp_store_mid 52 (.tmp 3) (.tmp 19) rfl (w.heap.size + 1) 0 #[.slice (some ⟨g, off + 1, none⟩) ts.length (c - 1), .slice mA mn mc, .bool b] rfl rfl (row_there hz1.out 3 (by simp)) (by kernel_rfl) (by simp [Value.oneCell']) ?_
      rw [← hW3]
      refine hK _ _ (fun _ => hS3) ?_
      clear hK K hS hS3 hz1 hW3
      refine AnyTill.done (by kernel_rfl) ?_ _
      obtain ⟨q0, _⟩ := row_cell h3 (j := 0) rfl
      obtain ⟨q1, _⟩ := row_cell h3 (j := 1) rfl
      obtain ⟨q2, _⟩ := row_cell h3 (j := 2) rfl
      have hbz := hide hb3
      clear hb3 h3
      go_wp2_with fail
      refine bodyPost_ret (v := .tuple #[.bool t, .agg #[.slice (some ⟨g, off + 1, none⟩) ts.length (c - 1), .slice mA mn mc, .bool b]]) ?_ ?_ ?_
      · simp [results, Try.f14, go_sem, q0, q1, q2]
      · rfl
      · exact ⟨⟨_, hbz.out⟩, _, _, rfl, rfl, by have := HC.out.1; simp at this; simp; omega, by have := HC.out.2; omega, by
  have h9 := HT.out
  rw [if_neg (by omega)] at h9
  exact h9⟩
    · obtain rfl : c = 1 := by omega
      obtain rfl : ts = [] := by cases ts with | nil => rfl | cons a l => simp at hlc
      go_enter Try.func14, Try.ntmps14
      go_wp2_with fail
      obtain ⟨Z, hZ⟩ : ∃ Z, Z = (w.alloc (.cells #[.slice (some ⟨g, off, none⟩) 0 0, .slice mA mn mc, .bool b] 52)).alloc (.cells #[.slice none 0 0, .slice none 0 0, .bool false] 52) := ⟨_, rfl⟩
      have hr := two_rows w (.cells #[.slice (some ⟨g, off, none⟩) 0 0, .slice mA mn mc, .bool b] 52) (.cells #[.slice none 0 0, .slice none 0 0, .bool false] 52)
      rw [← hZ] at hr ⊢
      clear hZ
      let S : World → Prop := fun X => X.heap[w.heap.size]? = some (.cells #[.slice (some ⟨g, off, none⟩) 0 0, .slice mA mn mc, .bool b] 52 (0, 0)) ∧ Below w.heap.size w X
      have hS : S Z.drew := ⟨hr.1, hr.2.2.drew⟩
      have hz1 : Hid (Z.drew.heap[w.heap.size + 1]? = some (.cells #[.slice none 0 0, .slice none 0 0, .bool false] 52 (0, 0))) := hr.2.1
      clear hr
      refine wp_region_till S 99 (by kernel_rfl) ?_
      simp only [List.size_toArray, List.length_cons, List.length_nil, Nat.reduceAdd]
      refine AnyTill.takeG (i := 0) (v := ?_) rfl (by kernel_rfl) (fun _ _ _ h => h) hS ?_ rfl ?_
      rotate_left
      · intro X hSX
        skip
        go_simp
        all_goals with_reducible rfl
      try simp only [Act.put, List.getElem_toArray, List.getElem_cons_succ, List.getElem_cons_zero, List.setIfInBounds_toArray, List.set_cons_zero, List.set_cons_succ]
      refine AnyTill.takeG (i := 1) (v := .agg #[.slice (some ⟨g, off, none⟩) 0 0, .slice mA mn mc, .bool b]) rfl (by kernel_rfl) (fun _ _ _ h => h) hS (fun X hX => run_load_block (g := w.heap.size) rfl rfl hX.1 Try.underlying52 rfl (by kernel_rfl)) rfl ?_
      try simp only [Act.put, List.getElem_toArray, List.getElem_cons_succ, List.getElem_cons_zero, List.setIfInBounds_toArray, List.set_cons_zero, List.set_cons_succ]
      refine AnyTill.takeG (i := 2) (v := ?_) rfl (by kernel_rfl) (fun _ _ _ h => h) hS ?_ rfl ?_
      rotate_left
      · intro X hSX
        skip
        go_simp
        all_goals with_reducible rfl
      try simp only [Act.put, List.getElem_toArray, List.getElem_cons_succ, List.getElem_cons_zero, List.setIfInBounds_toArray, List.set_cons_zero, List.set_cons_succ]
      obtain ⟨W3, hW3⟩ : ∃ W3, W3 = Z.drew.setCells (w.heap.size + 1) 0 (#[.slice (some ⟨g, off, none⟩) 0 0, .slice mA mn mc, .bool b] : Array Value).toList := ⟨_, rfl⟩
      have h3 : W3.heap[w.heap.size + 1]? = some (.cells (#[.slice (some ⟨g, off, none⟩) 0 0, .slice mA mn mc, .bool b] : Array Value).toList.toArray 52 (0, 0)) := by rw [hW3]; exact row_fill hz1.out (by simp)
      have hb3 : Below w.heap.size w W3 := by rw [hW3]; exact hS.2.trans (setCells_below (Nat.le_succ _) _ 0 _)
      have hS3 : S W3 := ⟨by rw [hW3]; exact (setCells_other _ _ _ _ _ (by omega)).trans hS.1, hb3⟩
      refine AnyTill.oneG (i := 3) rfl (by kernel_rfl) rfl ?_
      intro K hK
      refine wp_store_mid 52 (.tmp 3) (.tmp 19) rfl (w.heap.size + 1) 0 #[.slice (some ⟨g, off, none⟩) 0 0, .slice mA mn mc, .bool b] rfl rfl (row_there hz1.out 3 (by simp)) (by kernel_rfl) (by simp [Value.oneCell']) ?_
      rw [← hW3]
      refine hK _ _ (fun _ => hS3) ?_
      clear hK K hS hS3 hz1 hW3
      refine AnyTill.done (by kernel_rfl) ?_ _
      obtain ⟨q0, _⟩ := row_cell h3 (j := 0) rfl
      obtain ⟨q1, _⟩ := row_cell h3 (j := 1) rfl
      obtain ⟨q2, _⟩ := row_cell h3 (j := 2) rfl
      have hbz := hide hb3
      clear hb3 h3
      go_wp2_with fail
      refine bodyPost_ret (v := .tuple #[.bool t, .agg #[.slice (some ⟨g, off, none⟩) 0 0, .slice mA mn mc, .bool b]]) ?_ ?_ ?_
      · simp [results, Try.f14, go_sem, q0, q1, q2]
      · rfl
      · exact ⟨⟨_, hbz.out⟩, _, _, rfl, rfl, Nat.zero_le _, Nat.zero_le _, HT.out⟩
end Go.Proofs.Ytlgnjbocdmbeiaa
