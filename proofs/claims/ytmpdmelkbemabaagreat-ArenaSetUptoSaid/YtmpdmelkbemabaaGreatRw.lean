/- A program's rows: which nodes lie where; a set of rows that lie apart; what it takes that a program can be read. -/
import Derived.Test.YtmpdmelkbemabaaGreatNotes
set_option linter.unusedSimpArgs false
set_option linter.unusedVariables false
namespace Go.Proofs.Grow
open Go.RowKit

/-- A node: a class, a method, a variable, a statement, an expression, an owner, a name. -/
inductive Nd where
  | cl (c : Cl)
  | me (m : Me)
  | va (v : Va)
  | st (s : St)
  | ex (e : Ex)
  | ow (o : Ow)
  | str (s : ByteArray)
def Nd.cells : Nd → List Value
  | .cl c => c.cells
  | .me m => m.cells
  | .va v => v.cells
  | .st s => s.cells
  | .ex e => e.cells
  | .ow o => o.cells
  | .str s => encStr s
/-- A statement with another place, with another type. -/
def St.at : St → Int → St
  | .mk k x y name ty e aA ac args bA bc body eA ec els _, p => .mk k x y name ty e aA ac args bA bc body eA ec els p
def St.withTy : St → Ty → St
  | .mk k x y name _ e aA ac args bA bc body eA ec els pos, t => .mk k x y name t e aA ac args bA bc body eA ec els pos
def St.e : St → Ex | .mk _ _ _ _ _ e _ _ _ _ _ _ _ _ _ _ => e
def St.aA : St → Option Addr | .mk _ _ _ _ _ _ aA _ _ _ _ _ _ _ _ _ => aA
def St.args : St → List Ex | .mk _ _ _ _ _ _ _ _ args _ _ _ _ _ _ _ => args
def Nd.at : Nd → Int → Nd
  | .cl c, p => .cl { c with pos := p }
  | .me m, p => .me { m with pos := p }
  | .va v, p => .va { v with pos := p }
  | .st s, p => .st (s.at p)
  | x, _ => x
def Nd.withTy : Nd → Ty → Nd
  | .me m, t => .me { m with ret := t }
  | .va v, t => .va { v with ty := t }
  | .st s, t => .st (if s.ty.k = 2 ∧ t.k = 2 then s.withTy t else s)
  | x, _ => x
theorem Nd.cells_pos (x : Nd) : 0 < x.cells.length := by
  cases x with
  | st s => show 0 < s.cells.length; rw [St.cells_len]; decide
  | ex e => show 0 < e.cells.length; rw [Ex.cells_len]; decide
  | _ => first | exact Nat.zero_lt_succ _
theorem Nd.at_len (x : Nd) (p : Int) : (x.at p).cells.length = x.cells.length := by
  cases x with
  | st s => show (s.at p).cells.length = s.cells.length; rw [St.cells_len, St.cells_len]
  | _ => rfl
theorem Nd.withTy_len (x : Nd) (t : Ty) : (x.withTy t).cells.length = x.cells.length := by
  cases x with
  | st s => show (St.cells (if s.ty.k = 2 ∧ t.k = 2 then s.withTy t else s)).length = s.cells.length; rw [St.cells_len, St.cells_len]
  | _ => rfl
def altA (x : Nd) (cs : List Value) : Prop := ∃ p, cs = (x.at p).cells
def altT (x : Nd) (cs : List Value) : Prop := ∃ t, cs = (x.withTy t).cells

/-- A node where it lies. -/
structure Rw where
  b : Nat
  off : Nat
  x : Nd
def Rw.len (r : Rw) : Nat := r.x.cells.length
def Rw.apart (r q : Rw) : Prop := r.b ≠ q.b ∨ r.off + r.len ≤ q.off ∨ q.off + q.len ≤ r.off
theorem Rw.apart_symm {r q : Rw} (h : r.apart q) : q.apart r := by
  rcases h with h | h | h
  · exact .inl (Ne.symm h)
  · exact .inr (.inr h)
  · exact .inr (.inl h)
theorem pairwise_mem {rs : List Rw} (h : rs.Pairwise Rw.apart) : ∀ r ∈ rs, ∀ q ∈ rs, r = q ∨ r.apart q := by
  induction h with
  | nil => intro r hr; cases hr
  | cons h1 _ ih =>
    intro r hr q hq
    rcases List.mem_cons.1 hr with e1 | hr1
    · rcases List.mem_cons.1 hq with e2 | hq1
      · exact .inl (e1.trans e2.symm)
      · exact .inr (e1 ▸ h1 q hq1)
    · rcases List.mem_cons.1 hq with e2 | hq1
      · exact .inr (e2 ▸ Rw.apart_symm (h1 r hr1))
      · exact ih r hr1 q hq1

/-- Rows whose contents may differ from what they will be ('alt'); those in D are as they will be. -/
def Mask (alt : Nd → List Value → Prop) (rs : List Rw) (D : Nat → Nat → Prop) (X : World) : Prop :=
  ∀ r ∈ rs, X.there r.b r.off r.len ∧ ∃ cs, cs.length = r.len ∧ alt r.x cs ∧ X.rangeAt r.b r.off cs ∧ (D r.b r.off → cs = r.x.cells)
/-- All rows hold. -/
def Holds (rs : List Rw) (X : World) : Prop := ∀ r ∈ rs, r.b < X.heap.size ∧ X.rangeAt r.b r.off r.x.cells

section
variable {alt : Nd → List Value → Prop} {rs : List Rw} {D D' : Nat → Nat → Prop} {X Y : World}
theorem there_lt {b o n : Nat} (h : X.there b o n) (hn : 0 < n) : b < X.heap.size := by
  have := (h 0 hn).1
  obtain ⟨v, hv⟩ := Option.isSome_iff_exists.1 this
  exact World.block_lt_of_cell? _ _ hv
theorem Mask.lt (h : Mask alt rs D X) {r : Rw} (hr : r ∈ rs) : r.b < X.heap.size := there_lt (h r hr).1 r.x.cells_pos
theorem Mask.mono (h : Mask alt rs D X) (hD : ∀ r ∈ rs, D' r.b r.off → D r.b r.off) : Mask alt rs D' X := fun r hr => by
  obtain ⟨h1, cs, h2, h3, h4, h5⟩ := h r hr
  exact ⟨h1, cs, h2, h3, h4, fun hd => h5 (hD r hr hd)⟩
theorem Mask.holds (h : Mask alt rs D X) (hD : ∀ r ∈ rs, D r.b r.off) : Holds rs X := fun r hr => by
  obtain ⟨h1, cs, h2, h3, h4, h5⟩ := h r hr
  exact ⟨h.lt hr, by rw [← h5 (hD r hr)]; exact h4⟩
theorem there_block {b o n : Nat} (h : X.there b o n) (he : Y.heap[b]? = X.heap[b]?) : Y.there b o n := fun j hj => by
  rw [World.cell?_of_block (a := ⟨b, o + j, none⟩) he, World.frozen?_of_block (a := ⟨b, o + j, none⟩) he]
  exact h j hj
theorem range_block {b o : Nat} {cs : List Value} (h : X.rangeAt b o cs) (he : Y.heap[b]? = X.heap[b]?) : Y.rangeAt b o cs := fun j v hv => (World.cell?_of_block (a := ⟨b, o + j, none⟩) he).trans (h j v hv)
theorem Mask.blocks (h : Mask alt rs D X) (he : ∀ r ∈ rs, Y.heap[r.b]? = X.heap[r.b]?) : Mask alt rs D Y := fun r hr => by
  obtain ⟨h1, cs, h2, h3, h4, h5⟩ := h r hr
  exact ⟨there_block h1 (he r hr), cs, h2, h3, range_block h4 (he r hr), h5⟩
theorem Mask.below (h : Mask alt rs D X) {n : Nat} (hb : Below n X Y) (hn : ∀ r ∈ rs, r.b < n) : Mask alt rs D Y := h.blocks fun r hr => hb.block _ (hn r hr)
/-- What is laid at o in one row turns whatever is there into what it will be. -/
theorem Mask.put (h : Mask alt rs D X) (hs : rs.Pairwise Rw.apart) {r : Rw} (hr : r ∈ rs) (o : Nat) (seg : List Value) (ho : o + seg.length ≤ r.len)
    (hl : ∀ cs, cs.length = r.len → alt r.x cs → cs.take o ++ (seg ++ cs.drop (o + seg.length)) = r.x.cells) (halt : alt r.x r.x.cells) :
    Mask alt rs (fun b f => D b f ∨ (b = r.b ∧ f = r.off)) (X.setCells r.b (r.off + o) seg) := fun q hq => by
  obtain ⟨h1, cs, h2, h3, h4, h5⟩ := h q hq
  rcases pairwise_mem hs q hq r hr with rfl | hap
  · refine ⟨World.there_setCells h1 _ _ _, q.x.cells, rfl, halt, fun j v hv => ?_, fun _ => rfl⟩
    rw [← hl cs h2 h3] at hv
    rcases Nat.lt_or_ge j o with hj | hj
    · rw [List.getElem?_append_left (by rw [List.length_take]; omega), List.getElem?_take_of_lt hj] at hv
      exact (World.cell?_setCells_out q.b seg (q.off + o) X ⟨q.b, q.off + j, none⟩ (fun _ => by simp only; omega)).trans (h4 j v hv)
    · have hlt : (cs.take o).length = o := by rw [List.length_take]; omega
      rw [List.getElem?_append_right (by omega), hlt] at hv
      rcases Nat.lt_or_ge (j - o) seg.length with hj2 | hj2
      · rw [List.getElem?_append_left hj2] at hv
        have := World.rangeAt_setCells_same X q.b (q.off + o) seg (fun i hi => by
          have := h1 (o + i) (by omega)
          rwa [← Nat.add_assoc] at this) (j - o) v hv
        have e : q.off + o + (j - o) = q.off + j := by omega
        rwa [e] at this
      · rw [List.getElem?_append_right hj2, List.getElem?_drop] at hv
        have e : o + seg.length + (j - o - seg.length) = j := by omega
        rw [e] at hv
        exact (World.cell?_setCells_out q.b seg (q.off + o) X ⟨q.b, q.off + j, none⟩ (fun _ => by simp only; omega)).trans (h4 j v hv)
  · refine ⟨World.there_setCells h1 _ _ _, cs, h2, h3, World.rangeAt_setCells_apart h4 _ _ _ ?_, fun hd => h5 ?_⟩
    · rcases hap with hap | hap | hap
      · exact .inl hap
      · exact .inr (.inl (by rw [h2]; omega))
      · exact .inr (.inr (by omega))
    · rcases hd with hd | ⟨e1, e2⟩
      · exact hd
      · have a1 := q.x.cells_pos
        have a2 := r.x.cells_pos
        rcases hap with hap | hap | hap
        · exact absurd e1 hap
        · unfold Rw.len at hap; omega
        · unfold Rw.len at hap; omega
end

/-- A slice's rows. -/
def rowsAt (b off size : Nat) (l : List Nd) : List Rw := l.mapIdx fun i x => ⟨b, off + i * size, x⟩
theorem rowsAt_mem {b off size : Nat} {l : List Nd} {r : Rw} (h : r ∈ rowsAt b off size l) : ∃ (i : Nat) (hi : i < l.length), r = ⟨b, off + i * size, l[i]⟩ := by
  unfold rowsAt at h
  obtain ⟨i, hi, rfl⟩ := List.getElem_of_mem h
  exact ⟨i, by simpa using hi, by simp⟩
theorem rowsAt_get {b off size : Nat} {l : List Nd} (i : Nat) (hi : i < l.length) : ⟨b, off + i * size, l[i]⟩ ∈ rowsAt b off size l := by
  unfold rowsAt
  have hi' : i < (l.mapIdx fun i x => (⟨b, off + i * size, x⟩ : Rw)).length := by simpa using hi
  have := List.getElem_mem hi'
  simpa using this
theorem rowsAt_cons (b off size : Nat) (x : Nd) (l : List Nd) : rowsAt b off size (x :: l) = ⟨b, off, x⟩ :: rowsAt b (off + size) size l := by
  unfold rowsAt
  rw [List.mapIdx_cons]
  congr 1
  · simp
  · congr 1; funext i x; congr 1; rw [Nat.add_mul]; omega
theorem rowsAt_pair (b size : Nat) : ∀ (l : List Nd) (off : Nat), (∀ x ∈ l, x.cells.length = size) → (rowsAt b off size l).Pairwise Rw.apart
  | [], _, _ => by simp [rowsAt]
  | x :: l, off, h => by
    rw [rowsAt_cons]
    refine List.Pairwise.cons (fun r hr => ?_) (rowsAt_pair b size l (off + size) fun y hy => h y (by simp [hy]))
    obtain ⟨i, hi, rfl⟩ := rowsAt_mem hr
    refine .inr (.inl ?_)
    show off + x.cells.length ≤ off + size + i * size
    rw [h x (by simp)]
    omega

mutual
/-- The rows behind an expression. -/
def subEx : Ex → List Rw
  | .mk _ _ _ A _ kids => rowsAt (bkA A) (ofA A) 4 (kids.map .ex) ++ subExs kids
def subExs : List Ex → List Rw
  | [] => []
  | e :: l => subEx e ++ subExs l
end
mutual
/-- The rows behind a statement. -/
def subSt : St → List Rw
  | .mk _ _ _ _ _ e aA _ args bA _ body eA _ els _ =>
    subEx e ++ ((rowsAt (bkA aA) (ofA aA) 4 (args.map .ex) ++ subExs args) ++ ((rowsAt (bkA bA) (ofA bA) 23 (body.map .st) ++ subSts body) ++ (rowsAt (bkA eA) (ofA eA) 23 (els.map .st) ++ subSts els)))
def subSts : List St → List Rw
  | [] => []
  | s :: l => subSt s ++ subSts l
end
theorem subExs_append (p q : List Ex) : subExs (p ++ q) = subExs p ++ subExs q := by
  induction p with
  | nil => rfl
  | cons e p ih => rw [List.cons_append, subExs, subExs, ih, List.append_assoc]
theorem subSts_append (p q : List St) : subSts (p ++ q) = subSts p ++ subSts q := by
  induction p with
  | nil => rfl
  | cons e p ih => rw [List.cons_append, subSts, subSts, ih, List.append_assoc]
def rwExs (A : Option Addr) (l : List Ex) : List Rw := rowsAt (bkA A) (ofA A) 4 (l.map .ex) ++ subExs l
def rwSts (A : Option Addr) (l : List St) : List Rw := rowsAt (bkA A) (ofA A) 23 (l.map .st) ++ subSts l
def rwVas (A : Option Addr) (l : List Va) : List Rw := rowsAt (bkA A) (ofA A) 13 (l.map .va)
def subMe (m : Me) : List Rw := rwVas m.pA m.params ++ (rwVas m.lA m.locals ++ rwSts m.bA m.body)
def rwMes (A : Option Addr) (l : List Me) : List Rw := rowsAt (bkA A) (ofA A) 17 (l.map .me) ++ l.flatMap subMe
def subCl (c : Cl) : List Rw := rowsAt (bkA c.pA) (ofA c.pA) 1 (c.params.map .str) ++ (rowsAt (bkA c.aA) (ofA c.aA) 2 (c.above.map .ow) ++ (rwVas c.fA c.fields ++ rwMes c.mA c.methods))
def rwCls (A : Option Addr) (l : List Cl) : List Rw := rowsAt (bkA A) (ofA A) 7 (l.map .cl) ++ l.flatMap subCl
theorem subSt_eq (s : St) : subSt s = subEx s.e ++ (rwExs s.aA s.args ++ (rwSts s.bA s.body ++ rwSts s.eA s.els)) := by
  obtain ⟨k, x, y, name, ty, e, aA, ac, args, bA, bc, body, eA, ec, els, pos⟩ := s
  rw [subSt]
  rfl
theorem subEx_sub {e : Ex} {l : List Ex} (h : e ∈ l) : ∀ r ∈ subEx e, r ∈ subExs l := by
  induction l with
  | nil => cases h
  | cons a l ih =>
    intro r hr
    rw [subExs]
    rcases List.mem_cons.1 h with rfl | h
    · exact List.mem_append_left _ hr
    · exact List.mem_append_right _ (ih h r hr)
theorem subSt_sub {e : St} {l : List St} (h : e ∈ l) : ∀ r ∈ subSt e, r ∈ subSts l := by
  induction l with
  | nil => cases h
  | cons a l ih =>
    intro r hr
    rw [subSts]
    rcases List.mem_cons.1 h with rfl | h
    · exact List.mem_append_left _ hr
    · exact List.mem_append_right _ (ih h r hr)

/-- A slice's address is a block's, if there is anything in it. -/
def AdrOk {α : Type} (A : Option Addr) (l : List α) : Prop := 0 < l.length → ∃ b off, A = some ⟨b, off, none⟩
inductive ExS : Ex → Prop
  | mk {k num : Int} {name : ByteArray} {A : Option Addr} {c : Nat} {kids : List Ex} (hA : AdrOk A kids) (hc : kids.length ≤ c) (hm : c ≤ maxLen) (hn : name.size ≤ maxLen) (hk : ∀ e ∈ kids, ExS e) : ExS (.mk k num name A c kids)
inductive StS : St → Prop
  | mk {k : Int} {x y name : ByteArray} {ty : Ty} {e : Ex} {aA : Option Addr} {ac : Nat} {args : List Ex} {bA : Option Addr} {bc : Nat} {body : List St} {eA : Option Addr} {ec : Nat} {els : List St} {pos : Int}
      (he : ExS e) (ha : AdrOk aA args) (hac : args.length ≤ ac) (ham : ac ≤ maxLen) (hai : ∀ e ∈ args, ExS e)
      (hb : AdrOk bA body) (hbc : body.length ≤ bc) (hbm : bc ≤ maxLen) (hbi : ∀ s ∈ body, StS s)
      (hl : AdrOk eA els) (hlc : els.length ≤ ec) (hlm : ec ≤ maxLen) (hli : ∀ s ∈ els, StS s) (hs : x.size ≤ maxLen ∧ y.size ≤ maxLen ∧ name.size ≤ maxLen ∧ ty.cls.size ≤ maxLen) : StS (.mk k x y name ty e aA ac args bA bc body eA ec els pos)
structure MeS (m : Me) : Prop where
  params : AdrOk m.pA m.params
  pc : m.params.length ≤ m.pc
  pm : m.pc ≤ maxLen
  locals : AdrOk m.lA m.locals
  lc : m.locals.length ≤ m.lc
  lm : m.lc ≤ maxLen
  body : AdrOk m.bA m.body
  bc : m.body.length ≤ m.bc
  bm : m.bc ≤ maxLen
  stmts : ∀ s ∈ m.body, StS s
structure ClS (c : Cl) : Prop where
  params : AdrOk c.pA c.params
  pc : c.params.length ≤ c.pc
  pm : c.pc ≤ maxLen
  above : AdrOk c.aA c.above
  ac : c.above.length ≤ c.ac
  am : c.ac ≤ maxLen
  fields : AdrOk c.fA c.fields
  fc : c.fields.length ≤ c.fc
  fm : c.fc ≤ maxLen
  methods : AdrOk c.mA c.methods
  mc : c.methods.length ≤ c.mc
  mm : c.mc ≤ maxLen
  each : ∀ m ∈ c.methods, MeS m

section
variable {X : World}
theorem Holds.sub {rs qs : List Rw} (h : Holds rs X) (hs : ∀ r ∈ qs, r ∈ rs) : Holds qs X := fun r hr => h r (hs r hr)
theorem Holds.left {rs qs : List Rw} (h : Holds (rs ++ qs) X) : Holds rs X := h.sub fun _ hr => List.mem_append_left _ hr
theorem Holds.right {rs qs : List Rw} (h : Holds (rs ++ qs) X) : Holds qs X := h.sub fun _ hr => List.mem_append_right _ hr
theorem lies_rows {α : Type} {mk : α → Nd} {enc : α → List Value} (henc : ∀ a, (mk a).cells = enc a) {A : Option Addr} {l : List α} {size : Nat} (hA : AdrOk A l) (h : Holds (rowsAt (bkA A) (ofA A) size (l.map mk)) X) : Lies X size enc A l := fun i hi => by
  obtain ⟨b, off, rfl⟩ := hA (by omega)
  have h1 := h _ (rowsAt_get i (by simpa using hi))
  simp only [List.getElem_map, henc] at h1
  exact ⟨b, off, rfl, h1.1, h1.2⟩
theorem ExS.in_ {e : Ex} (h : ExS e) (hr : Holds (subEx e) X) : ExIn X e := by
  induction h with
  | mk hA hc hm hn hk ih =>
    rw [subEx] at hr
    exact .mk (lies_rows (mk := .ex) (fun _ => rfl) hA hr.left) hc hm hn fun e he => ih e he (hr.right.sub (subEx_sub he))
theorem StS.in_ {s : St} (h : StS s) (hr : Holds (subSt s) X) : StIn X s := by
  induction h with
  | mk he ha hac ham hai hb hbc hbm _ hl hlc hlm _ hs ihb ihl =>
    rw [subSt] at hr
    have h1 := hr.right.left
    have h2 := hr.right.right.left
    have h3 := hr.right.right.right
    exact .mk (he.in_ hr.left) (lies_rows (mk := .ex) (fun _ => rfl) ha h1.left) hac ham (fun e he => (hai e he).in_ (h1.right.sub (subEx_sub he)))
      (lies_rows (mk := .st) (fun _ => rfl) hb h2.left) hbc hbm (fun s hs => ihb s hs (h2.right.sub (subSt_sub hs)))
      (lies_rows (mk := .st) (fun _ => rfl) hl h3.left) hlc hlm (fun s hs => ihl s hs (h3.right.sub (subSt_sub hs))) hs
theorem MeS.in_ {m : Me} (h : MeS m) (hr : Holds (subMe m) X) : MeIn X m :=
  ⟨lies_rows (mk := .va) (fun _ => rfl) h.params hr.left, h.pc, h.pm, lies_rows (mk := .va) (fun _ => rfl) h.locals hr.right.left, h.lc, h.lm,
    lies_rows (mk := .st) (fun _ => rfl) h.body hr.right.right.left, h.bc, h.bm, fun s hs => (h.stmts s hs).in_ (hr.right.right.right.sub (subSt_sub hs))⟩
theorem ClS.in_ {c : Cl} (h : ClS c) (hr : Holds (subCl c) X) : ClIn X c :=
  ⟨lies_rows (mk := .str) (fun _ => rfl) h.params hr.left, h.pc, h.pm, lies_rows (mk := .ow) (fun _ => rfl) h.above hr.right.left, h.ac, h.am,
    lies_rows (mk := .va) (fun _ => rfl) h.fields hr.right.right.left, h.fc, h.fm, lies_rows (mk := .me) (fun _ => rfl) h.methods hr.right.right.right.left, h.mc, h.mm,
    fun m hm => (h.each m hm).in_ (hr.right.right.right.right.sub fun r hr => List.mem_flatMap.2 ⟨m, hm, hr⟩)⟩
theorem cls_in {A : Option Addr} {l : List Cl} (hA : AdrOk A l) (h : ∀ c ∈ l, ClS c) (hr : Holds (rwCls A l) X) : Lies X 7 Cl.cells A l ∧ ∀ c ∈ l, ClIn X c :=
  ⟨lies_rows (mk := .cl) (fun _ => rfl) hA hr.left, fun c hc => (h c hc).in_ (hr.right.sub fun r hr => List.mem_flatMap.2 ⟨c, hc, hr⟩)⟩
end

/-- Rows that lie apart, in blocks from lo on, below hi; what they hold. -/
structure RowsIn (rs : List Rw) (lo hi : Nat) (X : World) : Prop where
  le : lo ≤ hi
  top : hi ≤ X.heap.size
  rng : ∀ r ∈ rs, lo ≤ r.b ∧ r.b < hi
  sep : rs.Pairwise Rw.apart
  mask : Mask altA rs (fun _ _ => False) X
section
variable {rs qs : List Rw} {lo mid hi lo' hi' : Nat} {X Y : World}
theorem RowsIn.nil (h : lo ≤ hi) (ht : hi ≤ X.heap.size) : RowsIn [] lo hi X := ⟨h, ht, fun _ h => (by cases h), List.Pairwise.nil, fun _ h => (by cases h)⟩
theorem RowsIn.append (h : RowsIn rs lo mid X) (h2 : RowsIn qs lo' hi X) (hm : mid ≤ lo') : RowsIn (rs ++ qs) lo hi X :=
  ⟨by have := h.le; have := h2.le; omega, h2.top, fun r hr => by
      have := h.le
      have := h2.le
      rcases List.mem_append.1 hr with hr | hr
      · have := h.rng r hr; omega
      · have := h2.rng r hr; omega,
    List.pairwise_append.2 ⟨h.sep, h2.sep, fun r hr q hq => .inl (by have := h.rng r hr; have := h2.rng q hq; omega)⟩,
    fun r hr => (List.mem_append.1 hr).elim (h.mask r) (h2.mask r)⟩
theorem RowsIn.wide (h : RowsIn rs lo hi X) (hl : lo' ≤ lo) (hh : hi ≤ hi') (ht : hi' ≤ X.heap.size) : RowsIn rs lo' hi' X :=
  ⟨by have := h.le; omega, ht, fun r hr => by have := h.rng r hr; omega, h.sep, h.mask⟩
theorem RowsIn.blocks (h : RowsIn rs lo hi X) (hs : X.heap.size ≤ Y.heap.size) (he : ∀ k, lo ≤ k → k < hi → Y.heap[k]? = X.heap[k]?) : RowsIn rs lo hi Y :=
  ⟨h.le, Nat.le_trans h.top hs, h.rng, h.sep, h.mask.blocks fun r hr => he _ (h.rng r hr).1 (h.rng r hr).2⟩
theorem RowsIn.below (h : RowsIn rs lo hi X) (hb : Below X.heap.size X Y) : RowsIn rs lo hi Y := h.blocks hb.size fun k _ hk => hb.block k (Nat.lt_of_lt_of_le hk h.top)
/-- A slice's own block; it may hold more. -/
theorem RowsIn.block {α : Type} {b size : Nat} {t : TypeId} {cs : Array Value} {mk : α → Nd} {enc : α → List Value} {l : List α} (hb : X.heap[b]? = some (.cells cs t (0, 0))) (hcs : l.flatMap enc <+: cs.toList)
    (hlen : ∀ a, (mk a).cells.length = size) (hsz : 0 < size) (halt : ∀ a, altA (mk a) (enc a)) : RowsIn (rowsAt b 0 size (l.map mk)) b (b + 1) X := by
  have hlt : b < X.heap.size := (Array.getElem?_eq_some_iff.1 hb).1
  have henc : ∀ a, (enc a).length = size := fun a => by
    obtain ⟨p, hp⟩ := halt a
    rw [hp, Nd.at_len, hlen]
  refine ⟨Nat.le_succ _, hlt, fun r hr => ?_, rowsAt_pair _ _ _ _ fun x hx => ?_, fun r hr => ?_⟩
  · obtain ⟨i, hi, rfl⟩ := rowsAt_mem hr
    exact ⟨Nat.le_refl _, Nat.lt_succ_self _⟩
  · obtain ⟨a, _, rfl⟩ := List.mem_map.1 hx
    exact hlen a
  · obtain ⟨i, hi, rfl⟩ := rowsAt_mem hr
    have hi' : i < l.length := by simpa using hi
    have hsize : l.length * size ≤ cs.size := by
      have := hcs.length_le
      rw [flat_len henc] at this
      exact this
    have hle : i * size + size ≤ l.length * size := by
      have : (i + 1) * size ≤ l.length * size := Nat.mul_le_mul_right _ hi'
      rw [Nat.add_mul] at this; omega
    have hel : (l.map mk)[i] = mk l[i] := by simp
    show X.there b (0 + i * size) ((l.map mk)[i]).cells.length ∧ _
    rw [hel]
    refine ⟨there_of_row hb _ _ (by rw [hlen]; omega), enc l[i], ?_, halt _, range_of_row hb _ _ fun j u hj => ?_, fun h => h.elim⟩
    · rw [henc]
      exact (hlen _).symm
    · have hjs : j < size := by rw [← henc l[i]]; exact (List.getElem?_eq_some_iff.1 hj).1
      obtain ⟨r, hr⟩ := hcs
      show cs[0 + i * size + j]? = some u
      rw [← Array.getElem?_toList, ← hr, Nat.zero_add, List.getElem?_append_left (by rw [flat_len henc]; omega), flat_at henc l i j hi' hjs]
      exact hj
end
theorem St.at_same (s : St) : s.at s.pos = s := by cases s; rfl
theorem altA_self (x : Nd) : altA x x.cells := by
  cases x with
  | cl c => exact ⟨c.pos, rfl⟩
  | me c => exact ⟨c.pos, rfl⟩
  | va c => exact ⟨c.pos, rfl⟩
  | st s => exact ⟨s.pos, by show s.cells = (s.at s.pos).cells; rw [St.at_same]⟩
  | ex e => exact ⟨0, rfl⟩
  | ow e => exact ⟨0, rfl⟩
  | str e => exact ⟨0, rfl⟩
theorem St.withTy_same (s : St) : s.withTy s.ty = s := by cases s; rfl
theorem altT_self (x : Nd) : altT x x.cells := by
  cases x with
  | me c => exact ⟨c.ret, rfl⟩
  | va c => exact ⟨c.ty, rfl⟩
  | st s => exact ⟨s.ty, by show s.cells = (if s.ty.k = 2 ∧ s.ty.k = 2 then s.withTy s.ty else s).cells; rw [St.withTy_same]; simp⟩
  | cl e => exact ⟨⟨0, ⟨#[]⟩, 0, ⟨0, 0⟩, ⟨0, 0⟩, ⟨0, 0⟩, ⟨0, 0⟩⟩, rfl⟩
  | ex e => exact ⟨⟨0, ⟨#[]⟩, 0, ⟨0, 0⟩, ⟨0, 0⟩, ⟨0, 0⟩, ⟨0, 0⟩⟩, rfl⟩
  | ow e => exact ⟨⟨0, ⟨#[]⟩, 0, ⟨0, 0⟩, ⟨0, 0⟩, ⟨0, 0⟩, ⟨0, 0⟩⟩, rfl⟩
  | str e => exact ⟨⟨0, ⟨#[]⟩, 0, ⟨0, 0⟩, ⟨0, 0⟩, ⟨0, 0⟩, ⟨0, 0⟩⟩, rfl⟩
end Go.Proofs.Grow
