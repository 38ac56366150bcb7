/- LegalCheck: which class or type of any program is not legal first, and where: for every list of classes that reads of bulk at most 1048576, and every mode, the law returns true. Condition: that bound (the second form), since the lists of types are made anew. -/
import Derived.Test.YtfebpmaaaiaccaaRefTypes
import Derived.Test.YtfebpmaaaiaccaaCheckR
import Derived.Test.YtfebpmaaaiaccaaRdOf
import Derived.Test.YtfebpmaaaiaccaaClArgs
import Derived.Test.YtfebpmaaaiaccaaHeavyAll
import Derived.Test.YtfebpmaaaiaccaaAwake25
import Derived.JoinedCond
set_option linter.unusedSimpArgs false
set_option linter.unusedVariables false
namespace Go.Proofs.Grow
open Go.RowKit
theorem wt_mem {C : List Cl} {cl : Cl} (h : cl ∈ C) : cl.wt ≤ (C.map Cl.wt).sum := sum_mem Cl.wt C cl h
theorem wt_me {cl : Cl} {m : Me} (h : m ∈ cl.methods) : m.wt ≤ cl.wt := by
  have := sum_mem Me.wt cl.methods m h
  unfold Cl.wt
  omega
end Go.Proofs.Grow
namespace Go.Proofs.Ytfebpmaaaiaccaa
open Go.RowKit Go.Proofs.Grow

theorem types_one (W : World) (B : Option Addr) (d : Nat) (cl : Cl) (hin : ClIn W cl) (hs : Lies W 7 Cl.cells B [cl]) (hwt : cl.wt ≤ 1048576) : GivesNew Try.prog 44 #[.slice B 1 d] W 15 Nt.cells (rnP [cl]) := by
  have hm : ∀ m ∈ cl.methods, m.params.length + m.locals.length ≤ maxLen := fun m hm => by
    have := wt_me hm
    unfold Me.wt at this
    unfold maxLen
    omega
  have hn := slP_note [cl] (fun c hc => by
    obtain rfl : c = cl := by simpa using hc
    exact Nat.le_trans hin.fc hin.fm) (fun c hc => by
    obtain rfl : c = cl := by simpa using hc
    exact hm)
  have hlen : (slP [cl]).length ≤ 1000000000000 := by
    have h1 := congrArg List.length hn
    rw [List.length_map] at h1
    have h2 := rnP_len [cl]
    simp only [List.map_cons, List.map_nil, List.sum_cons, List.sum_nil] at h2
    omega
  have h := types_any W B d [cl] (fun X hX => RdP.of (hs.below hX) (fun c hc => by
    obtain rfl : c = cl := by simpa using hc
    obtain ⟨x, rfl⟩ := Ext.of hX
    exact hin.ext x) (by simp [maxLen])) (slP_in (fun c hc => by
    obtain rfl : c = cl := by simpa using hc
    exact hin)) hlen
  rw [hn] at h
  exact h

theorem refTypes_one (W : World) (B : Option Addr) (d : Nat) (cl : Cl) (hin : ClIn W cl) (hs : Lies W 7 Cl.cells B [cl]) (hwt : cl.wt ≤ 1048576) : GivesNew Try.prog 45 #[.slice B 1 d] W 15 Nt.cells (rnP [cl]) := by
  refine GivesOwn.new Nt.cells_len (refTypes_any W B d [cl] (by simp) hs (fun c hc => by
    obtain rfl : c = cl := by simpa using hc
    exact hin) ?_ ?_)
  · have h2 := rnP_len [cl]
    simp only [List.map_cons, List.map_nil, List.sum_cons, List.sum_nil] at h2
    omega
  · intro c hc m hm
    obtain rfl : c = cl := by simpa using hc
    rw [liAll_len]
    have := wt_me hm
    unfold Me.wt at this
    omega

set_option maxRecDepth 100000 in
set_option maxHeartbeats 2000000 in
theorem lawCheck_any (w : World) (A : Option Addr) (c : Nat) (C : List Cl) (m : Int) (hlc : C.length ≤ c) (hcm : c ≤ maxLen) (hs : Lies w 7 Cl.cells A C) (hin : ∀ cl ∈ C, ClIn w cl) (hwt : (C.map Cl.wt).sum ≤ 1048576) :
    Gives Try.prog 8 #[.slice A C.length c, .int .i64 m] w (.bool true) := by
  refine Gives.mk ?_
  have HS := hide hs
  have HI := hide hin
  have HH := hide (heavy_any w A c C hs hlc hcm hin)
  obtain ⟨r, hr⟩ : ∃ r, r = chk C m C := ⟨_, rfl⟩
  have H1 : Hid (∀ x : Ext w, Gives Try.prog 28 #[.slice A C.length c, .int .i64 m] x.val (.agg #[.int .i64 r.1, .int .i64 r.2])) := fun x => by
    rw [hr]
    exact check_any x.val A c C m hlc hcm (hs.ext x) (fun W hb B d cl hcl hl _ => by
      obtain ⟨u, rfl⟩ := Ext.of hb
      exact types_one _ B d cl (((hin cl hcl).ext x).ext u) hl (Nat.le_trans (wt_mem hcl) hwt))
  have H2 : Hid (∀ x : Ext w, Gives Try.prog 29 #[.slice A C.length c, .int .i64 m] x.val (.agg #[.int .i64 r.1, .int .i64 r.2])) := fun x => by
    rw [hr]
    exact refCheck_any x.val A c C m hlc hcm (hs.ext x) (fun W hb B d cl hcl hl _ => by
      obtain ⟨u, rfl⟩ := Ext.of hb
      exact refTypes_one _ B d cl (((hin cl hcl).ext x).ext u) hl (Nat.le_trans (wt_mem hcl) hwt))
  obtain ⟨e, a⟩ := r
  simp only at H1 H2
  clear hs hin hwt hlc hcm hr
  go_enter Try.func8, Try.ntmps8
  go_wp2_with (go_at_call 27; refine (HH.out.over (Ext.here w)).mono ?_; rintro _ _ ⟨y, u, hy, rfl, rfl⟩; cases u)
  rotate_left
  · refine ((awake25_any y.val).over y).mono ?_
    rintro _ _ ⟨y2, hy2, rfl, rfl⟩
    go_wp2_with fail
    go_ret
    exact ⟨rfl, y2.below⟩
  · go_wp2_with (first | (go_at_call 28; refine ((H1.out y).over y).mono ?_; rintro _ _ ⟨y1, hy1, rfl, rfl⟩) | (go_at_call 29; refine ((H2.out y1).over y1).mono ?_; rintro _ _ ⟨y2, hy2, rfl, rfl⟩))
    refine ((awake25_any y2.val).over y2).mono ?_
    rintro _ _ ⟨y3, hy3, rfl, rfl⟩
    go_wp2_with fail
    go_ret
    exact ⟨rfl, y3.below⟩
end Go.Proofs.Ytfebpmaaaiaccaa
set_option linter.unusedSimpArgs false
set_option linter.unusedVariables false
namespace Go.Proofs.Ytfebpmaaaiaccaa
open Go.RowKit Go.Proofs.Grow Go.ChangeShapes Go.WideShapes Go.ChangeAt

set_option maxRecDepth 100000 in
theorem check_contract (H : Type) (enc : TypeId × Value → H) (W : World) (base : Nat) (args : Array Value) (ds gs : List (DataW H)) (before : List MemPlace)
    (hval0 : ∀ (j : Nat) t v, Try.f8.params[j]? = some t → args[j]? = some v → Value.okWide Try.prog W .any base t v)
    (hW : DataW.Whole enc Try.prog Try.f8.params.toList Rows.legalCheckSpec.vars false W args.toList ds gs before) (hk : Rows.uptoSmall H (ds ++ gs) = true) :
    Calls Try.prog 8 args W fun e W' => ∃ v, e = .returned v ∧ Rows.legalCheckSpec.post enc Try.prog Try.f8 false true false false W args v W' := by
  have hval : ∀ (j : Nat) t v, Try.f8.params[j]? = some t → args[j]? = some v → Value.okWide Try.prog W .any base t v := hval0
  have hW' := hW
  obtain ⟨p, q, hA0, hV, rfl, hfz, hnd⟩ := hW
  have hA : DataW.TrodAll enc Try.prog W 0 (fun _ => true) true Try.f8.params.toList args.toList ds p := hA0
  rw [Try.params8] at hA hval
  obtain ⟨v0, vs0, d0, ds0, p0, q0, hargs, rfl, rfl, h0, r0⟩ := trodAll_cons hA
  obtain ⟨v1, vs1, d1, ds1, p1, q1, rfl, rfl, rfl, h1, r1⟩ := trodAll_cons r0
  obtain ⟨rfl, rfl, rfl⟩ := trodAll_nil r1
  obtain rfl : args = #[v0, v1] := by cases args; simp_all
  obtain ⟨A0, len0, cap0, rfl⟩ := okWide_slice Try.underlying38 (hval 0 38 v0 rfl rfl)
  obtain ⟨m1, rfl, hm1⟩ := okWide_int Try.underlying3 (hval 1 3 v1 rfl rfl)
  obtain ⟨fuel, hf⟩ := h0
  obtain ⟨A, C, cap, hcs1, hmc, hcm, hL, hQ, hw⟩ := open_list_w (enc' := Cl.cells) (Q := ClIn W) (wt := Cl.wt) (mu := Rows.uptoBulk) bulk_slice Try.underlying38 cellsCl (by omega) (fun m cs x hm h => open_cl1 m cs x h) hf
  obtain ⟨rfl, rfl, rfl⟩ : A0 = A ∧ len0 = C.length ∧ cap0 = cap := by simpa [Value.cells] using hcs1
  have hbulk : (C.map Cl.wt).sum ≤ 1048576 := by
    have h : Rows.uptoBulkAll ([d0, d1] ++ gs) ≤ 1048576 := of_decide_eq_true hk
    simp only [List.cons_append, List.nil_append, Rows.uptoBulkAll] at h
    have hw' : (C.map Cl.wt).sum ≤ Rows.uptoBulk d0 := hw
    omega
  refine (lawCheck_any W A0 cap0 C m1 hmc hcm hL hQ hbulk).mono fun e W' ⟨x, he, hw⟩ => ?_
  subst he
  subst hw
  exact post_true laidOut (by kernel_rfl) (tb := 4) rfl Try.underlying4 rfl rfl hW' x.below

set_option maxRecDepth 100000 in
theorem check_lifted (os : Os) (started : os.Started) (H : Type) (enc : TypeId × Value → H) (F : Stop.Interp) :
    ReturnsInHanded {} Try.checked os 8 .any ((Rows.OpenSpec.upto Rows.legalCheckSpec).pre6 enc Try.prog Try.f8 Rows.legalCheckUptoRow.domain false) (((Rows.OpenSpec.upto Rows.legalCheckSpec).at F).post enc Try.prog Try.f8 false true false false) := by
  refine returnsInHanded_of_cond (C := Try.checked) (s := Rows.OpenSpec.upto Rows.legalCheckSpec) (k := Rows.uptoSmall) rfl own started (by kernel_rfl) Try.func8
    (OpenSpec.witness (enc := enc) (C := Try.checked) (s := Rows.OpenSpec.upto Rows.legalCheckSpec) (k := Rows.uptoSmall) rfl false ⟨#[], #[.slice none 0 0, .int .i64 0], []⟩ 8 (by kernel_rfl) (by kernel_rfl) (by kernel_rfl)
      (x := ([.nil, .lit (.int .i64 0)], [], [])) (by kernel_rfl) rfl (by kernel_rfl)) ?_
  intro W base args ds gs before hval hW _ hk _
  exact check_contract H enc W base args ds gs before hval hW hk

theorem check_over : Rows.legalCheckUptoRow.holds Try.pinned (Rows.OpenSpec.upto Rows.legalCheckSpec) :=
  OpenClaim.holds_of_cond 8 Try.f8 rfl rfl rfl rfl rfl rfl rfl ⟨rfl, rfl, rfl, rfl, rfl⟩ rfl rfl rfl rfl rfl (by kernel_rfl) Try.func8 (by kernel_rfl)
    (of_decide_eq_true (by kernel_rfl)) (by unfold Func.isWrapper; first | (rw [if_pos (by decide +kernel)]; kernel_rfl) | (rw [if_neg (by decide +kernel)]; exact ⟨rfl, rfl⟩))
    (fun os started H enc _ F => check_lifted os started H enc F)

theorem legalCheckUpto_holds : Rows.LegalCheckUptoSaid := check_over
#print axioms legalCheckUpto_holds
end Go.Proofs.Ytfebpmaaaiaccaa
