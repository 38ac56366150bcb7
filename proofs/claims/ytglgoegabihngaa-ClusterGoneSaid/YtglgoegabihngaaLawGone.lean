/- The walk of demesnelaw37.ClusterGone. -/
import Derived.Test.YtglgoegabihngaaAwake37
import Derived.Test.YtglgoegabihngaaRefRight
import Derived.Test.YtglgoegabihngaaSame37
set_option linter.unusedSimpArgs false
set_option linter.unusedVariables false
namespace Go.Proofs.Ytglgoegabihngaa
open Go.RowKit Go.Proofs.Grow

theorem giveC_dead (K O : Int) (c : Ce) : (giveC K O c).dead = c.dead := by unfold giveC; split <;> rfl
theorem members_give {l : List Ce} {K O : Int} (hd : ∀ i (h : i < l.length), l[i].dead = false) (hK : K < 0) (hl : Ended l) (hO : inB l O K = false) : members (give l K O) K = [] := by
  unfold members
  rw [List.filter_eq_nil_iff]
  intro x hx
  obtain ⟨i, _, rfl⟩ := List.mem_map.1 hx
  rw [none_in hd hK hl hO (by omega)]; simp

set_option maxHeartbeats 8000000 in
set_option maxRecDepth 100000 in
theorem lawGone_any (w : World) (A : Option Addr) (c : Nat) (l : List Ce) (cl K O : Int) (hlc : l.length ≤ c) (hcm : c ≤ maxLen) (hl : Lies w 7 Ce.cells A l) :
    Gives Try.prog 8 #[.slice A l.length c, .int .i64 cl, .agg #[.int .i64 K, .int .i64 O]] w (.bool true) := by
  refine Gives.mk ?_
  have hg := great_any (w.alloc (.cells #[.int .i64 K, .int .i64 O] 32)) A c l hlc hcm (hl.alloc _)
  have h0 : (w.alloc (.cells #[.int .i64 K, .int .i64 O] 32)).cell? ⟨w.heap.size, 0, none⟩ = some (.int .i64 K) := by rw [World.cell?_alloc_at _ _ _ _ rfl]; rfl
  have h1 : (w.alloc (.cells #[.int .i64 K, .int .i64 O] 32)).cell? ⟨w.heap.size, 1, none⟩ = some (.int .i64 O) := by rw [World.cell?_alloc_at _ _ _ _ rfl]; rfl
  have hz : w.heap.size < (w.alloc (.cells #[.int .i64 K, .int .i64 O] 32)).heap.size := by simp
  have hB : Below w.heap.size w (w.alloc (.cells #[.int .i64 K, .int .i64 O] 32)) := (Below.refl _ _).alloc (Nat.le_refl _) _
  have HL := hide (hl.alloc (.cells #[.int .i64 K, .int .i64 O] 32))
  have HB := hide hB
  clear hl hB
  go_enter Try.func8, Try.ntmps8
  go_upto_region 1 with fail
  generalize w.alloc (.cells #[.int .i64 K, .int .i64 O] 32) = w1 at *
  cases hgr : great l
  · rw [hgr] at hg
    have HG := hide hg
    obtain ⟨hn1, hn2⟩ := great_false hgr
    have HR := hide (refRight_any w1 A c l cl (by omega) HL.out)
    have HI := hide (fun y : Ext w1 => refInside_any y.val A c l O K (by omega) (HL.out.ext y))
    clear hg hgr hn2
    cases hr : right l cl
    · rw [hr] at HR
      as_aux_lemma =>
        go_wp2_with (first | (go_at_call 20; refine HG.out.mono ?_; rintro _ _ ⟨rfl, rfl⟩) | (go_at_call 19; refine HR.out.mono ?_; rintro _ _ ⟨y1, rfl, rfl⟩) | (go_at_call 21; refine ((awake37_any y1.val).over y1).mono ?_; rintro _ _ ⟨y2, hy2, rfl, rfl⟩))
        go_ret
        exact ⟨rfl, HB.out.trans (y2.below.mono HB.out.size)⟩
    rw [hr] at HR
    have Hr := hide hr
    clear hr
    by_cases hK : 0 ≤ K
    · as_aux_lemma =>
        go_wp2_with (first | (go_at_call 20; refine HG.out.mono ?_; rintro _ _ ⟨rfl, rfl⟩) | (go_at_call 19; refine HR.out.mono ?_; rintro _ _ ⟨y1, rfl, rfl⟩) | (go_at_call 21; refine ((awake37_any y1.val).over y1).mono ?_; rintro _ _ ⟨y2, hy2, rfl, rfl⟩))
        go_ret
        exact ⟨rfl, HB.out.trans (y2.below.mono HB.out.size)⟩
    have hKd : decide (0 ≤ K) = false := decide_eq_false hK
    by_cases hO1 : (l.length : Int) < O
    · as_aux_lemma =>
        go_wp2_with (first | (go_at_call 20; refine HG.out.mono ?_; rintro _ _ ⟨rfl, rfl⟩) | (go_at_call 19; refine HR.out.mono ?_; rintro _ _ ⟨y1, rfl, rfl⟩) | (go_at_call 21; refine ((awake37_any y1.val).over y1).mono ?_; rintro _ _ ⟨y2, hy2, rfl, rfl⟩))
        go_ret
        exact ⟨rfl, HB.out.trans (y2.below.mono HB.out.size)⟩
    have hO1d : decide ((l.length : Int) < O) = false := decide_eq_false hO1
    by_cases hO2 : O < wrap64 (-cl)
    · as_aux_lemma =>
        go_wp2_with (first | (go_at_call 20; refine HG.out.mono ?_; rintro _ _ ⟨rfl, rfl⟩) | (go_at_call 19; refine HR.out.mono ?_; rintro _ _ ⟨y1, rfl, rfl⟩) | (go_at_call 21; refine ((awake37_any y1.val).over y1).mono ?_; rintro _ _ ⟨y2, hy2, rfl, rfl⟩))
        go_ret
        exact ⟨rfl, HB.out.trans (y2.below.mono HB.out.size)⟩
    have hO2d : decide (O < wrap64 (-cl)) = false := decide_eq_false hO2
    cases hin : inB l O K
    · rw [hin] at HI
      have HIn := hide hin
      clear hin
      go_wp2_with (first | (go_at_call 20; refine HG.out.mono ?_; rintro _ _ ⟨rfl, rfl⟩) | (go_at_call 19; refine HR.out.mono ?_; rintro _ _ ⟨y1, rfl, rfl⟩) | (go_at_call 13; refine ((HI.out y1).over y1).mono ?_; rintro _ _ ⟨y2, hy2, rfl, rfl⟩))
      clear HI HR HG
      have hB2 : Below w.heap.size w y2.val := HB.out.trans (y2.below.mono HB.out.size)
      have HL2 := hide (HL.out.ext y2)
      have g0 : y2.val.cell? ⟨w.heap.size, 0, none⟩ = some (.int .i64 K) := (y2.cell hz).trans h0
      have g1 : y2.val.cell? ⟨w.heap.size, 1, none⟩ = some (.int .i64 O) := (y2.cell hz).trans h1
      have hz2 : w.heap.size < y2.val.heap.size := y2.lt hz
      clear hy2 h0 h1 hz HL HB hlc hcm
      generalize y2.val = W2 at *
      have HB := hide hB2
      have HKK := hide (And.intro hK (And.intro hO1 hO2))
      clear hB2 y2 y1 hKd hO1d hO2d hO1 hO2
      go_loop [7] (fun s7 => ∃ i : Nat, i ≤ l.length ∧ s7 = .int .i64 i ∧ Hid (∀ e ∈ l.take i, e.dead = false)) (fun s7 => l.length - (intOf s7).toNat)
      case atStart => exact ⟨0, Nat.zero_le _, rfl, by show ∀ x ∈ _, _; simp⟩
      case round =>
        obtain ⟨i, hi, rfl, hno⟩ := hrel
        by_cases hlt : i < l.length
        · have hlt' : (i : Int) < (l.length : Int) := by omega
          obtain ⟨b, off, rfl, hb, hcell⟩ := HL2.out i hlt
          have HT := hide (List.take_succ_eq_append_getElem hlt)
          obtain ⟨e, he⟩ : ∃ e, e = l[i] := ⟨_, rfl⟩
          rw [← he] at hcell HT
          have a6 : W2.cell? ⟨b, off + i * 7 + 6, none⟩ = some (.bool e.dead) := hcell 6 _ rfl
          have HI2 := hide hlt
          clear hcell he hlt
          cases hd : e.dead
          · rw [hd] at a6
            have HD := hide hd
            clear hd
            go_wp2_with fail
            go_round
            case rel => exact ⟨i + 1, HI2.out, by go_num, by
              show ∀ z ∈ _, _
              rw [HT.out]
              intro z hz
              rcases List.mem_append.1 hz with hz | hz
              · exact hno.out z hz
              · simp at hz; subst hz; exact HD.out⟩
            case measure => have := HI2.out; simp [intOf]; omega
          · rw [hd] at a6
            clear hd
            as_aux_lemma =>
              go_wp2_with (go_at_call 21; refine (awake37_any _).mono ?_; rintro _ _ ⟨y2, rfl, rfl⟩)
              go_ret
              exact ⟨rfl, HB.out.trans (y2.below.mono HB.out.size)⟩
        · obtain rfl : i = l.length := by omega
          have hd : ∀ i (h : i < l.length), l[i].dead = false := by
            have := hno.out
            rw [List.take_length] at this
            exact fun i h => this _ (List.getElem_mem h)
          have hlt' : ¬ (l.length : Int) < (l.length : Int) := by omega
          have hKn := HKK.out.1
          have hEnd := right_ended Hr.out
          have hK' : K < 0 := by omega
          have hgR := right_give hd hK' Hr.out HIn.out (by have := HKK.out.2.1; omega) (by have := HKK.out.2.2; omega)
          have hgM := members_give hd hK' hEnd HIn.out
          have hnE := delN_members hd hK'
          have HD := hide hd
          have HE := hide hEnd
          have hgl := give_len l K O
          have hdl := dels_len l K
          have hml : (members l K).length ≤ l.length := by rw [← memTo_all]; exact memTo_len l K _
          have HGv := hide (give_any W2 A c l K O (by omega) HL2.out)
          have HDv := hide (fun y : Ext W2 => delete_any y.val A c l K (by omega) (HL2.out.ext y))
          have HRg : Hid (∀ (W : World) (A3 : Option Addr) (a3 : Nat), Lies W 7 Ce.cells A3 (give l K O) → Gives Try.prog 19 #[.slice A3 l.length a3, .int .i64 cl] W (.bool true)) := fun W A3 a3 h => by
            have := refRight_any W A3 a3 (give l K O) cl (by omega) h
            rwa [hgl, hgR] at this
          have HMg : Hid (∀ (W : World) (A3 : Option Addr) (a3 : Nat), Lies W 7 Ce.cells A3 (give l K O) → GivesOwn Try.prog 18 #[.slice A3 l.length a3, .int .i64 K] W 3 1 encI []) := fun W A3 a3 h => by
            have := refMem_any W A3 a3 (give l K O) K (by omega) h
            rwa [hgl, hgM] at this
          have HMl := hide (fun y : Ext W2 => refMem_any y.val A c l K (by omega) (HL2.out.ext y))
          have HIg : Hid (∀ (W : World) (A3 : Option Addr) (a3 : Nat) (x : Int), Lies W 7 Ce.cells A3 (give l K O) → Gives Try.prog 13 #[.slice A3 l.length a3, .int .i64 x, .int .i64 O] W (.bool (inB (give l K O) x O))) := fun W A3 a3 x h => by
            have := refInside_any W A3 a3 (give l K O) x O (by omega) h
            rwa [hgl] at this
          have HIl := hide (fun (y : Ext W2) (x : Int) => refInside_any y.val A c l x K (by omega) (HL2.out.ext y))
          have HLE := hide (And.intro hgl (And.intro hdl hnE))
          have HP := hide (And.intro hgR hgM)
          clear hno hlt hd hKn hEnd hK' hgR hgM hnE hgl hdl hK
          go_upto_region 10 with (first | (go_at_call 25; refine HGv.out.mono ?_; rintro _ _ ⟨y3, v3, rfl, rfl, ho3⟩; obtain ⟨A3, a3, rfl, _, _, hL3⟩ := ho3.lies Ce.cells_len; rw [HLE.out.1]; have HL3 := hide hL3; clear ho3 hL3) | (go_at_call 22; refine (HDv.out y3).mono ?_; rintro _ _ ⟨u4, v4, rfl, rfl, ho4⟩; obtain ⟨A4, a4, rfl, _, _, hL4⟩ := ho4.lies Ce.cells_len; rw [HLE.out.2.1, HLE.out.2.2]; obtain ⟨y4, hy4⟩ : ∃ y : Ext W2, u4.val = y.val := ⟨y3.step u4.below, rfl⟩; have HL4 := hide hL4; have HL5 := hide (HL3.out.ext u4); rw [hy4] at HL4 HL5 ⊢; clear ho4 hL4 hy4))
          clear HL3 HGv HDv
          go_wp2_with (first | (go_at_call 19; refine ((HRg.out _ _ _ HL5.out).over y4).mono ?_; rintro _ _ ⟨y5, hy5, rfl, rfl⟩; have HL6 := hide (HL5.out.into hy5); have HL6d := hide (HL4.out.into hy5)) | (go_at_call 18; refine (HMl.out y6).mono ?_; rintro _ _ ⟨u7, v7, rfl, rfl, ho7⟩; obtain ⟨A7, a7, rfl, _, _, _⟩ := ho7.lies encI_len; obtain ⟨y7, hy7⟩ : ∃ y : Ext W2, u7.val = y.val := ⟨y6.step u7.below, rfl⟩; have HL8 := hide (HL7.out.ext u7); have HL8d := hide (HL7d.out.ext u7); rw [hy7] at HL8 HL8d ⊢; clear ho7 hy7) | (go_at_call 18; refine (HMg.out _ _ _ HL6.out).mono ?_; rintro _ _ ⟨u6, v6, rfl, rfl, ho6⟩; obtain ⟨A6, a6, rfl, _, _, _⟩ := ho6.lies encI_len; obtain ⟨y6, hy6⟩ : ∃ y : Ext W2, u6.val = y.val := ⟨y5.step u6.below, rfl⟩; have HL7 := hide (HL6.out.ext u6); have HL7d := hide (HL6d.out.ext u6); rw [hy6] at HL7 HL7d ⊢; clear ho6 hy6))
          clear HRg HMg HMl HL4 HL5 HL6 HL6d HL7 HL7d
          go_loopw [11] (fun s11 wr => ∃ i : Nat, i ≤ l.length ∧ s11 = .int .i64 i ∧ ∃ z : Ext y7.val, wr = z.val) (fun s11 _ => l.length - (intOf s11).toNat)
          case atStart => exact ⟨0, Nat.zero_le _, rfl, Ext.here _, rfl⟩
          case round =>
            obtain ⟨i, hi, rfl, z, rfl⟩ := hrel
            by_cases hlt : i < l.length
            · have hltc : (i : Int) < (l.length : Int) := by omega
              have HI1 := hide (HIl.out (y7.step z.below) ((i : Int) + 1))
              obtain ⟨q, hq⟩ : ∃ q, inB l ((i : Int) + 1) K = q := ⟨_, rfl⟩
              rw [hq] at HI1
              have Hq := hide hq
              clear hq
              go_upto_region 16 with (go_at_call 13; refine HI1.out.mono ?_; rintro _ _ ⟨u8, rfl, rfl⟩; obtain ⟨z2, hzz⟩ : ∃ z2 : Ext y7.val, u8.val = z2.val := ⟨z.step u8.below, rfl⟩; rw [hzz]; clear hzz)
              have k0 : z2.val.cell? ⟨w.heap.size, 0, none⟩ = some (.int .i64 K) := (z2.cell (y7.lt hz2)).trans ((y7.cell hz2).trans g0)
              have k1 : z2.val.cell? ⟨w.heap.size, 1, none⟩ = some (.int .i64 O) := (z2.cell (y7.lt hz2)).trans ((y7.cell hz2).trans g1)
              have hz3 : w.heap.size < z2.val.heap.size := z2.lt (y7.lt hz2)
              have hKn : K < 0 := HKK.out.1
              have hgat := give_at (l := l) (K := K) (O := O) hKn hlt
              have hdat := dels_at (l := l) (K := K) HD.out hKn hlt
              have hlive := HD.out i hlt
              rw [Hq.out] at hdat
              have HIN2 := hide (fun V : Ext z2.val => HIg.out V.val A3 a3 ((i : Int) + 1) ((HL8.out.ext z2).ext V))
              obtain ⟨b, off, rfl, hb, hcell⟩ := ((HL2.out.ext y7).ext z2) i hlt
              obtain ⟨b3, off3, rfl, hb3, hcell3⟩ := (HL8.out.ext z2) i (by rw [HLE.out.1]; exact hlt)
              obtain ⟨b4, off4, rfl, hb4, hcell4⟩ := (HL8d.out.ext z2) i (by rw [HLE.out.2.1]; exact hlt)
              rw [hgat] at hcell3
              rw [hdat] at hcell4
              have hout : inB l ((i : Int) + 1) K = false → giveC K O l[i] = l[i] := fun h => own_out HD.out Hr.out hlt h
              have hing : q = true → inB (give l K O) ((i : Int) + 1) O = true := fun h => in_give HD.out hKn HE.out HIn.out (Hq.out.trans h) (by omega)
              rw [Hq.out] at hout
              have hgd : (giveC K O l[i]).dead = false := (giveC_dead _ _ _).trans hlive
              obtain ⟨e, he⟩ : ∃ e, e = l[i] := ⟨_, rfl⟩
              rw [← he] at hcell hcell3 hcell4 hout hlive hgd
              have HK := hide hlt
              have a1 : z2.val.cell? ⟨b, off + i * 7 + 1, none⟩ = some (.int .i64 e.o0) := hcell 1 _ rfl
              have a2 : z2.val.cell? ⟨b, off + i * 7 + 1 + 1, none⟩ = some (.int .i64 e.o1) := hcell 2 _ rfl
              have a3' : z2.val.cell? ⟨b, off + i * 7 + 1 + 2, none⟩ = some (.int .i64 e.o2) := hcell 3 _ rfl
              have a4' : z2.val.cell? ⟨b, off + i * 7 + 1 + 3, none⟩ = some (.int .i64 e.o3) := hcell 4 _ rfl
              have d1 : z2.val.cell? ⟨b4, off4 + i * 7 + 1, none⟩ = some (.int .i64 e.o0) := hcell4 1 _ rfl
              have d2 : z2.val.cell? ⟨b4, off4 + i * 7 + 1 + 1, none⟩ = some (.int .i64 e.o1) := hcell4 2 _ rfl
              have d3 : z2.val.cell? ⟨b4, off4 + i * 7 + 1 + 2, none⟩ = some (.int .i64 e.o2) := hcell4 3 _ rfl
              have d4 : z2.val.cell? ⟨b4, off4 + i * 7 + 1 + 3, none⟩ = some (.int .i64 e.o3) := hcell4 4 _ rfl
              have d6 : z2.val.cell? ⟨b4, off4 + i * 7 + 6, none⟩ = some (.bool q) := hcell4 6 _ rfl
              have e6 : z2.val.cell? ⟨b3, off3 + i * 7 + 6, none⟩ = some (.bool false) := by rw [← hgd]; exact hcell3 6 _ rfl
              have HQ := fun W : World => eqI4 W e.o0 e.o1 e.o2 e.o3
              cases q
              · have hoe := hout rfl
                rw [hoe] at hcell3
                have e1 : z2.val.cell? ⟨b3, off3 + i * 7 + 1, none⟩ = some (.int .i64 e.o0) := hcell3 1 _ rfl
                have e2 : z2.val.cell? ⟨b3, off3 + i * 7 + 1 + 1, none⟩ = some (.int .i64 e.o1) := hcell3 2 _ rfl
                have e3 : z2.val.cell? ⟨b3, off3 + i * 7 + 1 + 2, none⟩ = some (.int .i64 e.o2) := hcell3 3 _ rfl
                have e4 : z2.val.cell? ⟨b3, off3 + i * 7 + 1 + 3, none⟩ = some (.int .i64 e.o3) := hcell3 4 _ rfl
                clear hcell hcell3 hcell4 hout hing hlive hgd he hlt hgat hdat hoe HL8 HL8d HIg HIl HIN2 HI1
                refine wp_region_ext (by kernel_rfl) (by kernel_rfl) ?_
                repeat (go_big_quiet_step ((first | fail)))
                refine wpQuiet_nil ?_
                intro _ hw'
                obtain ⟨v, hw''⟩ := hw'
                subst hw''
                go_wp2_with fail
                go_roundw
                case rel => exact ⟨i + 1, HK.out, by go_num, z2.step v.below, rfl⟩
                case measure => have := HK.out; simp [intOf]; omega
              · have hie := hing rfl
                rw [hie] at HIN2
                clear hcell hcell3 hcell4 hout hing hlive hgd he hlt hgat hdat hie HL8 HL8d HIg HIl HI1
                refine wp_region_ext (by kernel_rfl) (by kernel_rfl) ?_
                repeat (go_big_quiet_step ((first | (go_at_call 13; with_reducible exact (HIN2.out _).ext))))
                refine wpQuiet_nil ?_
                intro _ hw'
                obtain ⟨v, hw''⟩ := hw'
                subst hw''
                go_wp2_with fail
                go_roundw
                case rel => exact ⟨i + 1, HK.out, by go_num, z2.step v.below, rfl⟩
                case measure => have := HK.out; simp [intOf]; omega
            · obtain rfl : i = l.length := by omega
              have hltc : ¬ (l.length : Int) < (l.length : Int) := by omega
              clear HL8 HL8d HIg HIl
              go_wp2_with (go_at_call 21; refine (awake37_any _).mono ?_; rintro _ _ ⟨y8, rfl, rfl⟩)
              go_ret
              exact ⟨rfl, HB.out.trans (((y7.step z.below).step y8.below).below.mono HB.out.size)⟩
    · rw [hin] at HI
      clear hin
      as_aux_lemma =>
        go_wp2_with (first | (go_at_call 20; refine HG.out.mono ?_; rintro _ _ ⟨rfl, rfl⟩) | (go_at_call 19; refine HR.out.mono ?_; rintro _ _ ⟨y1, rfl, rfl⟩) | (go_at_call 13; refine ((HI.out y1).over y1).mono ?_; rintro _ _ ⟨y2, hy2, rfl, rfl⟩) | (go_at_call 21; refine ((awake37_any y2.val).over y2).mono ?_; rintro _ _ ⟨y3, hy3, rfl, rfl⟩))
        go_ret
        exact ⟨rfl, HB.out.trans (y3.below.mono HB.out.size)⟩
  · rw [hgr] at hg
    have HG := hide hg
    clear hg hgr
    go_wp2_with (first | (go_at_call 20; refine HG.out.mono ?_; rintro _ _ ⟨rfl, rfl⟩) | (go_at_call 21; refine ((awake37_any _).over (Ext.here w1)).mono ?_; rintro _ _ ⟨y2, hy2, rfl, rfl⟩))
    go_ret
    exact ⟨rfl, HB.out.trans (y2.below.mono HB.out.size)⟩
end Go.Proofs.Ytglgoegabihngaa
