/- The walks of inside.Type, demesneref24.Type, and of the law InsideTells. -/
import Derived.Test.YtfebpmaaaiaccaaRefIs
import Derived.Test.YtfebpmaaaiaccaaOwners
set_option linter.unusedSimpArgs false
set_option linter.unusedVariables false
namespace Go.Proofs.Ytfebpmaaaiaccaa
open Go.RowKit Go.Proofs.Grow

theorem owners_len (t : Ty) : t.owners.length ≤ 9223372036854775807 := by
  unfold Ty.owners
  split
  · rw [List.length_take, Ty.own_len]; omega
  · simp

theorem type_any (t : Ty) (w : World) : Gives Try.prog 15 #[.agg t.cells.toArray] w (.bool (allIn t.owners)) := by
  refine Gives.mk ?_
  have Ho := hide (owners_any t)
  unfold Ty.cells at Ho ⊢
  go_enter Try.func15, Try.ntmps15
  go_wp2_with fail
  refine (Ho.out _).mono ?_
  rintro _ _ ⟨y, A, c, rfl, rfl, h1, h2, h3⟩
  go_wp2_with fail
  refine (all_any _ _ _ _ (owners_len t) (by assumption) (by assumption)).mono ?_
  rintro _ _ ⟨z, rfl, rfl⟩
  go_wp2_with fail
  go_ret
  refine ⟨rfl, ?_⟩
  repeat (first | exact Below.refl _ _ | exact Nat.le_refl _ | assumption | refine below_ext ?_ ?_ _ | refine Below.alloc ?_ ?_ _ | refine Below.drew ?_ | refine Below.setCell ?_ ?_ _ | refine Ext.le _ ?_ | refine le_alloc ?_ | refine le_drew ?_ | refine le_setCell ?_)
  all_goals omega

theorem refType_any (t : Ty) (w : World) : Gives Try.prog 16 #[.agg t.cells.toArray] w (.bool (allIn t.owners)) := by
  refine Gives.mk ?_
  have Ho := hide (refOwners_any t)
  unfold Ty.cells at Ho ⊢
  go_enter Try.func16, Try.ntmps16
  go_wp2_with fail
  refine (Ho.out _).mono ?_
  rintro _ _ ⟨y, A, c, rfl, rfl, h1, h2, h3⟩
  go_wp2_with fail
  refine (refAll_any _ _ _ _ (owners_len t) (by assumption)).mono ?_
  rintro _ _ ⟨z, rfl, rfl⟩
  go_wp2_with fail
  go_ret
  refine ⟨rfl, ?_⟩
  repeat (first | exact Below.refl _ _ | exact Nat.le_refl _ | assumption | refine below_ext ?_ ?_ _ | refine Below.alloc ?_ ?_ _ | refine Below.drew ?_ | refine Below.setCell ?_ ?_ _ | refine Ext.le _ ?_ | refine le_alloc ?_ | refine le_drew ?_ | refine le_setCell ?_)
  all_goals omega

set_option maxHeartbeats 4000000 in
set_option maxRecDepth 100000 in
theorem tells_walk (a b : Ow) (t : Ty) (w : World) (A : Option Addr) (c : Nat) (l : List Ow) (hl : l.length ≤ 9223372036854775807) (hc : l.length ≤ c) (hs : Lies w 2 Ow.cells A l) :
    Gives Try.prog 5 #[.agg #[.int .i64 a.k, .int .i64 a.n, .int .i64 b.k, .int .i64 b.n], .slice A l.length c, .agg t.cells.toArray] w (.bool true) := by
  refine Gives.mk ?_
  have H1 := hide (type_any t)
  have H2 := hide (refType_any t)
  have H3 := hide (fun W : World => show Gives Try.prog 13 #[.agg #[.int .i64 a.k, .int .i64 a.n], .agg #[.int .i64 b.k, .int .i64 b.n]] W (.bool (isIn a.k a.n b.k b.n)) by rw [← refIs_eq]; exact refIs_any _ _ _ _ _)
  unfold Ty.cells at H1 H2 ⊢
  have hL := ((hs.alloc (.cells #[.int .i64 a.k, .int .i64 a.n, .int .i64 b.k, .int .i64 b.n] 30)).alloc (.cells #[.int .i64 t.k, .string t.cls, .int .i64 t.n, .int .i64 t.o0.k, .int .i64 t.o0.n, .int .i64 t.o1.k, .int .i64 t.o1.n, .int .i64 t.o2.k, .int .i64 t.o2.n, .int .i64 t.o3.k, .int .i64 t.o3.n] 35)).ext
  have H4 := hide (fun W => all_any _ A c l hl hc (hL W))
  have H5 := hide (fun W => refAll_any _ A c l hl (hL W))
  clear hs hL
  go_enter Try.func5, Try.ntmps5
  go_wp2_with fail
  refine wp_region_ext (by kernel_rfl) (by kernel_rfl) ?_
  repeat (go_big_quiet_step ((first | (go_at_call 9; with_reducible exact (is_any _ _ _ _ _).ext) | (go_at_call 13; with_reducible exact (H3.out _).ext) | (go_at_call 10; with_reducible exact (H4.out _).ext) | (go_at_call 14; with_reducible exact (H5.out _).ext) | (go_at_call 15; with_reducible exact (H1.out _).ext) | (go_at_call 16; with_reducible exact (H2.out _).ext) | (go_at_call 11; exact (awake24_any _).ext))))
  refine wpQuiet_nil ?_
  intro _ hw'
  obtain ⟨v, hw''⟩ := hw'
  subst hw''
  go_wp2
  go_ret
  refine ⟨rfl, ?_⟩
  repeat (first | exact Below.refl _ _ | exact Nat.le_refl _ | assumption | refine below_ext ?_ ?_ _ | refine Below.alloc ?_ ?_ _ | refine Below.drew ?_ | refine Below.setCell ?_ ?_ _ | refine Ext.le _ ?_ | refine le_alloc ?_ | refine le_drew ?_ | refine le_setCell ?_)
  all_goals omega
end Go.Proofs.Ytfebpmaaaiaccaa
