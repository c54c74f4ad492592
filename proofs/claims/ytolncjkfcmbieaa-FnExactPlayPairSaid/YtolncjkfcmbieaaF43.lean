import Derived.Test.YtolncjkfcmbieaaF0
namespace Go.Proofs.Ytolncjkfcmbieaa.P
open Go.RowKit Go.Proofs.YtolncjkfcmbieaaW.PrintWords Go.Proofs.YtolncjkfcmbieaaW.PrintLast Go.Proofs.YtolncjkfcmbieaaW.PrintMore
attribute [local go_sem] max2_int min2_int max_two min_two max_three min_three max_four min_four   -- for this text's walks alone
set_option linter.unusedVariables false
set_option linter.unusedSimpArgs false

def laws_toPairStep.f (a0_0 : Int) (a0_1 : Int) : Option (Int × Int) := some (a0_0, a0_1)
set_option maxHeartbeats 8000000 in
set_option maxRecDepth 100000 in
theorem laws_toPairStep.calls (a0_0 : Int) (a0_1 : Int) (r1 : Int) (r2 : Int) (w : World) (h : laws_toPairStep.f a0_0 a0_1 = some (r1, r2)) :
  Calls Try.prog 32 #[.agg #[.int .i64 a0_0, .int .i64 a0_1]] w fun e w' => e = .returned (.agg #[.int .i64 r1, .int .i64 r2]) ∧ Below w.heap.size w w' := by
 have hu43 := Try.underlying43
 have hu51 := Try.underlying51
 have HB := Aside0.mk (Below.refl w.heap.size w)
 have H : (some (a0_0, a0_1)) = some (r1, r2) := h
 clear h
 simp only [Option.some.injEq, Prod.mk.injEq] at H
 obtain ⟨rfl, rfl⟩ := H
 go_enter Try.func32, Try.ntmps32
 go_wp2_with (first | ((with_reducible refine gate_dst (N := 1) rfl ?_); refine box_event ?hg (N := 1) ?hd (cs := #[.int .i64 a0_0, .int .i64 a0_1]) (t := 43) ?hr ?_; (case hd => rfl); (case hg => rfl); (case hr => first | (go_simp; done) | (go_simp; rfl)); intro gb507 hg w2 hbox hb; have BK507 := Aside0.mk (hbox); have GW507 := gw_ hg HB; have GE507 := gw_ hg HB; replace HB := bst_ HB hb; clear hb hbox hg) | ((with_reducible refine gate_dst (N := 2) rfl ?_); refine box_event ?hg (N := 2) ?hd (cs := #[.int .i64 0, .int .i64 0]) (t := 51) ?hr ?_; (case hd => rfl); (case hg => rfl); (case hr => first | (go_simp; done) | (go_simp; rfl)); intro gb508 hg w3 hbox hb; have BK508 := Aside0.mk (hbox); have GW508 := gw_ hg HB; have GE508 := gw_ hg HB; have NB507_508 := nl_ hg BK507; have NB508_507 := ng_ hg BK507; replace BK507 := bb_ BK507 hb; replace HB := bst_ HB hb; clear hb hbox hg) | ((with_reducible refine gate_dst (N := 3) rfl ?_); refine box_event ?hg (N := 3) ?hd (cs := #[.int .i64 0, .int .i64 0]) (t := 51) ?hr ?_; (case hd => rfl); (case hg => rfl); (case hr => first | (go_simp; done) | (go_simp; rfl)); intro gb509 hg w4 hbox hb; have BK509 := Aside0.mk (hbox); have GW509 := gw_ hg HB; have GE509 := gw_ hg HB; have NB507_509 := nl_ hg BK507; have NB509_507 := ng_ hg BK507; have NB508_509 := nl_ hg BK508; have NB509_508 := ng_ hg BK508; replace BK507 := bb_ BK507 hb; replace BK508 := bb_ BK508 hb; replace HB := bst_ HB hb; clear hb hbox hg; have hnb5 := NB507_508.out; have hnc5 := NB508_507.out; have hnb6 := NB507_509.out; have hnc6 := NB509_507.out; have hcz7_0 : w4.cell? ⟨gb507, 0, none⟩ = some (.int .i64 a0_0) := bc_ BK507 0; have hcz7_1 : w4.cell? ⟨gb507, 1, none⟩ = some (.int .i64 a0_1) := bc_ BK507 1; have hfz7_0 := blk_frozen BK507.out 0; have hfz7_1 := blk_frozen BK507.out 1; have hnb8 := NB509_508.out; have hnc8 := NB508_509.out; have hcz9_0 : w4.cell? ⟨gb509, 0, none⟩ = some (.int .i64 0) := bc_ BK509 0; have hcz9_1 : w4.cell? ⟨gb509, 1, none⟩ = some (.int .i64 0) := bc_ BK509 1; have hfz9_0 := blk_frozen BK509.out 0; have hfz9_1 := blk_frozen BK509.out 1; have hcz10_0 : w4.cell? ⟨gb508, 0, none⟩ = some (.int .i64 0) := bc_ BK508 0; have hcz10_1 : w4.cell? ⟨gb508, 1, none⟩ = some (.int .i64 0) := bc_ BK508 1; have hfz10_0 := blk_frozen BK508.out 0; have hfz10_1 := blk_frozen BK508.out 1))
 refine bodyPost_ret (results_cell_row rfl _ _ gb508 51 #[.int .i64 a0_0, .int .i64 a0_1] (0, 0) _ rfl (by (with_reducible repeat (first | refine blk_drewN ?_ _ | refine blk_drew ?_ | refine blk_alloc ?_ _)); refine blk_put (cs := #[.int .i64 a0_0, .int .i64 0]) ?_ 1 _ rfl; (with_reducible repeat (first | refine blk_drewN ?_ _ | refine blk_drew ?_ | refine blk_alloc ?_ _)); refine blk_put (cs := #[.int .i64 0, .int .i64 0]) ?_ 0 _ rfl; (with_reducible repeat (first | refine blk_drewN ?_ _ | refine blk_drew ?_ | refine blk_alloc ?_ _)); refine blk_far ?_ NB508_509.out _; (with_reducible repeat (first | refine blk_drewN ?_ _ | refine blk_drew ?_ | refine blk_alloc ?_ _)); refine blk_far ?_ NB508_509.out _; (with_reducible repeat (first | refine blk_drewN ?_ _ | refine blk_drew ?_ | refine blk_alloc ?_ _)); exact BK508.out) Try.underlying51 rfl (by kernel_rfl)) rfl ?_
 exact ⟨by first | rfl | (simp [errW_none, errW_some] <;> rfl) | (simp [*, errW_none, errW_some] <;> rfl), by repeat (first | (with_reducible first | exact HB.out | apply below_alloc | apply pw_below_drewN | apply below_drew1 | refine below_set ?_ GE507.out | refine below_set ?_ GE508.out | refine below_set ?_ GE509.out) | exact HB.out)⟩

end Go.Proofs.Ytolncjkfcmbieaa.P
