import Derived.Test.YtifpegepdgmmbaaW2
set_option linter.unusedVariables false
set_option linter.unusedSimpArgs false
set_option maxRecDepth 100000
set_option maxHeartbeats 8000000
namespace Go.Proofs.Ytifpegepdgmmbaa.M
open Go.GW Go.Proofs

theorem law35_CorruptNames.ok  (r : Bool) (H0 : law35_CorruptNames.f = some r) :
    Does Try.prog 5 [].toArray [] [] false (fun v Δ => v = .bool r ∧ Δ = []) := by
 refine Does.body (vs := []) Try.func5 rfl trivial trivial fun w S => ?_
 unfold law35_CorruptNames.f at H0
 refine J.sr ?_
 refine JL.as (.bool false) ?_
 refine JL.es [] ?_
 refine J.sr ?_
 obtain ⟨t1, hc2, H0⟩ := bind_some H0
 refine JL.call [] [] [] (ref26_One.ok _ hc2) trivial ?_
 rintro _ _ ⟨rfl, rfl⟩
 refine JL.alloc (cl_23 zv_23) fun b3 => ?_
 refine JL.store 0 b3 0 23 (cl_23 zv_23) (cl_23 t1) tySize_23 ?_
 refine JL.es [(1, .pointer (some ⟨b3, 0, none⟩))] ?_
 refine J.seq ?_
 refine J.drawT 16 ?_
 refine QL.pur (mv_25 zv_25) (some 37) ?_
 refine QL.pur (.agg #[.int .u8 4, .int .i64 0, .int .i64 0, .int .i64 0, .int .i64 0, .int .i64 0, .int .i64 0, .int .i64 0]) (some 38) ?_
 refine QL.pur (.agg #[.int .u8 1, .int .i64 0, .int .i64 0, .int .i64 0, .int .i64 0, .int .i64 0, .int .i64 0, .int .i64 0]) (some 39) ?_
 obtain ⟨t4, hc5, H0⟩ := bind_some H0
 refine QL.call [] [] (law35_of.ok 0 0 1 _ hc5) trivial ?_
 refine QL.pur (.agg #[.int .u8 1, .int .i64 0, .int .i64 0, .int .i64 0, .int .i64 t4.Re, .int .i64 t4.Im, .int .i64 t4.Den, .int .i64 0]) (some 41) ?_
 refine QL.val (mv_23 t1) (some 42) (yields_load_boxes 0 0 (cl_23 t1) (holds_box b3 23 (cl_23 t1)) tyAgg_23 tySize_23) ?_
 refine QL.pur (.agg #[.int .u8 1, .int .i64 0, .int .i64 0, .int .i64 0, .int .i64 t1.Re, .int .i64 t1.Im, .int .i64 t1.Den, .int .i64 1]) (some 43) ?_
 refine QL.val (mv_23 t1) (some 44) (yields_load_boxes 0 0 (cl_23 t1) (holds_box b3 23 (cl_23 t1)) tyAgg_23 tySize_23) ?_
 refine QL.pur (.agg #[.int .u8 2, .int .i64 0, .int .i64 0, .int .i64 0, .int .i64 t1.Re, .int .i64 t1.Im, .int .i64 t1.Den, .int .i64 0]) (some 45) ?_
 refine QL.pur (.agg #[.int .u8 2, .int .i64 0, .int .i64 0, .int .i64 0, .int .i64 0, .int .i64 0, .int .i64 0, .int .i64 4]) (some 46) ?_
 refine QL.pur (.agg #[.int .u8 3, .int .i64 0, .int .i64 0, .int .i64 0, .int .i64 0, .int .i64 0, .int .i64 0, .int .i64 (-1)]) (some 47) ?_
 refine QL.pur (.agg #[.int .u8 2, .int .i64 8, .int .i64 0, .int .i64 0, .int .i64 0, .int .i64 0, .int .i64 0, .int .i64 0]) (some 48) ?_
 refine QL.pur (.agg #[.int .u8 2, .int .i64 (-1), .int .i64 0, .int .i64 0, .int .i64 0, .int .i64 0, .int .i64 0, .int .i64 0]) (some 49) ?_
 refine QL.pur (.agg #[.int .u8 2, .int .i64 0, .int .i64 (-1), .int .i64 0, .int .i64 0, .int .i64 0, .int .i64 0, .int .i64 0]) (some 50) ?_
 refine QL.pur (.agg #[.int .u8 2, .int .i64 0, .int .i64 2, .int .i64 1, .int .i64 0, .int .i64 0, .int .i64 0, .int .i64 0]) (some 51) ?_
 refine QL.pur (.agg #[.int .u8 2, .int .i64 0, .int .i64 0, .int .i64 33, .int .i64 0, .int .i64 0, .int .i64 0, .int .i64 0]) (some 52) ?_
 refine QL.nil ?_
 refine JA.nil ?_
 refine JL.buildSl 25 fl_Spoil.kd (([(⟨0, 0, 0, 0, (⟨0, 0, 0⟩ : Cx), 0⟩ : Spoil), (⟨4, 0, 0, 0, (⟨0, 0, 0⟩ : Cx), 0⟩ : Spoil), (⟨1, 0, 0, 0, (⟨0, 0, 0⟩ : Cx), 0⟩ : Spoil), (⟨1, 0, 0, 0, t4, 0⟩ : Spoil), (⟨1, 0, 0, 0, t1, 1⟩ : Spoil), (⟨2, 0, 0, 0, t1, 0⟩ : Spoil), (⟨2, 0, 0, 0, (⟨0, 0, 0⟩ : Cx), 4⟩ : Spoil), (⟨3, 0, 0, 0, (⟨0, 0, 0⟩ : Cx), (-1)⟩ : Spoil), (⟨2, 8, 0, 0, (⟨0, 0, 0⟩ : Cx), 0⟩ : Spoil), (⟨2, (-1), 0, 0, (⟨0, 0, 0⟩ : Cx), 0⟩ : Spoil), (⟨2, 0, (-1), 0, (⟨0, 0, 0⟩ : Cx), 0⟩ : Spoil), (⟨2, 0, 2, 1, (⟨0, 0, 0⟩ : Cx), 0⟩ : Spoil), (⟨2, 0, 0, 33, (⟨0, 0, 0⟩ : Cx), 0⟩ : Spoil)] : List Spoil) : List Spoil) [.int .u8 0, .int .i64 0, .int .i64 0, .int .i64 0, .int .i64 0, .int .i64 0, .int .i64 0, .int .i64 0, .int .u8 4, .int .i64 0, .int .i64 0, .int .i64 0, .int .i64 0, .int .i64 0, .int .i64 0, .int .i64 0, .int .u8 1, .int .i64 0, .int .i64 0, .int .i64 0, .int .i64 0, .int .i64 0, .int .i64 0, .int .i64 0, .int .u8 1, .int .i64 0, .int .i64 0, .int .i64 0, .int .i64 t4.Re, .int .i64 t4.Im, .int .i64 t4.Den, .int .i64 0, .int .u8 1, .int .i64 0, .int .i64 0, .int .i64 0, .int .i64 t1.Re, .int .i64 t1.Im, .int .i64 t1.Den, .int .i64 1, .int .u8 2, .int .i64 0, .int .i64 0, .int .i64 0, .int .i64 t1.Re, .int .i64 t1.Im, .int .i64 t1.Den, .int .i64 0, .int .u8 2, .int .i64 0, .int .i64 0, .int .i64 0, .int .i64 0, .int .i64 0, .int .i64 0, .int .i64 4, .int .u8 3, .int .i64 0, .int .i64 0, .int .i64 0, .int .i64 0, .int .i64 0, .int .i64 0, .int .i64 (-1), .int .u8 2, .int .i64 8, .int .i64 0, .int .i64 0, .int .i64 0, .int .i64 0, .int .i64 0, .int .i64 0, .int .u8 2, .int .i64 (-1), .int .i64 0, .int .i64 0, .int .i64 0, .int .i64 0, .int .i64 0, .int .i64 0, .int .u8 2, .int .i64 0, .int .i64 (-1), .int .i64 0, .int .i64 0, .int .i64 0, .int .i64 0, .int .i64 0, .int .u8 2, .int .i64 0, .int .i64 2, .int .i64 1, .int .i64 0, .int .i64 0, .int .i64 0, .int .i64 0, .int .u8 2, .int .i64 0, .int .i64 0, .int .i64 33, .int .i64 0, .int .i64 0, .int .i64 0, .int .i64 0] false (closes_fl rfl) fun b6 => ?_
 refine JL.as (.slice (some ⟨b6, 0, none⟩) ([(⟨0, 0, 0, 0, (⟨0, 0, 0⟩ : Cx), 0⟩ : Spoil), (⟨4, 0, 0, 0, (⟨0, 0, 0⟩ : Cx), 0⟩ : Spoil), (⟨1, 0, 0, 0, (⟨0, 0, 0⟩ : Cx), 0⟩ : Spoil), (⟨1, 0, 0, 0, t4, 0⟩ : Spoil), (⟨1, 0, 0, 0, t1, 1⟩ : Spoil), (⟨2, 0, 0, 0, t1, 0⟩ : Spoil), (⟨2, 0, 0, 0, (⟨0, 0, 0⟩ : Cx), 4⟩ : Spoil), (⟨3, 0, 0, 0, (⟨0, 0, 0⟩ : Cx), (-1)⟩ : Spoil), (⟨2, 8, 0, 0, (⟨0, 0, 0⟩ : Cx), 0⟩ : Spoil), (⟨2, (-1), 0, 0, (⟨0, 0, 0⟩ : Cx), 0⟩ : Spoil), (⟨2, 0, (-1), 0, (⟨0, 0, 0⟩ : Cx), 0⟩ : Spoil), (⟨2, 0, 2, 1, (⟨0, 0, 0⟩ : Cx), 0⟩ : Spoil), (⟨2, 0, 0, 33, (⟨0, 0, 0⟩ : Cx), 0⟩ : Spoil)] : List Spoil).length 13) ?_
 refine JL.es [(1, .pointer (some ⟨b3, 0, none⟩)), (2, .slice (some ⟨b6, 0, none⟩) ([(⟨0, 0, 0, 0, (⟨0, 0, 0⟩ : Cx), 0⟩ : Spoil), (⟨4, 0, 0, 0, (⟨0, 0, 0⟩ : Cx), 0⟩ : Spoil), (⟨1, 0, 0, 0, (⟨0, 0, 0⟩ : Cx), 0⟩ : Spoil), (⟨1, 0, 0, 0, t4, 0⟩ : Spoil), (⟨1, 0, 0, 0, t1, 1⟩ : Spoil), (⟨2, 0, 0, 0, t1, 0⟩ : Spoil), (⟨2, 0, 0, 0, (⟨0, 0, 0⟩ : Cx), 4⟩ : Spoil), (⟨3, 0, 0, 0, (⟨0, 0, 0⟩ : Cx), (-1)⟩ : Spoil), (⟨2, 8, 0, 0, (⟨0, 0, 0⟩ : Cx), 0⟩ : Spoil), (⟨2, (-1), 0, 0, (⟨0, 0, 0⟩ : Cx), 0⟩ : Spoil), (⟨2, 0, (-1), 0, (⟨0, 0, 0⟩ : Cx), 0⟩ : Spoil), (⟨2, 0, 2, 1, (⟨0, 0, 0⟩ : Cx), 0⟩ : Spoil), (⟨2, 0, 0, 33, (⟨0, 0, 0⟩ : Cx), 0⟩ : Spoil)] : List Spoil).length 13)] ?_
 refine J.seq ?_
 refine J.sr ?_
 refine JL.as (.int .i64 0) ?_
 refine JL.en ?_
 obtain ⟨o1, hit, H0⟩ := bind_some H0
 refine J.loop (σ := Int) (τ := Unit) (G := ((Option Addr) × Nat)) (G' := Unit) _ o1 (fun s g => [(1, .pointer (some ⟨b3, 0, none⟩)), (2, .slice g.1 ([(⟨0, 0, 0, 0, (⟨0, 0, 0⟩ : Cx), 0⟩ : Spoil), (⟨4, 0, 0, 0, (⟨0, 0, 0⟩ : Cx), 0⟩ : Spoil), (⟨1, 0, 0, 0, (⟨0, 0, 0⟩ : Cx), 0⟩ : Spoil), (⟨1, 0, 0, 0, t4, 0⟩ : Spoil), (⟨1, 0, 0, 0, t1, 1⟩ : Spoil), (⟨2, 0, 0, 0, t1, 0⟩ : Spoil), (⟨2, 0, 0, 0, (⟨0, 0, 0⟩ : Cx), 4⟩ : Spoil), (⟨3, 0, 0, 0, (⟨0, 0, 0⟩ : Cx), (-1)⟩ : Spoil), (⟨2, 8, 0, 0, (⟨0, 0, 0⟩ : Cx), 0⟩ : Spoil), (⟨2, (-1), 0, 0, (⟨0, 0, 0⟩ : Cx), 0⟩ : Spoil), (⟨2, 0, (-1), 0, (⟨0, 0, 0⟩ : Cx), 0⟩ : Spoil), (⟨2, 0, 2, 1, (⟨0, 0, 0⟩ : Cx), 0⟩ : Spoil), (⟨2, 0, 0, 33, (⟨0, 0, 0⟩ : Cx), 0⟩ : Spoil)] : List Spoil).length g.2), (3, .int .i64 s)]) (fun s g => [At.box b3 23 (cl_23 t1), At.rd g.1 g.2 fl_Spoil.kd ([(⟨0, 0, 0, 0, (⟨0, 0, 0⟩ : Cx), 0⟩ : Spoil), (⟨4, 0, 0, 0, (⟨0, 0, 0⟩ : Cx), 0⟩ : Spoil), (⟨1, 0, 0, 0, (⟨0, 0, 0⟩ : Cx), 0⟩ : Spoil), (⟨1, 0, 0, 0, t4, 0⟩ : Spoil), (⟨1, 0, 0, 0, t1, 1⟩ : Spoil), (⟨2, 0, 0, 0, t1, 0⟩ : Spoil), (⟨2, 0, 0, 0, (⟨0, 0, 0⟩ : Cx), 4⟩ : Spoil), (⟨3, 0, 0, 0, (⟨0, 0, 0⟩ : Cx), (-1)⟩ : Spoil), (⟨2, 8, 0, 0, (⟨0, 0, 0⟩ : Cx), 0⟩ : Spoil), (⟨2, (-1), 0, 0, (⟨0, 0, 0⟩ : Cx), 0⟩ : Spoil), (⟨2, 0, (-1), 0, (⟨0, 0, 0⟩ : Cx), 0⟩ : Spoil), (⟨2, 0, 2, 1, (⟨0, 0, 0⟩ : Cx), 0⟩ : Spoil), (⟨2, 0, 0, 33, (⟨0, 0, 0⟩ : Cx), 0⟩ : Spoil)] : List Spoil) false]) (fun t => law35_CorruptNames.k5 t1 = some r) (fun t g => [(1, .pointer (some ⟨b3, 0, none⟩))]) (fun t g => [At.box b3 23 (cl_23 t1)]) 0 ((some ⟨b6, 0, none⟩), 13) hit (fun _ h => Heap.to (freeze_row 1 (some ⟨b6, 0, none⟩) 13 25 fl_Spoil.kd ([(⟨0, 0, 0, 0, (⟨0, 0, 0⟩ : Cx), 0⟩ : Spoil), (⟨4, 0, 0, 0, (⟨0, 0, 0⟩ : Cx), 0⟩ : Spoil), (⟨1, 0, 0, 0, (⟨0, 0, 0⟩ : Cx), 0⟩ : Spoil), (⟨1, 0, 0, 0, t4, 0⟩ : Spoil), (⟨1, 0, 0, 0, t1, 1⟩ : Spoil), (⟨2, 0, 0, 0, t1, 0⟩ : Spoil), (⟨2, 0, 0, 0, (⟨0, 0, 0⟩ : Cx), 4⟩ : Spoil), (⟨3, 0, 0, 0, (⟨0, 0, 0⟩ : Cx), (-1)⟩ : Spoil), (⟨2, 8, 0, 0, (⟨0, 0, 0⟩ : Cx), 0⟩ : Spoil), (⟨2, (-1), 0, 0, (⟨0, 0, 0⟩ : Cx), 0⟩ : Spoil), (⟨2, 0, (-1), 0, (⟨0, 0, 0⟩ : Cx), 0⟩ : Spoil), (⟨2, 0, 2, 1, (⟨0, 0, 0⟩ : Cx), 0⟩ : Spoil), (⟨2, 0, 0, 33, (⟨0, 0, 0⟩ : Cx), 0⟩ : Spoil)] : List Spoil) false h)) ?_ ?_
 · clear hit
   rintro i80 ⟨Aa77, c78⟩ st1 H1 hb1 hr1
   replace H1 : law35_CorruptNames.s4 t1 t4 i80 = some st1 := H1
   unfold law35_CorruptNames.s4 at H1
   refine JQ.sub [(1, .pointer (some ⟨b3, 0, none⟩)), (2, .slice Aa77 ([(⟨0, 0, 0, 0, (⟨0, 0, 0⟩ : Cx), 0⟩ : Spoil), (⟨4, 0, 0, 0, (⟨0, 0, 0⟩ : Cx), 0⟩ : Spoil), (⟨1, 0, 0, 0, (⟨0, 0, 0⟩ : Cx), 0⟩ : Spoil), (⟨1, 0, 0, 0, t4, 0⟩ : Spoil), (⟨1, 0, 0, 0, t1, 1⟩ : Spoil), (⟨2, 0, 0, 0, t1, 0⟩ : Spoil), (⟨2, 0, 0, 0, (⟨0, 0, 0⟩ : Cx), 4⟩ : Spoil), (⟨3, 0, 0, 0, (⟨0, 0, 0⟩ : Cx), (-1)⟩ : Spoil), (⟨2, 8, 0, 0, (⟨0, 0, 0⟩ : Cx), 0⟩ : Spoil), (⟨2, (-1), 0, 0, (⟨0, 0, 0⟩ : Cx), 0⟩ : Spoil), (⟨2, 0, (-1), 0, (⟨0, 0, 0⟩ : Cx), 0⟩ : Spoil), (⟨2, 0, 2, 1, (⟨0, 0, 0⟩ : Cx), 0⟩ : Spoil), (⟨2, 0, 0, 33, (⟨0, 0, 0⟩ : Cx), 0⟩ : Spoil)] : List Spoil).length c78), (3, .int .i64 i80)] ?_
   refine JQ.turn (Δ' := [At.box b3 23 (cl_23 t1), At.rd Aa77 c78 fl_Spoil.kd ([(⟨0, 0, 0, 0, (⟨0, 0, 0⟩ : Cx), 0⟩ : Spoil), (⟨4, 0, 0, 0, (⟨0, 0, 0⟩ : Cx), 0⟩ : Spoil), (⟨1, 0, 0, 0, (⟨0, 0, 0⟩ : Cx), 0⟩ : Spoil), (⟨1, 0, 0, 0, t4, 0⟩ : Spoil), (⟨1, 0, 0, 0, t1, 1⟩ : Spoil), (⟨2, 0, 0, 0, t1, 0⟩ : Spoil), (⟨2, 0, 0, 0, (⟨0, 0, 0⟩ : Cx), 4⟩ : Spoil), (⟨3, 0, 0, 0, (⟨0, 0, 0⟩ : Cx), (-1)⟩ : Spoil), (⟨2, 8, 0, 0, (⟨0, 0, 0⟩ : Cx), 0⟩ : Spoil), (⟨2, (-1), 0, 0, (⟨0, 0, 0⟩ : Cx), 0⟩ : Spoil), (⟨2, 0, (-1), 0, (⟨0, 0, 0⟩ : Cx), 0⟩ : Spoil), (⟨2, 0, 2, 1, (⟨0, 0, 0⟩ : Cx), 0⟩ : Spoil), (⟨2, 0, 0, 33, (⟨0, 0, 0⟩ : Cx), 0⟩ : Spoil)] : List Spoil) false]) (fun _ h => h.to) ?_
   refine J.seq ?_
   refine J.sr ?_
   refine JL.mv (.int .i64 i80) ?_
   refine JL.mv (.slice Aa77 ([(⟨0, 0, 0, 0, (⟨0, 0, 0⟩ : Cx), 0⟩ : Spoil), (⟨4, 0, 0, 0, (⟨0, 0, 0⟩ : Cx), 0⟩ : Spoil), (⟨1, 0, 0, 0, (⟨0, 0, 0⟩ : Cx), 0⟩ : Spoil), (⟨1, 0, 0, 0, t4, 0⟩ : Spoil), (⟨1, 0, 0, 0, t1, 1⟩ : Spoil), (⟨2, 0, 0, 0, t1, 0⟩ : Spoil), (⟨2, 0, 0, 0, (⟨0, 0, 0⟩ : Cx), 4⟩ : Spoil), (⟨3, 0, 0, 0, (⟨0, 0, 0⟩ : Cx), (-1)⟩ : Spoil), (⟨2, 8, 0, 0, (⟨0, 0, 0⟩ : Cx), 0⟩ : Spoil), (⟨2, (-1), 0, 0, (⟨0, 0, 0⟩ : Cx), 0⟩ : Spoil), (⟨2, 0, (-1), 0, (⟨0, 0, 0⟩ : Cx), 0⟩ : Spoil), (⟨2, 0, 2, 1, (⟨0, 0, 0⟩ : Cx), 0⟩ : Spoil), (⟨2, 0, 0, 33, (⟨0, 0, 0⟩ : Cx), 0⟩ : Spoil)] : List Spoil).length c78) ?_
   refine JL.pur (.int .i64 (([(⟨0, 0, 0, 0, (⟨0, 0, 0⟩ : Cx), 0⟩ : Spoil), (⟨4, 0, 0, 0, (⟨0, 0, 0⟩ : Cx), 0⟩ : Spoil), (⟨1, 0, 0, 0, (⟨0, 0, 0⟩ : Cx), 0⟩ : Spoil), (⟨1, 0, 0, 0, t4, 0⟩ : Spoil), (⟨1, 0, 0, 0, t1, 1⟩ : Spoil), (⟨2, 0, 0, 0, t1, 0⟩ : Spoil), (⟨2, 0, 0, 0, (⟨0, 0, 0⟩ : Cx), 4⟩ : Spoil), (⟨3, 0, 0, 0, (⟨0, 0, 0⟩ : Cx), (-1)⟩ : Spoil), (⟨2, 8, 0, 0, (⟨0, 0, 0⟩ : Cx), 0⟩ : Spoil), (⟨2, (-1), 0, 0, (⟨0, 0, 0⟩ : Cx), 0⟩ : Spoil), (⟨2, 0, (-1), 0, (⟨0, 0, 0⟩ : Cx), 0⟩ : Spoil), (⟨2, 0, 2, 1, (⟨0, 0, 0⟩ : Cx), 0⟩ : Spoil), (⟨2, 0, 0, 33, (⟨0, 0, 0⟩ : Cx), 0⟩ : Spoil)] : List Spoil).length : Int)) (some 56) ?_
   refine JL.pur (.bool (decide (i80 < (([(⟨0, 0, 0, 0, (⟨0, 0, 0⟩ : Cx), 0⟩ : Spoil), (⟨4, 0, 0, 0, (⟨0, 0, 0⟩ : Cx), 0⟩ : Spoil), (⟨1, 0, 0, 0, (⟨0, 0, 0⟩ : Cx), 0⟩ : Spoil), (⟨1, 0, 0, 0, t4, 0⟩ : Spoil), (⟨1, 0, 0, 0, t1, 1⟩ : Spoil), (⟨2, 0, 0, 0, t1, 0⟩ : Spoil), (⟨2, 0, 0, 0, (⟨0, 0, 0⟩ : Cx), 4⟩ : Spoil), (⟨3, 0, 0, 0, (⟨0, 0, 0⟩ : Cx), (-1)⟩ : Spoil), (⟨2, 8, 0, 0, (⟨0, 0, 0⟩ : Cx), 0⟩ : Spoil), (⟨2, (-1), 0, 0, (⟨0, 0, 0⟩ : Cx), 0⟩ : Spoil), (⟨2, 0, (-1), 0, (⟨0, 0, 0⟩ : Cx), 0⟩ : Spoil), (⟨2, 0, 2, 1, (⟨0, 0, 0⟩ : Cx), 0⟩ : Spoil), (⟨2, 0, 0, 33, (⟨0, 0, 0⟩ : Cx), 0⟩ : Spoil)] : List Spoil).length : Int)))) (some 57) ?_
   refine JL.es [(1, .pointer (some ⟨b3, 0, none⟩)), (2, .slice Aa77 ([(⟨0, 0, 0, 0, (⟨0, 0, 0⟩ : Cx), 0⟩ : Spoil), (⟨4, 0, 0, 0, (⟨0, 0, 0⟩ : Cx), 0⟩ : Spoil), (⟨1, 0, 0, 0, (⟨0, 0, 0⟩ : Cx), 0⟩ : Spoil), (⟨1, 0, 0, 0, t4, 0⟩ : Spoil), (⟨1, 0, 0, 0, t1, 1⟩ : Spoil), (⟨2, 0, 0, 0, t1, 0⟩ : Spoil), (⟨2, 0, 0, 0, (⟨0, 0, 0⟩ : Cx), 4⟩ : Spoil), (⟨3, 0, 0, 0, (⟨0, 0, 0⟩ : Cx), (-1)⟩ : Spoil), (⟨2, 8, 0, 0, (⟨0, 0, 0⟩ : Cx), 0⟩ : Spoil), (⟨2, (-1), 0, 0, (⟨0, 0, 0⟩ : Cx), 0⟩ : Spoil), (⟨2, 0, (-1), 0, (⟨0, 0, 0⟩ : Cx), 0⟩ : Spoil), (⟨2, 0, 2, 1, (⟨0, 0, 0⟩ : Cx), 0⟩ : Spoil), (⟨2, 0, 0, 33, (⟨0, 0, 0⟩ : Cx), 0⟩ : Spoil)] : List Spoil).length c78), (3, .int .i64 i80), (57, .bool (decide (i80 < (([(⟨0, 0, 0, 0, (⟨0, 0, 0⟩ : Cx), 0⟩ : Spoil), (⟨4, 0, 0, 0, (⟨0, 0, 0⟩ : Cx), 0⟩ : Spoil), (⟨1, 0, 0, 0, (⟨0, 0, 0⟩ : Cx), 0⟩ : Spoil), (⟨1, 0, 0, 0, t4, 0⟩ : Spoil), (⟨1, 0, 0, 0, t1, 1⟩ : Spoil), (⟨2, 0, 0, 0, t1, 0⟩ : Spoil), (⟨2, 0, 0, 0, (⟨0, 0, 0⟩ : Cx), 4⟩ : Spoil), (⟨3, 0, 0, 0, (⟨0, 0, 0⟩ : Cx), (-1)⟩ : Spoil), (⟨2, 8, 0, 0, (⟨0, 0, 0⟩ : Cx), 0⟩ : Spoil), (⟨2, (-1), 0, 0, (⟨0, 0, 0⟩ : Cx), 0⟩ : Spoil), (⟨2, 0, (-1), 0, (⟨0, 0, 0⟩ : Cx), 0⟩ : Spoil), (⟨2, 0, 2, 1, (⟨0, 0, 0⟩ : Cx), 0⟩ : Spoil), (⟨2, 0, 0, 33, (⟨0, 0, 0⟩ : Cx), 0⟩ : Spoil)] : List Spoil).length : Int))))] ?_
   rcases ite_cases H1 with ⟨h573, H1⟩ | ⟨h573, H1⟩
   · refine J.cond_true h573 ?_
     refine J.skip ?_
     refine JQ.ts [(1, .pointer (some ⟨b3, 0, none⟩)), (2, .slice Aa77 ([(⟨0, 0, 0, 0, (⟨0, 0, 0⟩ : Cx), 0⟩ : Spoil), (⟨4, 0, 0, 0, (⟨0, 0, 0⟩ : Cx), 0⟩ : Spoil), (⟨1, 0, 0, 0, (⟨0, 0, 0⟩ : Cx), 0⟩ : Spoil), (⟨1, 0, 0, 0, t4, 0⟩ : Spoil), (⟨1, 0, 0, 0, t1, 1⟩ : Spoil), (⟨2, 0, 0, 0, t1, 0⟩ : Spoil), (⟨2, 0, 0, 0, (⟨0, 0, 0⟩ : Cx), 4⟩ : Spoil), (⟨3, 0, 0, 0, (⟨0, 0, 0⟩ : Cx), (-1)⟩ : Spoil), (⟨2, 8, 0, 0, (⟨0, 0, 0⟩ : Cx), 0⟩ : Spoil), (⟨2, (-1), 0, 0, (⟨0, 0, 0⟩ : Cx), 0⟩ : Spoil), (⟨2, 0, (-1), 0, (⟨0, 0, 0⟩ : Cx), 0⟩ : Spoil), (⟨2, 0, 2, 1, (⟨0, 0, 0⟩ : Cx), 0⟩ : Spoil), (⟨2, 0, 0, 33, (⟨0, 0, 0⟩ : Cx), 0⟩ : Spoil)] : List Spoil).length c78), (3, .int .i64 i80)] ?_
     refine J.seq ?_
     refine J.block ?_
     refine J.sr ?_
     refine JL.mv (.slice Aa77 ([(⟨0, 0, 0, 0, (⟨0, 0, 0⟩ : Cx), 0⟩ : Spoil), (⟨4, 0, 0, 0, (⟨0, 0, 0⟩ : Cx), 0⟩ : Spoil), (⟨1, 0, 0, 0, (⟨0, 0, 0⟩ : Cx), 0⟩ : Spoil), (⟨1, 0, 0, 0, t4, 0⟩ : Spoil), (⟨1, 0, 0, 0, t1, 1⟩ : Spoil), (⟨2, 0, 0, 0, t1, 0⟩ : Spoil), (⟨2, 0, 0, 0, (⟨0, 0, 0⟩ : Cx), 4⟩ : Spoil), (⟨3, 0, 0, 0, (⟨0, 0, 0⟩ : Cx), (-1)⟩ : Spoil), (⟨2, 8, 0, 0, (⟨0, 0, 0⟩ : Cx), 0⟩ : Spoil), (⟨2, (-1), 0, 0, (⟨0, 0, 0⟩ : Cx), 0⟩ : Spoil), (⟨2, 0, (-1), 0, (⟨0, 0, 0⟩ : Cx), 0⟩ : Spoil), (⟨2, 0, 2, 1, (⟨0, 0, 0⟩ : Cx), 0⟩ : Spoil), (⟨2, 0, 0, 33, (⟨0, 0, 0⟩ : Cx), 0⟩ : Spoil)] : List Spoil).length c78) ?_
     refine JL.mv (.int .i64 i80) ?_
     refine JL.mv (.int .i64 i80) ?_
     refine JL.pur (.int .i64 (w64 (i80 + 1))) (some 64) ?_
     obtain ⟨⟨h578, h579, h580, h581⟩, H1⟩ := ite_must H1
     refine JQ.capLe 1 Aa77 c78 fl_Spoil.kd ([(⟨0, 0, 0, 0, (⟨0, 0, 0⟩ : Cx), 0⟩ : Spoil), (⟨4, 0, 0, 0, (⟨0, 0, 0⟩ : Cx), 0⟩ : Spoil), (⟨1, 0, 0, 0, (⟨0, 0, 0⟩ : Cx), 0⟩ : Spoil), (⟨1, 0, 0, 0, t4, 0⟩ : Spoil), (⟨1, 0, 0, 0, t1, 1⟩ : Spoil), (⟨2, 0, 0, 0, t1, 0⟩ : Spoil), (⟨2, 0, 0, 0, (⟨0, 0, 0⟩ : Cx), 4⟩ : Spoil), (⟨3, 0, 0, 0, (⟨0, 0, 0⟩ : Cx), (-1)⟩ : Spoil), (⟨2, 8, 0, 0, (⟨0, 0, 0⟩ : Cx), 0⟩ : Spoil), (⟨2, (-1), 0, 0, (⟨0, 0, 0⟩ : Cx), 0⟩ : Spoil), (⟨2, 0, (-1), 0, (⟨0, 0, 0⟩ : Cx), 0⟩ : Spoil), (⟨2, 0, 2, 1, (⟨0, 0, 0⟩ : Cx), 0⟩ : Spoil), (⟨2, 0, 0, 33, (⟨0, 0, 0⟩ : Cx), 0⟩ : Spoil)] : List Spoil) false fun h577 => ?_
     refine JL.cut i80.toNat ((w64 (i80 + 1)).toNat) c78 1 Aa77 c78 fl_Spoil.kd ([(⟨0, 0, 0, 0, (⟨0, 0, 0⟩ : Cx), 0⟩ : Spoil), (⟨4, 0, 0, 0, (⟨0, 0, 0⟩ : Cx), 0⟩ : Spoil), (⟨1, 0, 0, 0, (⟨0, 0, 0⟩ : Cx), 0⟩ : Spoil), (⟨1, 0, 0, 0, t4, 0⟩ : Spoil), (⟨1, 0, 0, 0, t1, 1⟩ : Spoil), (⟨2, 0, 0, 0, t1, 0⟩ : Spoil), (⟨2, 0, 0, 0, (⟨0, 0, 0⟩ : Cx), 4⟩ : Spoil), (⟨3, 0, 0, 0, (⟨0, 0, 0⟩ : Cx), (-1)⟩ : Spoil), (⟨2, 8, 0, 0, (⟨0, 0, 0⟩ : Cx), 0⟩ : Spoil), (⟨2, (-1), 0, 0, (⟨0, 0, 0⟩ : Cx), 0⟩ : Spoil), (⟨2, 0, (-1), 0, (⟨0, 0, 0⟩ : Cx), 0⟩ : Spoil), (⟨2, 0, 2, 1, (⟨0, 0, 0⟩ : Cx), 0⟩ : Spoil), (⟨2, 0, 0, 33, (⟨0, 0, 0⟩ : Cx), 0⟩ : Spoil)] : List Spoil) false Try.underlying32 tySize_25 (.inl ⟨rfl, rfl⟩) (.inr ⟨.i64, (w64 (i80 + 1)), by kernel_rfl, h578, rfl⟩) (.inr ⟨.i64, i80, by kernel_rfl, h580, rfl⟩) (.inl rfl) (by omega) (by omega) (by omega) (.inl (by omega)) fun Aa574 c575 => ?_
     obtain ⟨t582, hc583, H1⟩ := bind_some H1
     refine JL.call [] [] [] (corrupt_Table.ok ((([(⟨0, 0, 0, 0, (⟨0, 0, 0⟩ : Cx), 0⟩ : Spoil), (⟨4, 0, 0, 0, (⟨0, 0, 0⟩ : Cx), 0⟩ : Spoil), (⟨1, 0, 0, 0, (⟨0, 0, 0⟩ : Cx), 0⟩ : Spoil), (⟨1, 0, 0, 0, t4, 0⟩ : Spoil), (⟨1, 0, 0, 0, t1, 1⟩ : Spoil), (⟨2, 0, 0, 0, t1, 0⟩ : Spoil), (⟨2, 0, 0, 0, (⟨0, 0, 0⟩ : Cx), 4⟩ : Spoil), (⟨3, 0, 0, 0, (⟨0, 0, 0⟩ : Cx), (-1)⟩ : Spoil), (⟨2, 8, 0, 0, (⟨0, 0, 0⟩ : Cx), 0⟩ : Spoil), (⟨2, (-1), 0, 0, (⟨0, 0, 0⟩ : Cx), 0⟩ : Spoil), (⟨2, 0, (-1), 0, (⟨0, 0, 0⟩ : Cx), 0⟩ : Spoil), (⟨2, 0, 2, 1, (⟨0, 0, 0⟩ : Cx), 0⟩ : Spoil), (⟨2, 0, 0, 33, (⟨0, 0, 0⟩ : Cx), 0⟩ : Spoil)] : List Spoil).take ((w64 (i80 + 1)).toNat)).drop i80.toNat) Aa574 c575 0 _ hc583) ⟨pre_any 2 (view_rd Aa574 c575 fl_Spoil.kd ((([(⟨0, 0, 0, 0, (⟨0, 0, 0⟩ : Cx), 0⟩ : Spoil), (⟨4, 0, 0, 0, (⟨0, 0, 0⟩ : Cx), 0⟩ : Spoil), (⟨1, 0, 0, 0, (⟨0, 0, 0⟩ : Cx), 0⟩ : Spoil), (⟨1, 0, 0, 0, t4, 0⟩ : Spoil), (⟨1, 0, 0, 0, t1, 1⟩ : Spoil), (⟨2, 0, 0, 0, t1, 0⟩ : Spoil), (⟨2, 0, 0, 0, (⟨0, 0, 0⟩ : Cx), 4⟩ : Spoil), (⟨3, 0, 0, 0, (⟨0, 0, 0⟩ : Cx), (-1)⟩ : Spoil), (⟨2, 8, 0, 0, (⟨0, 0, 0⟩ : Cx), 0⟩ : Spoil), (⟨2, (-1), 0, 0, (⟨0, 0, 0⟩ : Cx), 0⟩ : Spoil), (⟨2, 0, (-1), 0, (⟨0, 0, 0⟩ : Cx), 0⟩ : Spoil), (⟨2, 0, 2, 1, (⟨0, 0, 0⟩ : Cx), 0⟩ : Spoil), (⟨2, 0, 0, 33, (⟨0, 0, 0⟩ : Cx), 0⟩ : Spoil)] : List Spoil).take ((w64 (i80 + 1)).toNat)).drop i80.toNat) false true), trivial⟩ ?_
     rintro _ _ ⟨Aa584, c585, rfl, rfl⟩
     refine JL.mv (.tuple #[.slice Aa584 t582.1.length c585, .int .i64 t582.2]) ?_
     refine JL.pur (.slice Aa584 t582.1.length c585) (some 67) ?_
     refine JL.pur (.int .i64 t582.2) (some 68) ?_
     refine JL.as (.slice Aa584 t582.1.length c585) ?_
     refine JL.as (.int .i64 t582.2) ?_
     refine JL.es [(1, .pointer (some ⟨b3, 0, none⟩)), (2, .slice Aa77 ([(⟨0, 0, 0, 0, (⟨0, 0, 0⟩ : Cx), 0⟩ : Spoil), (⟨4, 0, 0, 0, (⟨0, 0, 0⟩ : Cx), 0⟩ : Spoil), (⟨1, 0, 0, 0, (⟨0, 0, 0⟩ : Cx), 0⟩ : Spoil), (⟨1, 0, 0, 0, t4, 0⟩ : Spoil), (⟨1, 0, 0, 0, t1, 1⟩ : Spoil), (⟨2, 0, 0, 0, t1, 0⟩ : Spoil), (⟨2, 0, 0, 0, (⟨0, 0, 0⟩ : Cx), 4⟩ : Spoil), (⟨3, 0, 0, 0, (⟨0, 0, 0⟩ : Cx), (-1)⟩ : Spoil), (⟨2, 8, 0, 0, (⟨0, 0, 0⟩ : Cx), 0⟩ : Spoil), (⟨2, (-1), 0, 0, (⟨0, 0, 0⟩ : Cx), 0⟩ : Spoil), (⟨2, 0, (-1), 0, (⟨0, 0, 0⟩ : Cx), 0⟩ : Spoil), (⟨2, 0, 2, 1, (⟨0, 0, 0⟩ : Cx), 0⟩ : Spoil), (⟨2, 0, 0, 33, (⟨0, 0, 0⟩ : Cx), 0⟩ : Spoil)] : List Spoil).length c78), (3, .int .i64 i80), (5, .int .i64 t582.2)] ?_
     refine JQ.mask [At.box b3 23 (cl_23 t1), At.rd Aa77 c78 fl_Spoil.kd ([(⟨0, 0, 0, 0, (⟨0, 0, 0⟩ : Cx), 0⟩ : Spoil), (⟨4, 0, 0, 0, (⟨0, 0, 0⟩ : Cx), 0⟩ : Spoil), (⟨1, 0, 0, 0, (⟨0, 0, 0⟩ : Cx), 0⟩ : Spoil), (⟨1, 0, 0, 0, t4, 0⟩ : Spoil), (⟨1, 0, 0, 0, t1, 1⟩ : Spoil), (⟨2, 0, 0, 0, t1, 0⟩ : Spoil), (⟨2, 0, 0, 0, (⟨0, 0, 0⟩ : Cx), 4⟩ : Spoil), (⟨3, 0, 0, 0, (⟨0, 0, 0⟩ : Cx), (-1)⟩ : Spoil), (⟨2, 8, 0, 0, (⟨0, 0, 0⟩ : Cx), 0⟩ : Spoil), (⟨2, (-1), 0, 0, (⟨0, 0, 0⟩ : Cx), 0⟩ : Spoil), (⟨2, 0, (-1), 0, (⟨0, 0, 0⟩ : Cx), 0⟩ : Spoil), (⟨2, 0, 2, 1, (⟨0, 0, 0⟩ : Cx), 0⟩ : Spoil), (⟨2, 0, 0, 33, (⟨0, 0, 0⟩ : Cx), 0⟩ : Spoil)] : List Spoil) false] [true, true, false, false] ?_
     refine J.sr ?_
     refine JL.mv (.slice Aa77 ([(⟨0, 0, 0, 0, (⟨0, 0, 0⟩ : Cx), 0⟩ : Spoil), (⟨4, 0, 0, 0, (⟨0, 0, 0⟩ : Cx), 0⟩ : Spoil), (⟨1, 0, 0, 0, (⟨0, 0, 0⟩ : Cx), 0⟩ : Spoil), (⟨1, 0, 0, 0, t4, 0⟩ : Spoil), (⟨1, 0, 0, 0, t1, 1⟩ : Spoil), (⟨2, 0, 0, 0, t1, 0⟩ : Spoil), (⟨2, 0, 0, 0, (⟨0, 0, 0⟩ : Cx), 4⟩ : Spoil), (⟨3, 0, 0, 0, (⟨0, 0, 0⟩ : Cx), (-1)⟩ : Spoil), (⟨2, 8, 0, 0, (⟨0, 0, 0⟩ : Cx), 0⟩ : Spoil), (⟨2, (-1), 0, 0, (⟨0, 0, 0⟩ : Cx), 0⟩ : Spoil), (⟨2, 0, (-1), 0, (⟨0, 0, 0⟩ : Cx), 0⟩ : Spoil), (⟨2, 0, 2, 1, (⟨0, 0, 0⟩ : Cx), 0⟩ : Spoil), (⟨2, 0, 0, 33, (⟨0, 0, 0⟩ : Cx), 0⟩ : Spoil)] : List Spoil).length c78) ?_
     refine JL.mv (.int .i64 i80) ?_
     refine JL.mv (.int .i64 i80) ?_
     refine JL.pur (.int .i64 (w64 (i80 + 1))) (some 73) ?_
     obtain ⟨⟨h591, h592, h593, h594⟩, H1⟩ := ite_must H1
     refine JQ.capLe 1 Aa77 c78 fl_Spoil.kd ([(⟨0, 0, 0, 0, (⟨0, 0, 0⟩ : Cx), 0⟩ : Spoil), (⟨4, 0, 0, 0, (⟨0, 0, 0⟩ : Cx), 0⟩ : Spoil), (⟨1, 0, 0, 0, (⟨0, 0, 0⟩ : Cx), 0⟩ : Spoil), (⟨1, 0, 0, 0, t4, 0⟩ : Spoil), (⟨1, 0, 0, 0, t1, 1⟩ : Spoil), (⟨2, 0, 0, 0, t1, 0⟩ : Spoil), (⟨2, 0, 0, 0, (⟨0, 0, 0⟩ : Cx), 4⟩ : Spoil), (⟨3, 0, 0, 0, (⟨0, 0, 0⟩ : Cx), (-1)⟩ : Spoil), (⟨2, 8, 0, 0, (⟨0, 0, 0⟩ : Cx), 0⟩ : Spoil), (⟨2, (-1), 0, 0, (⟨0, 0, 0⟩ : Cx), 0⟩ : Spoil), (⟨2, 0, (-1), 0, (⟨0, 0, 0⟩ : Cx), 0⟩ : Spoil), (⟨2, 0, 2, 1, (⟨0, 0, 0⟩ : Cx), 0⟩ : Spoil), (⟨2, 0, 0, 33, (⟨0, 0, 0⟩ : Cx), 0⟩ : Spoil)] : List Spoil) false fun h590 => ?_
     refine JL.cut i80.toNat ((w64 (i80 + 1)).toNat) c78 1 Aa77 c78 fl_Spoil.kd ([(⟨0, 0, 0, 0, (⟨0, 0, 0⟩ : Cx), 0⟩ : Spoil), (⟨4, 0, 0, 0, (⟨0, 0, 0⟩ : Cx), 0⟩ : Spoil), (⟨1, 0, 0, 0, (⟨0, 0, 0⟩ : Cx), 0⟩ : Spoil), (⟨1, 0, 0, 0, t4, 0⟩ : Spoil), (⟨1, 0, 0, 0, t1, 1⟩ : Spoil), (⟨2, 0, 0, 0, t1, 0⟩ : Spoil), (⟨2, 0, 0, 0, (⟨0, 0, 0⟩ : Cx), 4⟩ : Spoil), (⟨3, 0, 0, 0, (⟨0, 0, 0⟩ : Cx), (-1)⟩ : Spoil), (⟨2, 8, 0, 0, (⟨0, 0, 0⟩ : Cx), 0⟩ : Spoil), (⟨2, (-1), 0, 0, (⟨0, 0, 0⟩ : Cx), 0⟩ : Spoil), (⟨2, 0, (-1), 0, (⟨0, 0, 0⟩ : Cx), 0⟩ : Spoil), (⟨2, 0, 2, 1, (⟨0, 0, 0⟩ : Cx), 0⟩ : Spoil), (⟨2, 0, 0, 33, (⟨0, 0, 0⟩ : Cx), 0⟩ : Spoil)] : List Spoil) false Try.underlying32 tySize_25 (.inl ⟨rfl, rfl⟩) (.inr ⟨.i64, (w64 (i80 + 1)), by kernel_rfl, h591, rfl⟩) (.inr ⟨.i64, i80, by kernel_rfl, h593, rfl⟩) (.inl rfl) (by omega) (by omega) (by omega) (.inl (by omega)) fun Aa587 c588 => ?_
     obtain ⟨t595, hc596, H1⟩ := bind_some H1
     refine JL.call [] [] [] (corrupt_Spoil.ok [] none 0 ((([(⟨0, 0, 0, 0, (⟨0, 0, 0⟩ : Cx), 0⟩ : Spoil), (⟨4, 0, 0, 0, (⟨0, 0, 0⟩ : Cx), 0⟩ : Spoil), (⟨1, 0, 0, 0, (⟨0, 0, 0⟩ : Cx), 0⟩ : Spoil), (⟨1, 0, 0, 0, t4, 0⟩ : Spoil), (⟨1, 0, 0, 0, t1, 1⟩ : Spoil), (⟨2, 0, 0, 0, t1, 0⟩ : Spoil), (⟨2, 0, 0, 0, (⟨0, 0, 0⟩ : Cx), 4⟩ : Spoil), (⟨3, 0, 0, 0, (⟨0, 0, 0⟩ : Cx), (-1)⟩ : Spoil), (⟨2, 8, 0, 0, (⟨0, 0, 0⟩ : Cx), 0⟩ : Spoil), (⟨2, (-1), 0, 0, (⟨0, 0, 0⟩ : Cx), 0⟩ : Spoil), (⟨2, 0, (-1), 0, (⟨0, 0, 0⟩ : Cx), 0⟩ : Spoil), (⟨2, 0, 2, 1, (⟨0, 0, 0⟩ : Cx), 0⟩ : Spoil), (⟨2, 0, 0, 33, (⟨0, 0, 0⟩ : Cx), 0⟩ : Spoil)] : List Spoil).take ((w64 (i80 + 1)).toNat)).drop i80.toNat) Aa587 c588 _ hc596) ⟨.inl (rd_nil _ _ _ _), ⟨pre_any 2 (view_rd Aa587 c588 fl_Spoil.kd ((([(⟨0, 0, 0, 0, (⟨0, 0, 0⟩ : Cx), 0⟩ : Spoil), (⟨4, 0, 0, 0, (⟨0, 0, 0⟩ : Cx), 0⟩ : Spoil), (⟨1, 0, 0, 0, (⟨0, 0, 0⟩ : Cx), 0⟩ : Spoil), (⟨1, 0, 0, 0, t4, 0⟩ : Spoil), (⟨1, 0, 0, 0, t1, 1⟩ : Spoil), (⟨2, 0, 0, 0, t1, 0⟩ : Spoil), (⟨2, 0, 0, 0, (⟨0, 0, 0⟩ : Cx), 4⟩ : Spoil), (⟨3, 0, 0, 0, (⟨0, 0, 0⟩ : Cx), (-1)⟩ : Spoil), (⟨2, 8, 0, 0, (⟨0, 0, 0⟩ : Cx), 0⟩ : Spoil), (⟨2, (-1), 0, 0, (⟨0, 0, 0⟩ : Cx), 0⟩ : Spoil), (⟨2, 0, (-1), 0, (⟨0, 0, 0⟩ : Cx), 0⟩ : Spoil), (⟨2, 0, 2, 1, (⟨0, 0, 0⟩ : Cx), 0⟩ : Spoil), (⟨2, 0, 0, 33, (⟨0, 0, 0⟩ : Cx), 0⟩ : Spoil)] : List Spoil).take ((w64 (i80 + 1)).toNat)).drop i80.toNat) false true), trivial⟩⟩ ?_
     rintro _ _ ⟨Aa597, c598, rfl, rfl⟩
     refine JL.mv (.tuple #[.slice Aa597 t595.1.length c598, .int .i64 t595.2]) ?_
     refine JL.pur (.slice Aa597 t595.1.length c598) (some 76) ?_
     refine JL.pur (.int .i64 t595.2) (some 77) ?_
     refine JL.as (.slice Aa597 t595.1.length c598) ?_
     refine JL.as (.int .i64 t595.2) ?_
     refine JL.es [(1, .pointer (some ⟨b3, 0, none⟩)), (2, .slice Aa77 ([(⟨0, 0, 0, 0, (⟨0, 0, 0⟩ : Cx), 0⟩ : Spoil), (⟨4, 0, 0, 0, (⟨0, 0, 0⟩ : Cx), 0⟩ : Spoil), (⟨1, 0, 0, 0, (⟨0, 0, 0⟩ : Cx), 0⟩ : Spoil), (⟨1, 0, 0, 0, t4, 0⟩ : Spoil), (⟨1, 0, 0, 0, t1, 1⟩ : Spoil), (⟨2, 0, 0, 0, t1, 0⟩ : Spoil), (⟨2, 0, 0, 0, (⟨0, 0, 0⟩ : Cx), 4⟩ : Spoil), (⟨3, 0, 0, 0, (⟨0, 0, 0⟩ : Cx), (-1)⟩ : Spoil), (⟨2, 8, 0, 0, (⟨0, 0, 0⟩ : Cx), 0⟩ : Spoil), (⟨2, (-1), 0, 0, (⟨0, 0, 0⟩ : Cx), 0⟩ : Spoil), (⟨2, 0, (-1), 0, (⟨0, 0, 0⟩ : Cx), 0⟩ : Spoil), (⟨2, 0, 2, 1, (⟨0, 0, 0⟩ : Cx), 0⟩ : Spoil), (⟨2, 0, 0, 33, (⟨0, 0, 0⟩ : Cx), 0⟩ : Spoil)] : List Spoil).length c78), (3, .int .i64 i80), (5, .int .i64 t582.2), (7, .int .i64 t595.2)] ?_
     refine JQ.mask [At.box b3 23 (cl_23 t1), At.rd Aa77 c78 fl_Spoil.kd ([(⟨0, 0, 0, 0, (⟨0, 0, 0⟩ : Cx), 0⟩ : Spoil), (⟨4, 0, 0, 0, (⟨0, 0, 0⟩ : Cx), 0⟩ : Spoil), (⟨1, 0, 0, 0, (⟨0, 0, 0⟩ : Cx), 0⟩ : Spoil), (⟨1, 0, 0, 0, t4, 0⟩ : Spoil), (⟨1, 0, 0, 0, t1, 1⟩ : Spoil), (⟨2, 0, 0, 0, t1, 0⟩ : Spoil), (⟨2, 0, 0, 0, (⟨0, 0, 0⟩ : Cx), 4⟩ : Spoil), (⟨3, 0, 0, 0, (⟨0, 0, 0⟩ : Cx), (-1)⟩ : Spoil), (⟨2, 8, 0, 0, (⟨0, 0, 0⟩ : Cx), 0⟩ : Spoil), (⟨2, (-1), 0, 0, (⟨0, 0, 0⟩ : Cx), 0⟩ : Spoil), (⟨2, 0, (-1), 0, (⟨0, 0, 0⟩ : Cx), 0⟩ : Spoil), (⟨2, 0, 2, 1, (⟨0, 0, 0⟩ : Cx), 0⟩ : Spoil), (⟨2, 0, 0, 33, (⟨0, 0, 0⟩ : Cx), 0⟩ : Spoil)] : List Spoil) false] [true, true, false, false] ?_
     refine J.join (T := Bool) (G := Unit) (fun t => law35_CorruptNames.k10 i80 t = some st1) (fun t g => [(1, .pointer (some ⟨b3, 0, none⟩)), (2, .slice Aa77 ([(⟨0, 0, 0, 0, (⟨0, 0, 0⟩ : Cx), 0⟩ : Spoil), (⟨4, 0, 0, 0, (⟨0, 0, 0⟩ : Cx), 0⟩ : Spoil), (⟨1, 0, 0, 0, (⟨0, 0, 0⟩ : Cx), 0⟩ : Spoil), (⟨1, 0, 0, 0, t4, 0⟩ : Spoil), (⟨1, 0, 0, 0, t1, 1⟩ : Spoil), (⟨2, 0, 0, 0, t1, 0⟩ : Spoil), (⟨2, 0, 0, 0, (⟨0, 0, 0⟩ : Cx), 4⟩ : Spoil), (⟨3, 0, 0, 0, (⟨0, 0, 0⟩ : Cx), (-1)⟩ : Spoil), (⟨2, 8, 0, 0, (⟨0, 0, 0⟩ : Cx), 0⟩ : Spoil), (⟨2, (-1), 0, 0, (⟨0, 0, 0⟩ : Cx), 0⟩ : Spoil), (⟨2, 0, (-1), 0, (⟨0, 0, 0⟩ : Cx), 0⟩ : Spoil), (⟨2, 0, 2, 1, (⟨0, 0, 0⟩ : Cx), 0⟩ : Spoil), (⟨2, 0, 0, 33, (⟨0, 0, 0⟩ : Cx), 0⟩ : Spoil)] : List Spoil).length c78), (3, .int .i64 i80), (83, .bool t)]) (fun t g => [At.box b3 23 (cl_23 t1), At.rd Aa77 c78 fl_Spoil.kd ([(⟨0, 0, 0, 0, (⟨0, 0, 0⟩ : Cx), 0⟩ : Spoil), (⟨4, 0, 0, 0, (⟨0, 0, 0⟩ : Cx), 0⟩ : Spoil), (⟨1, 0, 0, 0, (⟨0, 0, 0⟩ : Cx), 0⟩ : Spoil), (⟨1, 0, 0, 0, t4, 0⟩ : Spoil), (⟨1, 0, 0, 0, t1, 1⟩ : Spoil), (⟨2, 0, 0, 0, t1, 0⟩ : Spoil), (⟨2, 0, 0, 0, (⟨0, 0, 0⟩ : Cx), 4⟩ : Spoil), (⟨3, 0, 0, 0, (⟨0, 0, 0⟩ : Cx), (-1)⟩ : Spoil), (⟨2, 8, 0, 0, (⟨0, 0, 0⟩ : Cx), 0⟩ : Spoil), (⟨2, (-1), 0, 0, (⟨0, 0, 0⟩ : Cx), 0⟩ : Spoil), (⟨2, 0, (-1), 0, (⟨0, 0, 0⟩ : Cx), 0⟩ : Spoil), (⟨2, 0, 2, 1, (⟨0, 0, 0⟩ : Cx), 0⟩ : Spoil), (⟨2, 0, 0, 33, (⟨0, 0, 0⟩ : Cx), 0⟩ : Spoil)] : List Spoil) false]) ?_ ?_
     · refine J.region ?_
       refine JL.mv (.int .i64 t582.2) ?_
       refine JL.pur (.bool (!decide (t582.2 = 8))) (some 79) ?_
       refine JL.mv (.bool (!decide (t582.2 = 8))) ?_
       rcases ite_cases H1 with ⟨h603, H1⟩ | ⟨h603, H1⟩
       · refine JL.off 2 80 false (some 81) h603 ?_
         refine JL.off 2 80 false (some 82) h603 ?_
         refine JL.val (.bool true) (some 83) (gives_pickT h603) ?_
         refine JL.en ?_
         exact JQ.meet true () H1 (fun _ h => Heap.to h)
       · refine JL.on 2 80 h603 ?_
         refine JL.mv (.int .i64 t595.2) ?_
         refine JL.on 2 80 h603 ?_
         refine JL.pur (.bool (!decide (t595.2 = 8))) (some 82) ?_
         refine JL.val (.bool (!decide (t595.2 = 8))) (some 83) (gives_pickF h603) ?_
         refine JL.en ?_
         exact JQ.meet (!decide (t595.2 = 8)) () H1 (fun _ h => Heap.to h)
     · clear H1
       rintro x601 ⟨⟩ H1
       replace H1 : law35_CorruptNames.k10 i80 x601 = some st1 := H1
       unfold law35_CorruptNames.k10 at H1
       refine JQ.sub [(1, .pointer (some ⟨b3, 0, none⟩)), (2, .slice Aa77 ([(⟨0, 0, 0, 0, (⟨0, 0, 0⟩ : Cx), 0⟩ : Spoil), (⟨4, 0, 0, 0, (⟨0, 0, 0⟩ : Cx), 0⟩ : Spoil), (⟨1, 0, 0, 0, (⟨0, 0, 0⟩ : Cx), 0⟩ : Spoil), (⟨1, 0, 0, 0, t4, 0⟩ : Spoil), (⟨1, 0, 0, 0, t1, 1⟩ : Spoil), (⟨2, 0, 0, 0, t1, 0⟩ : Spoil), (⟨2, 0, 0, 0, (⟨0, 0, 0⟩ : Cx), 4⟩ : Spoil), (⟨3, 0, 0, 0, (⟨0, 0, 0⟩ : Cx), (-1)⟩ : Spoil), (⟨2, 8, 0, 0, (⟨0, 0, 0⟩ : Cx), 0⟩ : Spoil), (⟨2, (-1), 0, 0, (⟨0, 0, 0⟩ : Cx), 0⟩ : Spoil), (⟨2, 0, (-1), 0, (⟨0, 0, 0⟩ : Cx), 0⟩ : Spoil), (⟨2, 0, 2, 1, (⟨0, 0, 0⟩ : Cx), 0⟩ : Spoil), (⟨2, 0, 0, 33, (⟨0, 0, 0⟩ : Cx), 0⟩ : Spoil)] : List Spoil).length c78), (3, .int .i64 i80), (83, .bool x601)] ?_
       refine JQ.turn (Δ' := [At.box b3 23 (cl_23 t1), At.rd Aa77 c78 fl_Spoil.kd ([(⟨0, 0, 0, 0, (⟨0, 0, 0⟩ : Cx), 0⟩ : Spoil), (⟨4, 0, 0, 0, (⟨0, 0, 0⟩ : Cx), 0⟩ : Spoil), (⟨1, 0, 0, 0, (⟨0, 0, 0⟩ : Cx), 0⟩ : Spoil), (⟨1, 0, 0, 0, t4, 0⟩ : Spoil), (⟨1, 0, 0, 0, t1, 1⟩ : Spoil), (⟨2, 0, 0, 0, t1, 0⟩ : Spoil), (⟨2, 0, 0, 0, (⟨0, 0, 0⟩ : Cx), 4⟩ : Spoil), (⟨3, 0, 0, 0, (⟨0, 0, 0⟩ : Cx), (-1)⟩ : Spoil), (⟨2, 8, 0, 0, (⟨0, 0, 0⟩ : Cx), 0⟩ : Spoil), (⟨2, (-1), 0, 0, (⟨0, 0, 0⟩ : Cx), 0⟩ : Spoil), (⟨2, 0, (-1), 0, (⟨0, 0, 0⟩ : Cx), 0⟩ : Spoil), (⟨2, 0, 2, 1, (⟨0, 0, 0⟩ : Cx), 0⟩ : Spoil), (⟨2, 0, 0, 33, (⟨0, 0, 0⟩ : Cx), 0⟩ : Spoil)] : List Spoil) false]) (fun _ h => h.to) ?_
       rcases ite_cases H1 with ⟨h602, H1⟩ | ⟨h602, H1⟩
       · refine J.cond_true h602 ?_
         refine J.sr ?_
         refine JL.as (.bool false) ?_
         refine JL.es [(0, .bool false)] ?_
         refine JQ.mask [] [false, false] ?_
         refine J.ret ?_
         refine JQ.blk_ret ?_
         refine JQ.then_ret ?_
         refine JQ.then_ret ?_
         refine JQ.blk_ret ?_
         refine JQ.met_ret ?_
         refine JQ.then_ret ?_
         rw [hr1 _ (Option.some.inj H1).symm, fin_ret] at H0
         obtain rfl := Option.some.inj H0
         exact JQ.done' (rs := [.tmp 0]) (vs := [.bool false]) [] (.inr rfl) ⟨by kernel_rfl, trivial⟩ (fun _ h => Heap.to h) ⟨rfl, rfl⟩
       · refine J.cond_false h602 ?_
         refine J.skip ?_
         refine JQ.blk_normal ?_
         refine JQ.ts [(1, .pointer (some ⟨b3, 0, none⟩)), (2, .slice Aa77 ([(⟨0, 0, 0, 0, (⟨0, 0, 0⟩ : Cx), 0⟩ : Spoil), (⟨4, 0, 0, 0, (⟨0, 0, 0⟩ : Cx), 0⟩ : Spoil), (⟨1, 0, 0, 0, (⟨0, 0, 0⟩ : Cx), 0⟩ : Spoil), (⟨1, 0, 0, 0, t4, 0⟩ : Spoil), (⟨1, 0, 0, 0, t1, 1⟩ : Spoil), (⟨2, 0, 0, 0, t1, 0⟩ : Spoil), (⟨2, 0, 0, 0, (⟨0, 0, 0⟩ : Cx), 4⟩ : Spoil), (⟨3, 0, 0, 0, (⟨0, 0, 0⟩ : Cx), (-1)⟩ : Spoil), (⟨2, 8, 0, 0, (⟨0, 0, 0⟩ : Cx), 0⟩ : Spoil), (⟨2, (-1), 0, 0, (⟨0, 0, 0⟩ : Cx), 0⟩ : Spoil), (⟨2, 0, (-1), 0, (⟨0, 0, 0⟩ : Cx), 0⟩ : Spoil), (⟨2, 0, 2, 1, (⟨0, 0, 0⟩ : Cx), 0⟩ : Spoil), (⟨2, 0, 0, 33, (⟨0, 0, 0⟩ : Cx), 0⟩ : Spoil)] : List Spoil).length c78), (3, .int .i64 i80)] ?_
         refine J.region ?_
         refine JL.mv (.int .i64 i80) ?_
         refine JL.pur (.int .i64 (w64 (i80 + 1))) (some 59) ?_
         refine JL.as (.int .i64 (w64 (i80 + 1))) ?_
         refine JL.en ?_
         exact JQ.again (w64 (i80 + 1)) (Aa77, c78) (Option.some.inj H1).symm (fun _ h => Heap.to h)
   · refine J.cond_false h573 ?_
     refine J.exit ?_
     refine JQ.then_exit ?_
     refine JQ.then_exit ?_
     refine JQ.blk_exit ?_
     rw [hb1 _ (Option.some.inj H1).symm, fin_brk] at H0
     exact JQ.met () () H0 (fun _ h => Heap.to (Heap.pick [0] (by decide) h))
 · clear hit H0
   rintro ⟨⟩ ⟨⟩ H0
   replace H0 : law35_CorruptNames.k5 t1 = some r := H0
   unfold law35_CorruptNames.k5 at H0
   refine JQ.sub [(1, .pointer (some ⟨b3, 0, none⟩))] ?_
   refine JQ.turn (Δ' := [At.box b3 23 (cl_23 t1)]) (fun _ h => h.to) ?_
   refine JQ.then_normal ?_
   refine J.sr ?_
   obtain ⟨t112, hc113, H0⟩ := bind_some H0
   refine JL.call [] [] [] (corrupt_Table.ok [] none 0 32 _ hc113) ⟨.inl (rd_nil _ _ _ _), trivial⟩ ?_
   rintro _ _ ⟨Aa114, c115, rfl, rfl⟩
   refine JL.mv (.tuple #[.slice Aa114 t112.1.length c115, .int .i64 t112.2]) ?_
   refine JL.pur (.slice Aa114 t112.1.length c115) (some 86) ?_
   refine JL.pur (.int .i64 t112.2) (some 87) ?_
   refine JL.as (.slice Aa114 t112.1.length c115) ?_
   refine JL.as (.int .i64 t112.2) ?_
   refine JL.es [(1, .pointer (some ⟨b3, 0, none⟩)), (9, .int .i64 t112.2)] ?_
   refine JQ.mask [At.box b3 23 (cl_23 t1)] [true, false] ?_
   refine J.sr ?_
   obtain ⟨t117, hc118, H0⟩ := bind_some H0
   refine JL.call [] [] [] (corrupt_Table.ok [] none 0 (-1) _ hc118) ⟨.inl (rd_nil _ _ _ _), trivial⟩ ?_
   rintro _ _ ⟨Aa119, c120, rfl, rfl⟩
   refine JL.mv (.tuple #[.slice Aa119 t117.1.length c120, .int .i64 t117.2]) ?_
   refine JL.pur (.slice Aa119 t117.1.length c120) (some 90) ?_
   refine JL.pur (.int .i64 t117.2) (some 91) ?_
   refine JL.as (.slice Aa119 t117.1.length c120) ?_
   refine JL.as (.int .i64 t117.2) ?_
   refine JL.es [(1, .pointer (some ⟨b3, 0, none⟩)), (9, .int .i64 t112.2), (11, .int .i64 t117.2)] ?_
   refine JQ.mask [At.box b3 23 (cl_23 t1)] [true, false] ?_
   refine J.sr ?_
   obtain ⟨⟨h123, h124, h125⟩, H0⟩ := ite_must H0
   refine JL.makeSl 25 fl_Spoil.kd ((⟨0, 0, 0, 0, (⟨0, 0, 0⟩ : Cx), 0⟩ : Spoil) : Spoil) Try.underlying32 info_25 (fun _ _ => rfl) h123 h124 (by omega) (by omega) fun b122 => ?_
   obtain ⟨t126, hc127, H0⟩ := bind_some H0
   refine JL.call [] [] [] (corrupt_Table.ok (List.replicate (9 : Int).toNat ((⟨0, 0, 0, 0, (⟨0, 0, 0⟩ : Cx), 0⟩ : Spoil) : Spoil)) (some ⟨b122, 0, none⟩) ((9 : Int).toNat) 0 _ hc127) ⟨pre_view 1 (view_row (some ⟨b122, 0, none⟩) ((9 : Int).toNat) 25 fl_Spoil.kd (List.replicate (9 : Int).toNat ((⟨0, 0, 0, 0, (⟨0, 0, 0⟩ : Cx), 0⟩ : Spoil) : Spoil)) false true), trivial⟩ ?_
   rintro _ _ ⟨Aa128, c129, rfl, rfl⟩
   refine JL.mv (.tuple #[.slice Aa128 t126.1.length c129, .int .i64 t126.2]) ?_
   refine JL.pur (.slice Aa128 t126.1.length c129) (some 95) ?_
   refine JL.pur (.int .i64 t126.2) (some 96) ?_
   refine JL.as (.slice Aa128 t126.1.length c129) ?_
   refine JL.as (.int .i64 t126.2) ?_
   refine JL.es [(1, .pointer (some ⟨b3, 0, none⟩)), (9, .int .i64 t112.2), (11, .int .i64 t117.2), (13, .int .i64 t126.2)] ?_
   refine JQ.mask [At.box b3 23 (cl_23 t1)] [true, false, false] ?_
   refine J.sr ?_
   obtain ⟨t131, hc132, H0⟩ := bind_some H0
   refine JL.call [] [] [] (law35_of.ok 1000000000 1 1 _ hc132) trivial ?_
   rintro _ _ ⟨rfl, rfl⟩
   refine JL.pur (.agg #[.int .u8 1, .int .i64 0, .int .i64 0, .int .i64 32, .int .i64 t131.Re, .int .i64 t131.Im, .int .i64 t131.Den, .int .i64 0]) (some 98) ?_
   refine JL.alloc (cl_25 zv_25) fun b133 => ?_
   refine JL.store 1 b133 0 25 (cl_25 zv_25) [.int .u8 1, .int .i64 0, .int .i64 0, .int .i64 32, .int .i64 t131.Re, .int .i64 t131.Im, .int .i64 t131.Den, .int .i64 0] tySize_25 ?_
   refine JL.es [(1, .pointer (some ⟨b3, 0, none⟩)), (9, .int .i64 t112.2), (11, .int .i64 t117.2), (13, .int .i64 t126.2), (14, .pointer (some ⟨b133, 0, none⟩))] ?_
   refine J.sr ?_
   refine JL.val (.agg #[.int .u8 1, .int .i64 0, .int .i64 0, .int .i64 32, .int .i64 t131.Re, .int .i64 t131.Im, .int .i64 t131.Den, .int .i64 0]) (some 100) (yields_load_boxes 1 0 [.int .u8 1, .int .i64 0, .int .i64 0, .int .i64 32, .int .i64 t131.Re, .int .i64 t131.Im, .int .i64 t131.Den, .int .i64 0] (holds_box b133 25 [.int .u8 1, .int .i64 0, .int .i64 0, .int .i64 32, .int .i64 t131.Re, .int .i64 t131.Im, .int .i64 t131.Den, .int .i64 0]) tyAgg_25 tySize_25) ?_
   refine JL.val (.agg #[.int .u8 1, .int .i64 0, .int .i64 0, .int .i64 32, .int .i64 t131.Re, .int .i64 t131.Im, .int .i64 t131.Den, .int .i64 0]) (some 101) (yields_load_boxes 1 0 [.int .u8 1, .int .i64 0, .int .i64 0, .int .i64 32, .int .i64 t131.Re, .int .i64 t131.Im, .int .i64 t131.Den, .int .i64 0] (holds_box b133 25 [.int .u8 1, .int .i64 0, .int .i64 0, .int .i64 32, .int .i64 t131.Re, .int .i64 t131.Im, .int .i64 t131.Den, .int .i64 0]) tyAgg_25 tySize_25) ?_
   refine JL.buildSl 25 fl_Spoil.kd (([(⟨1, 0, 0, 32, t131, 0⟩ : Spoil), (⟨1, 0, 0, 32, t131, 0⟩ : Spoil)] : List Spoil) : List Spoil) [.int .u8 1, .int .i64 0, .int .i64 0, .int .i64 32, .int .i64 t131.Re, .int .i64 t131.Im, .int .i64 t131.Den, .int .i64 0, .int .u8 1, .int .i64 0, .int .i64 0, .int .i64 32, .int .i64 t131.Re, .int .i64 t131.Im, .int .i64 t131.Den, .int .i64 0] false (closes_fl rfl) fun b134 => ?_
   obtain ⟨t135, hc136, H0⟩ := bind_some H0
   refine JL.call [] [] [] (corrupt_Table.ok ([(⟨1, 0, 0, 32, t131, 0⟩ : Spoil), (⟨1, 0, 0, 32, t131, 0⟩ : Spoil)] : List Spoil) (some ⟨b134, 0, none⟩) 2 31 _ hc136) ⟨pre_view 2 (view_row (some ⟨b134, 0, none⟩) 2 25 fl_Spoil.kd ([(⟨1, 0, 0, 32, t131, 0⟩ : Spoil), (⟨1, 0, 0, 32, t131, 0⟩ : Spoil)] : List Spoil) false true), trivial⟩ ?_
   rintro _ _ ⟨Aa137, c138, rfl, rfl⟩
   refine JL.mv (.tuple #[.slice Aa137 t135.1.length c138, .int .i64 t135.2]) ?_
   refine JL.pur (.slice Aa137 t135.1.length c138) (some 104) ?_
   refine JL.pur (.int .i64 t135.2) (some 105) ?_
   refine JL.as (.slice Aa137 t135.1.length c138) ?_
   refine JL.as (.int .i64 t135.2) ?_
   refine JL.es [(1, .pointer (some ⟨b3, 0, none⟩)), (9, .int .i64 t112.2), (11, .int .i64 t117.2), (13, .int .i64 t126.2), (14, .pointer (some ⟨b133, 0, none⟩)), (16, .int .i64 t135.2)] ?_
   refine JQ.mask [At.box b3 23 (cl_23 t1), At.box b133 25 [.int .u8 1, .int .i64 0, .int .i64 0, .int .i64 32, .int .i64 t131.Re, .int .i64 t131.Im, .int .i64 t131.Den, .int .i64 0]] [true, true, false, false] ?_
   refine J.sr ?_
   obtain ⟨⟨h141, h142, h143⟩, H0⟩ := ite_must H0
   refine JL.makeSl 48 fl_Vis.kd.sl ([] : (List Vis)) Try.underlying37 info_48 (fun _ _ => ⟨none, 0, rfl, Nat.le_refl _, .inl rfl⟩) h141 h142 (by omega) (by omega) fun b140 => ?_
   obtain ⟨t144, hc145, H0⟩ := bind_some H0
   refine JL.call [] [] [] (corrupt_Check.ok (List.replicate (33 : Int).toNat ([] : (List Vis))) (some ⟨b140, 0, none⟩) ((33 : Int).toNat) _ hc145) ⟨pre_view 2 (view_row (some ⟨b140, 0, none⟩) ((33 : Int).toNat) 48 fl_Vis.kd.sl (List.replicate (33 : Int).toNat ([] : (List Vis))) false true), trivial⟩ ?_
   rintro _ _ ⟨rfl, rfl⟩
   refine JL.as (.int .i64 t144) ?_
   refine JL.es [(1, .pointer (some ⟨b3, 0, none⟩)), (9, .int .i64 t112.2), (11, .int .i64 t117.2), (13, .int .i64 t126.2), (14, .pointer (some ⟨b133, 0, none⟩)), (16, .int .i64 t135.2), (17, .int .i64 t144)] ?_
   refine JQ.mask [At.box b3 23 (cl_23 t1), At.box b133 25 [.int .u8 1, .int .i64 0, .int .i64 0, .int .i64 32, .int .i64 t131.Re, .int .i64 t131.Im, .int .i64 t131.Den, .int .i64 0]] [true, true, false] ?_
   refine J.sr ?_
   refine JL.val (mv_23 t1) (some 108) (yields_load_boxes 0 0 (cl_23 t1) (holds_box b3 23 (cl_23 t1)) tyAgg_23 tySize_23) ?_
   refine JL.pur (.agg #[.int .i64 0, .int .i64 1, .int .i64 t1.Re, .int .i64 t1.Im, .int .i64 t1.Den, .int .i64 0]) (some 109) ?_
   refine JL.alloc (cl_47 zv_47) fun b146 => ?_
   refine JL.store 2 b146 0 47 (cl_47 zv_47) [.int .i64 0, .int .i64 1, .int .i64 t1.Re, .int .i64 t1.Im, .int .i64 t1.Den, .int .i64 0] tySize_47 ?_
   refine JL.es [(1, .pointer (some ⟨b3, 0, none⟩)), (9, .int .i64 t112.2), (11, .int .i64 t117.2), (13, .int .i64 t126.2), (14, .pointer (some ⟨b133, 0, none⟩)), (16, .int .i64 t135.2), (17, .int .i64 t144), (18, .pointer (some ⟨b146, 0, none⟩))] ?_
   refine J.sr ?_
   refine JL.val (.agg #[.int .i64 0, .int .i64 1, .int .i64 t1.Re, .int .i64 t1.Im, .int .i64 t1.Den, .int .i64 0]) (some 110) (yields_load_boxes 2 0 [.int .i64 0, .int .i64 1, .int .i64 t1.Re, .int .i64 t1.Im, .int .i64 t1.Den, .int .i64 0] (holds_box b146 47 [.int .i64 0, .int .i64 1, .int .i64 t1.Re, .int .i64 t1.Im, .int .i64 t1.Den, .int .i64 0]) tyAgg_47 tySize_47) ?_
   refine JL.buildSl 47 fl_Vis.kd (([(⟨0, 1, t1, 0⟩ : Vis)] : List Vis) : List Vis) [.int .i64 0, .int .i64 1, .int .i64 t1.Re, .int .i64 t1.Im, .int .i64 t1.Den, .int .i64 0] false (closes_fl rfl) fun b147 => ?_
   refine JL.buildSl 47 fl_Vis.kd (([] : List Vis) : List Vis) [] false (closes_fl rfl) fun b148 => ?_
   refine JQ.turn (fun _ h => freeze_row 3 (some ⟨b147, 0, none⟩) 1 47 fl_Vis.kd ([(⟨0, 1, t1, 0⟩ : Vis)] : List Vis) false h) ?_
   refine JQ.turn (fun _ h => freeze_row 4 (some ⟨b148, 0, none⟩) 0 47 fl_Vis.kd ([] : List Vis) false h) ?_
   refine JL.buildSl 48 fl_Vis.kd.sl (([([(⟨0, 1, t1, 0⟩ : Vis)] : List Vis), ([] : List Vis)] : List (List Vis)) : List (List Vis)) [.slice (some ⟨b147, 0, none⟩) ([(⟨0, 1, t1, 0⟩ : Vis)] : List Vis).length 1, .slice (some ⟨b148, 0, none⟩) ([] : List Vis).length 0] false (closes_sl 3 false (fun h => h) (closes_sl 4 false (fun h => h) (closes_nil))) fun b149 => ?_
   obtain ⟨t150, hc151, H0⟩ := bind_some H0
   refine JL.call [] [] [] (corrupt_Check.ok ([([(⟨0, 1, t1, 0⟩ : Vis)] : List Vis), ([] : List Vis)] : List (List Vis)) (some ⟨b149, 0, none⟩) 2 _ hc151) ⟨pre_view 5 (view_row (some ⟨b149, 0, none⟩) 2 48 fl_Vis.kd.sl ([([(⟨0, 1, t1, 0⟩ : Vis)] : List Vis), ([] : List Vis)] : List (List Vis)) false true), trivial⟩ ?_
   rintro _ _ ⟨rfl, rfl⟩
   refine JL.as (.int .i64 t150) ?_
   refine JL.es [(1, .pointer (some ⟨b3, 0, none⟩)), (9, .int .i64 t112.2), (11, .int .i64 t117.2), (13, .int .i64 t126.2), (14, .pointer (some ⟨b133, 0, none⟩)), (16, .int .i64 t135.2), (17, .int .i64 t144), (18, .pointer (some ⟨b146, 0, none⟩)), (19, .int .i64 t150)] ?_
   refine JQ.mask [At.box b3 23 (cl_23 t1), At.box b133 25 [.int .u8 1, .int .i64 0, .int .i64 0, .int .i64 32, .int .i64 t131.Re, .int .i64 t131.Im, .int .i64 t131.Den, .int .i64 0], At.box b146 47 [.int .i64 0, .int .i64 1, .int .i64 t1.Re, .int .i64 t1.Im, .int .i64 t1.Den, .int .i64 0]] [true, true, true, false, false, false] ?_
   refine J.sr ?_
   refine JL.val (.agg #[.int .i64 0, .int .i64 1, .int .i64 t1.Re, .int .i64 t1.Im, .int .i64 t1.Den, .int .i64 0]) (some 115) (yields_load_boxes 2 0 [.int .i64 0, .int .i64 1, .int .i64 t1.Re, .int .i64 t1.Im, .int .i64 t1.Den, .int .i64 0] (holds_box b146 47 [.int .i64 0, .int .i64 1, .int .i64 t1.Re, .int .i64 t1.Im, .int .i64 t1.Den, .int .i64 0]) tyAgg_47 tySize_47) ?_
   refine JL.val (.agg #[.int .i64 0, .int .i64 1, .int .i64 t1.Re, .int .i64 t1.Im, .int .i64 t1.Den, .int .i64 0]) (some 116) (yields_load_boxes 2 0 [.int .i64 0, .int .i64 1, .int .i64 t1.Re, .int .i64 t1.Im, .int .i64 t1.Den, .int .i64 0] (holds_box b146 47 [.int .i64 0, .int .i64 1, .int .i64 t1.Re, .int .i64 t1.Im, .int .i64 t1.Den, .int .i64 0]) tyAgg_47 tySize_47) ?_
   refine JL.buildSl 47 fl_Vis.kd (([(⟨0, 1, t1, 0⟩ : Vis), (⟨0, 1, t1, 0⟩ : Vis)] : List Vis) : List Vis) [.int .i64 0, .int .i64 1, .int .i64 t1.Re, .int .i64 t1.Im, .int .i64 t1.Den, .int .i64 0, .int .i64 0, .int .i64 1, .int .i64 t1.Re, .int .i64 t1.Im, .int .i64 t1.Den, .int .i64 0] false (closes_fl rfl) fun b152 => ?_
   refine JQ.turn (fun _ h => freeze_row 3 (some ⟨b152, 0, none⟩) 2 47 fl_Vis.kd ([(⟨0, 1, t1, 0⟩ : Vis), (⟨0, 1, t1, 0⟩ : Vis)] : List Vis) false h) ?_
   refine JL.buildSl 48 fl_Vis.kd.sl (([([(⟨0, 1, t1, 0⟩ : Vis), (⟨0, 1, t1, 0⟩ : Vis)] : List Vis)] : List (List Vis)) : List (List Vis)) [.slice (some ⟨b152, 0, none⟩) ([(⟨0, 1, t1, 0⟩ : Vis), (⟨0, 1, t1, 0⟩ : Vis)] : List Vis).length 2] false (closes_sl 3 false (fun h => h) (closes_nil)) fun b153 => ?_
   obtain ⟨t154, hc155, H0⟩ := bind_some H0
   refine JL.call [] [] [] (corrupt_Check.ok ([([(⟨0, 1, t1, 0⟩ : Vis), (⟨0, 1, t1, 0⟩ : Vis)] : List Vis)] : List (List Vis)) (some ⟨b153, 0, none⟩) 1 _ hc155) ⟨pre_view 4 (view_row (some ⟨b153, 0, none⟩) 1 48 fl_Vis.kd.sl ([([(⟨0, 1, t1, 0⟩ : Vis), (⟨0, 1, t1, 0⟩ : Vis)] : List Vis)] : List (List Vis)) false true), trivial⟩ ?_
   rintro _ _ ⟨rfl, rfl⟩
   refine JL.as (.int .i64 t154) ?_
   refine JL.es [(1, .pointer (some ⟨b3, 0, none⟩)), (9, .int .i64 t112.2), (11, .int .i64 t117.2), (13, .int .i64 t126.2), (14, .pointer (some ⟨b133, 0, none⟩)), (16, .int .i64 t135.2), (17, .int .i64 t144), (18, .pointer (some ⟨b146, 0, none⟩)), (19, .int .i64 t150), (20, .int .i64 t154)] ?_
   refine JQ.mask [At.box b3 23 (cl_23 t1), At.box b133 25 [.int .u8 1, .int .i64 0, .int .i64 0, .int .i64 32, .int .i64 t131.Re, .int .i64 t131.Im, .int .i64 t131.Den, .int .i64 0], At.box b146 47 [.int .i64 0, .int .i64 1, .int .i64 t1.Re, .int .i64 t1.Im, .int .i64 t1.Den, .int .i64 0]] [true, true, true, false, false] ?_
   refine J.sr ?_
   refine JL.val (.agg #[.int .i64 0, .int .i64 1, .int .i64 t1.Re, .int .i64 t1.Im, .int .i64 t1.Den, .int .i64 0]) (some 120) (yields_load_boxes 2 0 [.int .i64 0, .int .i64 1, .int .i64 t1.Re, .int .i64 t1.Im, .int .i64 t1.Den, .int .i64 0] (holds_box b146 47 [.int .i64 0, .int .i64 1, .int .i64 t1.Re, .int .i64 t1.Im, .int .i64 t1.Den, .int .i64 0]) tyAgg_47 tySize_47) ?_
   refine JL.buildSl 47 fl_Vis.kd (([(⟨0, 1, t1, 0⟩ : Vis)] : List Vis) : List Vis) [.int .i64 0, .int .i64 1, .int .i64 t1.Re, .int .i64 t1.Im, .int .i64 t1.Den, .int .i64 0] false (closes_fl rfl) fun b156 => ?_
   refine JL.val (mv_23 t1) (some 122) (yields_load_boxes 0 0 (cl_23 t1) (holds_box b3 23 (cl_23 t1)) tyAgg_23 tySize_23) ?_
   refine JL.pur (.agg #[.int .i64 0, .int .i64 2, .int .i64 t1.Re, .int .i64 t1.Im, .int .i64 t1.Den, .int .i64 0]) (some 123) ?_
   refine JL.buildSl 47 fl_Vis.kd (([(⟨0, 2, t1, 0⟩ : Vis)] : List Vis) : List Vis) [.int .i64 0, .int .i64 2, .int .i64 t1.Re, .int .i64 t1.Im, .int .i64 t1.Den, .int .i64 0] false (closes_fl rfl) fun b157 => ?_
   refine JQ.turn (fun _ h => freeze_row 3 (some ⟨b156, 0, none⟩) 1 47 fl_Vis.kd ([(⟨0, 1, t1, 0⟩ : Vis)] : List Vis) false h) ?_
   refine JQ.turn (fun _ h => freeze_row 4 (some ⟨b157, 0, none⟩) 1 47 fl_Vis.kd ([(⟨0, 2, t1, 0⟩ : Vis)] : List Vis) false h) ?_
   refine JL.buildSl 48 fl_Vis.kd.sl (([([(⟨0, 1, t1, 0⟩ : Vis)] : List Vis), ([(⟨0, 2, t1, 0⟩ : Vis)] : List Vis)] : List (List Vis)) : List (List Vis)) [.slice (some ⟨b156, 0, none⟩) ([(⟨0, 1, t1, 0⟩ : Vis)] : List Vis).length 1, .slice (some ⟨b157, 0, none⟩) ([(⟨0, 2, t1, 0⟩ : Vis)] : List Vis).length 1] false (closes_sl 3 false (fun h => h) (closes_sl 4 false (fun h => h) (closes_nil))) fun b158 => ?_
   obtain ⟨t159, hc160, H0⟩ := bind_some H0
   refine JL.call [] [] [] (corrupt_Check.ok ([([(⟨0, 1, t1, 0⟩ : Vis)] : List Vis), ([(⟨0, 2, t1, 0⟩ : Vis)] : List Vis)] : List (List Vis)) (some ⟨b158, 0, none⟩) 2 _ hc160) ⟨pre_view 5 (view_row (some ⟨b158, 0, none⟩) 2 48 fl_Vis.kd.sl ([([(⟨0, 1, t1, 0⟩ : Vis)] : List Vis), ([(⟨0, 2, t1, 0⟩ : Vis)] : List Vis)] : List (List Vis)) false true), trivial⟩ ?_
   rintro _ _ ⟨rfl, rfl⟩
   refine JL.as (.int .i64 t159) ?_
   refine JL.es [(1, .pointer (some ⟨b3, 0, none⟩)), (9, .int .i64 t112.2), (11, .int .i64 t117.2), (13, .int .i64 t126.2), (14, .pointer (some ⟨b133, 0, none⟩)), (16, .int .i64 t135.2), (17, .int .i64 t144), (18, .pointer (some ⟨b146, 0, none⟩)), (19, .int .i64 t150), (20, .int .i64 t154), (21, .int .i64 t159)] ?_
   refine JQ.mask [At.box b3 23 (cl_23 t1), At.box b133 25 [.int .u8 1, .int .i64 0, .int .i64 0, .int .i64 32, .int .i64 t131.Re, .int .i64 t131.Im, .int .i64 t131.Den, .int .i64 0], At.box b146 47 [.int .i64 0, .int .i64 1, .int .i64 t1.Re, .int .i64 t1.Im, .int .i64 t1.Den, .int .i64 0]] [true, true, true, false, false, false] ?_
   refine J.sr ?_
   refine JL.val (mv_23 t1) (some 127) (yields_load_boxes 0 0 (cl_23 t1) (holds_box b3 23 (cl_23 t1)) tyAgg_23 tySize_23) ?_
   refine JL.pur (.agg #[.int .i64 1, .int .i64 1, .int .i64 t1.Re, .int .i64 t1.Im, .int .i64 t1.Den, .int .i64 0]) (some 128) ?_
   refine JL.buildSl 47 fl_Vis.kd (([(⟨1, 1, t1, 0⟩ : Vis)] : List Vis) : List Vis) [.int .i64 1, .int .i64 1, .int .i64 t1.Re, .int .i64 t1.Im, .int .i64 t1.Den, .int .i64 0] false (closes_fl rfl) fun b161 => ?_
   refine JQ.turn (fun _ h => freeze_row 3 (some ⟨b161, 0, none⟩) 1 47 fl_Vis.kd ([(⟨1, 1, t1, 0⟩ : Vis)] : List Vis) false h) ?_
   refine JL.buildSl 48 fl_Vis.kd.sl (([[], ([(⟨1, 1, t1, 0⟩ : Vis)] : List Vis)] : List (List Vis)) : List (List Vis)) [.slice none 0 0, .slice (some ⟨b161, 0, none⟩) ([(⟨1, 1, t1, 0⟩ : Vis)] : List Vis).length 1] false (closes_slN (closes_sl 3 false (fun h => h) (closes_nil))) fun b162 => ?_
   obtain ⟨t163, hc164, H0⟩ := bind_some H0
   refine JL.call [] [] [] (corrupt_Check.ok ([[], ([(⟨1, 1, t1, 0⟩ : Vis)] : List Vis)] : List (List Vis)) (some ⟨b162, 0, none⟩) 2 _ hc164) ⟨pre_view 4 (view_row (some ⟨b162, 0, none⟩) 2 48 fl_Vis.kd.sl ([[], ([(⟨1, 1, t1, 0⟩ : Vis)] : List Vis)] : List (List Vis)) false true), trivial⟩ ?_
   rintro _ _ ⟨rfl, rfl⟩
   refine JL.as (.int .i64 t163) ?_
   refine JL.es [(1, .pointer (some ⟨b3, 0, none⟩)), (9, .int .i64 t112.2), (11, .int .i64 t117.2), (13, .int .i64 t126.2), (14, .pointer (some ⟨b133, 0, none⟩)), (16, .int .i64 t135.2), (17, .int .i64 t144), (18, .pointer (some ⟨b146, 0, none⟩)), (19, .int .i64 t150), (20, .int .i64 t154), (21, .int .i64 t159), (22, .int .i64 t163)] ?_
   refine JQ.mask [At.box b3 23 (cl_23 t1), At.box b133 25 [.int .u8 1, .int .i64 0, .int .i64 0, .int .i64 32, .int .i64 t131.Re, .int .i64 t131.Im, .int .i64 t131.Den, .int .i64 0], At.box b146 47 [.int .i64 0, .int .i64 1, .int .i64 t1.Re, .int .i64 t1.Im, .int .i64 t1.Den, .int .i64 0]] [true, true, true, false, false] ?_
   refine J.sr ?_
   refine JL.val (.agg #[.int .i64 0, .int .i64 1, .int .i64 t1.Re, .int .i64 t1.Im, .int .i64 t1.Den, .int .i64 0]) (some 133) (yields_load_boxes 2 0 [.int .i64 0, .int .i64 1, .int .i64 t1.Re, .int .i64 t1.Im, .int .i64 t1.Den, .int .i64 0] (holds_box b146 47 [.int .i64 0, .int .i64 1, .int .i64 t1.Re, .int .i64 t1.Im, .int .i64 t1.Den, .int .i64 0]) tyAgg_47 tySize_47) ?_
   refine JL.buildSl 47 fl_Vis.kd (([(⟨0, 1, t1, 0⟩ : Vis)] : List Vis) : List Vis) [.int .i64 0, .int .i64 1, .int .i64 t1.Re, .int .i64 t1.Im, .int .i64 t1.Den, .int .i64 0] false (closes_fl rfl) fun b165 => ?_
   refine JQ.turn (fun _ h => freeze_row 3 (some ⟨b165, 0, none⟩) 1 47 fl_Vis.kd ([(⟨0, 1, t1, 0⟩ : Vis)] : List Vis) false h) ?_
   refine JL.buildSl 48 fl_Vis.kd.sl (([([(⟨0, 1, t1, 0⟩ : Vis)] : List Vis)] : List (List Vis)) : List (List Vis)) [.slice (some ⟨b165, 0, none⟩) ([(⟨0, 1, t1, 0⟩ : Vis)] : List Vis).length 1] false (closes_sl 3 false (fun h => h) (closes_nil)) fun b166 => ?_
   refine JL.val (.agg #[.int .u8 1, .int .i64 0, .int .i64 0, .int .i64 32, .int .i64 t131.Re, .int .i64 t131.Im, .int .i64 t131.Den, .int .i64 0]) (some 136) (yields_load_boxes 1 0 [.int .u8 1, .int .i64 0, .int .i64 0, .int .i64 32, .int .i64 t131.Re, .int .i64 t131.Im, .int .i64 t131.Den, .int .i64 0] (holds_box b133 25 [.int .u8 1, .int .i64 0, .int .i64 0, .int .i64 32, .int .i64 t131.Re, .int .i64 t131.Im, .int .i64 t131.Den, .int .i64 0]) tyAgg_25 tySize_25) ?_
   refine JL.buildSl 25 fl_Spoil.kd (([(⟨1, 0, 0, 32, t131, 0⟩ : Spoil)] : List Spoil) : List Spoil) [.int .u8 1, .int .i64 0, .int .i64 0, .int .i64 32, .int .i64 t131.Re, .int .i64 t131.Im, .int .i64 t131.Den, .int .i64 0] false (closes_fl rfl) fun b167 => ?_
   obtain ⟨t168, hc169, H0⟩ := bind_some H0
   refine JL.call [] [] [] (corrupt_Undo.ok ([([(⟨0, 1, t1, 0⟩ : Vis)] : List Vis)] : List (List Vis)) (some ⟨b166, 0, none⟩) 1 ([(⟨1, 0, 0, 32, t131, 0⟩ : Spoil)] : List Spoil) (some ⟨b167, 0, none⟩) 1 _ hc169) ⟨pre_view 4 (view_row (some ⟨b166, 0, none⟩) 1 48 fl_Vis.kd.sl ([([(⟨0, 1, t1, 0⟩ : Vis)] : List Vis)] : List (List Vis)) false true), ⟨pre_view 5 (view_row (some ⟨b167, 0, none⟩) 1 25 fl_Spoil.kd ([(⟨1, 0, 0, 32, t131, 0⟩ : Spoil)] : List Spoil) false true), trivial⟩⟩ ?_
   rintro _ _ ⟨Aa170, c171, rfl, rfl⟩
   refine JL.mv (.tuple #[.slice Aa170 t168.1.length c171, .int .i64 t168.2]) ?_
   refine JL.pur (.slice Aa170 t168.1.length c171) (some 139) ?_
   refine JL.pur (.int .i64 t168.2) (some 140) ?_
   refine JL.as (.slice Aa170 t168.1.length c171) ?_
   refine JL.as (.int .i64 t168.2) ?_
   refine JL.es [(1, .pointer (some ⟨b3, 0, none⟩)), (9, .int .i64 t112.2), (11, .int .i64 t117.2), (13, .int .i64 t126.2), (14, .pointer (some ⟨b133, 0, none⟩)), (16, .int .i64 t135.2), (17, .int .i64 t144), (18, .pointer (some ⟨b146, 0, none⟩)), (19, .int .i64 t150), (20, .int .i64 t154), (21, .int .i64 t159), (22, .int .i64 t163), (24, .int .i64 t168.2)] ?_
   refine JQ.mask [At.box b3 23 (cl_23 t1), At.box b133 25 [.int .u8 1, .int .i64 0, .int .i64 0, .int .i64 32, .int .i64 t131.Re, .int .i64 t131.Im, .int .i64 t131.Den, .int .i64 0], At.box b146 47 [.int .i64 0, .int .i64 1, .int .i64 t1.Re, .int .i64 t1.Im, .int .i64 t1.Den, .int .i64 0]] [true, true, true, false, false, false, false] ?_
   refine J.join (T := Int) (G := Unit) (fun t => law35_CorruptNames.k6 t1 t112 t117 t126 t135 t144 t150 t154 t159 t163 t168 t = some r) (fun t g => [(1, .pointer (some ⟨b3, 0, none⟩)), (9, .int .i64 t112.2), (11, .int .i64 t117.2), (13, .int .i64 t126.2), (16, .int .i64 t135.2), (17, .int .i64 t144), (18, .pointer (some ⟨b146, 0, none⟩)), (19, .int .i64 t150), (20, .int .i64 t154), (21, .int .i64 t159), (22, .int .i64 t163), (24, .int .i64 t168.2), (26, .int .i64 t)]) (fun t g => [At.box b3 23 (cl_23 t1), At.box b146 47 [.int .i64 0, .int .i64 1, .int .i64 t1.Re, .int .i64 t1.Im, .int .i64 t1.Den, .int .i64 0]]) ?_ ?_
   · obtain ⟨t528, hc529, H0⟩ := bind_some H0
     obtain ⟨t533, hc534, H0⟩ := bind_some H0
     refine JY.start [] (ba 12 0) ?_
     refine JY.take (hi := rfl) 4 (ba 12 16) (.agg #[.int .u8 1, .int .i64 0, .int .i64 0, .int .i64 32, .int .i64 t131.Re, .int .i64 t131.Im, .int .i64 t131.Den, .int .i64 0]) (some 146) [true, true, true] want (yields_load_boxes 1 0 [.int .u8 1, .int .i64 0, .int .i64 0, .int .i64 32, .int .i64 t131.Re, .int .i64 t131.Im, .int .i64 t131.Den, .int .i64 0] (holds_box b133 25 [.int .u8 1, .int .i64 0, .int .i64 0, .int .i64 32, .int .i64 t131.Re, .int .i64 t131.Im, .int .i64 t131.Den, .int .i64 0]) tyAgg_25 tySize_25) ?_
     refine JY.all [0, 5] ⟨⟨_, rfl, ?_⟩, ⟨_, rfl, ?_⟩, trivial⟩
     · refine JL.call [] [] [] (law35_of.ok 1000000000 0 1 _ hc529) trivial ?_
       rintro _ _ ⟨rfl, rfl⟩
       refine JL.nil ?_
       refine JY.ran (ba 12 17) [true, true, true] ?_
       refine JY.pur (hi := rfl) 1 (ba 12 19) (.agg #[.int .i64 0, .int .i64 1, .int .i64 t528.Re, .int .i64 t528.Im, .int .i64 t528.Den, .int .i64 0]) (some 143) want ?_
       refine JY.all [2, 5] ⟨⟨_, rfl, ?_⟩, ⟨_, rfl, ?_⟩, trivial⟩
       · refine JL.buildSl 47 fl_Vis.kd (([(⟨0, 1, t528, 0⟩ : Vis)] : List Vis) : List Vis) [.int .i64 0, .int .i64 1, .int .i64 t528.Re, .int .i64 t528.Im, .int .i64 t528.Den, .int .i64 0] false (closes_fl rfl) fun b540 => ?_
         refine JL.nil ?_
         refine JY.ran (ba 12 23) [true, true, true, false] ?_
         refine JY.all [3, 5] ⟨⟨_, rfl, ?_⟩, ⟨_, rfl, ?_⟩, trivial⟩
         · refine JQ.turn (fun _ h => freeze_row 3 (some ⟨b540, 0, none⟩) 1 47 fl_Vis.kd ([(⟨0, 1, t528, 0⟩ : Vis)] : List Vis) false h) ?_
           refine JL.buildSl 48 fl_Vis.kd.sl (([([(⟨0, 1, t528, 0⟩ : Vis)] : List Vis)] : List (List Vis)) : List (List Vis)) [.slice (some ⟨b540, 0, none⟩) ([(⟨0, 1, t528, 0⟩ : Vis)] : List Vis).length 1] false (closes_sl 3 false (fun h => h) (closes_nil)) fun b541 => ?_
           refine JL.nil ?_
           refine JY.ran (ba 12 31) [true, true, true, false, false] ?_
           refine JY.all [5] ⟨⟨_, rfl, ?_⟩, trivial⟩
           refine JL.buildSl 25 fl_Spoil.kd (([(⟨1, 0, 0, 32, t131, 0⟩ : Spoil)] : List Spoil) : List Spoil) [.int .u8 1, .int .i64 0, .int .i64 0, .int .i64 32, .int .i64 t131.Re, .int .i64 t131.Im, .int .i64 t131.Den, .int .i64 0] false (closes_fl rfl) fun b542 => ?_
           refine JL.nil ?_
           refine JY.ran (ba 12 63) [true, true, true, false, false, false] ?_
           refine JY.all [6] ⟨⟨_, rfl, ?_⟩, trivial⟩
           refine JL.call [] [] [] (corrupt_Spoil.ok ([([(⟨0, 1, t528, 0⟩ : Vis)] : List Vis)] : List (List Vis)) (some ⟨b541, 0, none⟩) 1 ([(⟨1, 0, 0, 32, t131, 0⟩ : Spoil)] : List Spoil) (some ⟨b542, 0, none⟩) 1 _ hc534) ⟨pre_view 4 (view_row (some ⟨b541, 0, none⟩) 1 48 fl_Vis.kd.sl ([([(⟨0, 1, t528, 0⟩ : Vis)] : List Vis)] : List (List Vis)) false true), ⟨pre_view 5 (view_row (some ⟨b542, 0, none⟩) 1 25 fl_Spoil.kd ([(⟨1, 0, 0, 32, t131, 0⟩ : Spoil)] : List Spoil) false true), trivial⟩⟩ ?_
           rintro _ _ ⟨Aa545, c546, rfl, rfl⟩
           refine JL.nil ?_
           refine JY.ran (ba 12 127) [true, true, true, false, false, false, false] ?_
           refine JY.pur (hi := rfl) 7 (ba 12 255) (.tuple #[.slice Aa545 t533.1.length c546, .int .i64 t533.2]) (some 141) want ?_
           refine JY.pur (hi := rfl) 8 (ba 12 511) (.slice Aa545 t533.1.length c546) (some 149) want ?_
           refine JY.pur (hi := rfl) 9 (ba 12 1023) (.int .i64 t533.2) (some 150) want ?_
           refine JY.pur (hi := rfl) 10 (ba 12 2047) (.slice Aa545 t533.1.length c546) (some 25) want ?_
           refine JY.pur (hi := rfl) 11 (ba 12 4095) (.int .i64 t533.2) (some 26) want ?_
           refine JY.done ?_
           refine JQ.then_normal ?_
           exact JQ.meet t533.2 () H0 (fun _ h => Heap.to (Heap.pick [0, 2] (by decide) h))
         · refine JL.buildSl 25 fl_Spoil.kd (([(⟨1, 0, 0, 32, t131, 0⟩ : Spoil)] : List Spoil) : List Spoil) [.int .u8 1, .int .i64 0, .int .i64 0, .int .i64 32, .int .i64 t131.Re, .int .i64 t131.Im, .int .i64 t131.Den, .int .i64 0] false (closes_fl rfl) fun b548 => ?_
           refine JL.nil ?_
           refine JY.ran (ba 12 55) [true, true, true, false, false] ?_
           refine JY.all [3] ⟨⟨_, rfl, ?_⟩, trivial⟩
           refine JQ.turn (fun _ h => freeze_row 3 (some ⟨b540, 0, none⟩) 1 47 fl_Vis.kd ([(⟨0, 1, t528, 0⟩ : Vis)] : List Vis) false h) ?_
           refine JL.buildSl 48 fl_Vis.kd.sl (([([(⟨0, 1, t528, 0⟩ : Vis)] : List Vis)] : List (List Vis)) : List (List Vis)) [.slice (some ⟨b540, 0, none⟩) ([(⟨0, 1, t528, 0⟩ : Vis)] : List Vis).length 1] false (closes_sl 3 false (fun h => h) (closes_nil)) fun b549 => ?_
           refine JL.nil ?_
           refine JY.ran (ba 12 63) [true, true, true, false, false, false] ?_
           refine JY.all [6] ⟨⟨_, rfl, ?_⟩, trivial⟩
           refine JL.call [] [] [] (corrupt_Spoil.ok ([([(⟨0, 1, t528, 0⟩ : Vis)] : List Vis)] : List (List Vis)) (some ⟨b549, 0, none⟩) 1 ([(⟨1, 0, 0, 32, t131, 0⟩ : Spoil)] : List Spoil) (some ⟨b548, 0, none⟩) 1 _ hc534) ⟨pre_view 5 (view_row (some ⟨b549, 0, none⟩) 1 48 fl_Vis.kd.sl ([([(⟨0, 1, t528, 0⟩ : Vis)] : List Vis)] : List (List Vis)) false true), ⟨pre_view 4 (view_row (some ⟨b548, 0, none⟩) 1 25 fl_Spoil.kd ([(⟨1, 0, 0, 32, t131, 0⟩ : Spoil)] : List Spoil) false true), trivial⟩⟩ ?_
           rintro _ _ ⟨Aa552, c553, rfl, rfl⟩
           refine JL.nil ?_
           refine JY.ran (ba 12 127) [true, true, true, false, false, false, false] ?_
           refine JY.pur (hi := rfl) 7 (ba 12 255) (.tuple #[.slice Aa552 t533.1.length c553, .int .i64 t533.2]) (some 141) want ?_
           refine JY.pur (hi := rfl) 8 (ba 12 511) (.slice Aa552 t533.1.length c553) (some 149) want ?_
           refine JY.pur (hi := rfl) 9 (ba 12 1023) (.int .i64 t533.2) (some 150) want ?_
           refine JY.pur (hi := rfl) 10 (ba 12 2047) (.slice Aa552 t533.1.length c553) (some 25) want ?_
           refine JY.pur (hi := rfl) 11 (ba 12 4095) (.int .i64 t533.2) (some 26) want ?_
           refine JY.done ?_
           refine JQ.then_normal ?_
           exact JQ.meet t533.2 () H0 (fun _ h => Heap.to (Heap.pick [0, 2] (by decide) h))
       · refine JL.buildSl 25 fl_Spoil.kd (([(⟨1, 0, 0, 32, t131, 0⟩ : Spoil)] : List Spoil) : List Spoil) [.int .u8 1, .int .i64 0, .int .i64 0, .int .i64 32, .int .i64 t131.Re, .int .i64 t131.Im, .int .i64 t131.Den, .int .i64 0] false (closes_fl rfl) fun b555 => ?_
         refine JL.nil ?_
         refine JY.ran (ba 12 51) [true, true, true, false] ?_
         refine JY.all [2] ⟨⟨_, rfl, ?_⟩, trivial⟩
         refine JL.buildSl 47 fl_Vis.kd (([(⟨0, 1, t528, 0⟩ : Vis)] : List Vis) : List Vis) [.int .i64 0, .int .i64 1, .int .i64 t528.Re, .int .i64 t528.Im, .int .i64 t528.Den, .int .i64 0] false (closes_fl rfl) fun b556 => ?_
         refine JL.nil ?_
         refine JY.ran (ba 12 55) [true, true, true, false, false] ?_
         refine JY.all [3] ⟨⟨_, rfl, ?_⟩, trivial⟩
         refine JQ.turn (fun _ h => freeze_row 4 (some ⟨b556, 0, none⟩) 1 47 fl_Vis.kd ([(⟨0, 1, t528, 0⟩ : Vis)] : List Vis) false h) ?_
         refine JL.buildSl 48 fl_Vis.kd.sl (([([(⟨0, 1, t528, 0⟩ : Vis)] : List Vis)] : List (List Vis)) : List (List Vis)) [.slice (some ⟨b556, 0, none⟩) ([(⟨0, 1, t528, 0⟩ : Vis)] : List Vis).length 1] false (closes_sl 4 false (fun h => h) (closes_nil)) fun b557 => ?_
         refine JL.nil ?_
         refine JY.ran (ba 12 63) [true, true, true, false, false, false] ?_
         refine JY.all [6] ⟨⟨_, rfl, ?_⟩, trivial⟩
         refine JL.call [] [] [] (corrupt_Spoil.ok ([([(⟨0, 1, t528, 0⟩ : Vis)] : List Vis)] : List (List Vis)) (some ⟨b557, 0, none⟩) 1 ([(⟨1, 0, 0, 32, t131, 0⟩ : Spoil)] : List Spoil) (some ⟨b555, 0, none⟩) 1 _ hc534) ⟨pre_view 5 (view_row (some ⟨b557, 0, none⟩) 1 48 fl_Vis.kd.sl ([([(⟨0, 1, t528, 0⟩ : Vis)] : List Vis)] : List (List Vis)) false true), ⟨pre_view 3 (view_row (some ⟨b555, 0, none⟩) 1 25 fl_Spoil.kd ([(⟨1, 0, 0, 32, t131, 0⟩ : Spoil)] : List Spoil) false true), trivial⟩⟩ ?_
         rintro _ _ ⟨Aa560, c561, rfl, rfl⟩
         refine JL.nil ?_
         refine JY.ran (ba 12 127) [true, true, true, false, false, false, false] ?_
         refine JY.pur (hi := rfl) 7 (ba 12 255) (.tuple #[.slice Aa560 t533.1.length c561, .int .i64 t533.2]) (some 141) want ?_
         refine JY.pur (hi := rfl) 8 (ba 12 511) (.slice Aa560 t533.1.length c561) (some 149) want ?_
         refine JY.pur (hi := rfl) 9 (ba 12 1023) (.int .i64 t533.2) (some 150) want ?_
         refine JY.pur (hi := rfl) 10 (ba 12 2047) (.slice Aa560 t533.1.length c561) (some 25) want ?_
         refine JY.pur (hi := rfl) 11 (ba 12 4095) (.int .i64 t533.2) (some 26) want ?_
         refine JY.done ?_
         refine JQ.then_normal ?_
         exact JQ.meet t533.2 () H0 (fun _ h => Heap.to (Heap.pick [0, 2] (by decide) h))
     · refine JL.buildSl 25 fl_Spoil.kd (([(⟨1, 0, 0, 32, t131, 0⟩ : Spoil)] : List Spoil) : List Spoil) [.int .u8 1, .int .i64 0, .int .i64 0, .int .i64 32, .int .i64 t131.Re, .int .i64 t131.Im, .int .i64 t131.Den, .int .i64 0] false (closes_fl rfl) fun b563 => ?_
       refine JL.nil ?_
       refine JY.ran (ba 12 48) [true, true, true, false] ?_
       refine JY.all [0] ⟨⟨_, rfl, ?_⟩, trivial⟩
       refine JL.call [] [] [] (law35_of.ok 1000000000 0 1 _ hc529) trivial ?_
       rintro _ _ ⟨rfl, rfl⟩
       refine JL.nil ?_
       refine JY.ran (ba 12 49) [true, true, true, false] ?_
       refine JY.pur (hi := rfl) 1 (ba 12 51) (.agg #[.int .i64 0, .int .i64 1, .int .i64 t528.Re, .int .i64 t528.Im, .int .i64 t528.Den, .int .i64 0]) (some 143) want ?_
       refine JY.all [2] ⟨⟨_, rfl, ?_⟩, trivial⟩
       refine JL.buildSl 47 fl_Vis.kd (([(⟨0, 1, t528, 0⟩ : Vis)] : List Vis) : List Vis) [.int .i64 0, .int .i64 1, .int .i64 t528.Re, .int .i64 t528.Im, .int .i64 t528.Den, .int .i64 0] false (closes_fl rfl) fun b566 => ?_
       refine JL.nil ?_
       refine JY.ran (ba 12 55) [true, true, true, false, false] ?_
       refine JY.all [3] ⟨⟨_, rfl, ?_⟩, trivial⟩
       refine JQ.turn (fun _ h => freeze_row 4 (some ⟨b566, 0, none⟩) 1 47 fl_Vis.kd ([(⟨0, 1, t528, 0⟩ : Vis)] : List Vis) false h) ?_
       refine JL.buildSl 48 fl_Vis.kd.sl (([([(⟨0, 1, t528, 0⟩ : Vis)] : List Vis)] : List (List Vis)) : List (List Vis)) [.slice (some ⟨b566, 0, none⟩) ([(⟨0, 1, t528, 0⟩ : Vis)] : List Vis).length 1] false (closes_sl 4 false (fun h => h) (closes_nil)) fun b567 => ?_
       refine JL.nil ?_
       refine JY.ran (ba 12 63) [true, true, true, false, false, false] ?_
       refine JY.all [6] ⟨⟨_, rfl, ?_⟩, trivial⟩
       refine JL.call [] [] [] (corrupt_Spoil.ok ([([(⟨0, 1, t528, 0⟩ : Vis)] : List Vis)] : List (List Vis)) (some ⟨b567, 0, none⟩) 1 ([(⟨1, 0, 0, 32, t131, 0⟩ : Spoil)] : List Spoil) (some ⟨b563, 0, none⟩) 1 _ hc534) ⟨pre_view 5 (view_row (some ⟨b567, 0, none⟩) 1 48 fl_Vis.kd.sl ([([(⟨0, 1, t528, 0⟩ : Vis)] : List Vis)] : List (List Vis)) false true), ⟨pre_view 3 (view_row (some ⟨b563, 0, none⟩) 1 25 fl_Spoil.kd ([(⟨1, 0, 0, 32, t131, 0⟩ : Spoil)] : List Spoil) false true), trivial⟩⟩ ?_
       rintro _ _ ⟨Aa570, c571, rfl, rfl⟩
       refine JL.nil ?_
       refine JY.ran (ba 12 127) [true, true, true, false, false, false, false] ?_
       refine JY.pur (hi := rfl) 7 (ba 12 255) (.tuple #[.slice Aa570 t533.1.length c571, .int .i64 t533.2]) (some 141) want ?_
       refine JY.pur (hi := rfl) 8 (ba 12 511) (.slice Aa570 t533.1.length c571) (some 149) want ?_
       refine JY.pur (hi := rfl) 9 (ba 12 1023) (.int .i64 t533.2) (some 150) want ?_
       refine JY.pur (hi := rfl) 10 (ba 12 2047) (.slice Aa570 t533.1.length c571) (some 25) want ?_
       refine JY.pur (hi := rfl) 11 (ba 12 4095) (.int .i64 t533.2) (some 26) want ?_
       refine JY.done ?_
       refine JQ.then_normal ?_
       exact JQ.meet t533.2 () H0 (fun _ h => Heap.to (Heap.pick [0, 2] (by decide) h))
   · clear H0
     rintro k218 ⟨⟩ H0
     replace H0 : law35_CorruptNames.k6 t1 t112 t117 t126 t135 t144 t150 t154 t159 t163 t168 k218 = some r := H0
     unfold law35_CorruptNames.k6 at H0
     refine JQ.sub [(1, .pointer (some ⟨b3, 0, none⟩)), (9, .int .i64 t112.2), (11, .int .i64 t117.2), (13, .int .i64 t126.2), (16, .int .i64 t135.2), (17, .int .i64 t144), (18, .pointer (some ⟨b146, 0, none⟩)), (19, .int .i64 t150), (20, .int .i64 t154), (21, .int .i64 t159), (22, .int .i64 t163), (24, .int .i64 t168.2), (26, .int .i64 k218)] ?_
     refine JQ.turn (Δ' := [At.box b3 23 (cl_23 t1), At.box b146 47 [.int .i64 0, .int .i64 1, .int .i64 t1.Re, .int .i64 t1.Im, .int .i64 t1.Den, .int .i64 0]]) (fun _ h => h.to) ?_
     refine J.join (T := ((List (List Vis)) × Int)) (G := ((Option Addr) × Nat)) (fun t => law35_CorruptNames.k7 t1 t112 t117 t126 t135 t144 t150 t154 t159 t163 t168 k218 t.1 t.2 = some r) (fun t g => [(1, .pointer (some ⟨b3, 0, none⟩)), (9, .int .i64 t112.2), (11, .int .i64 t117.2), (13, .int .i64 t126.2), (16, .int .i64 t135.2), (17, .int .i64 t144), (18, .pointer (some ⟨b146, 0, none⟩)), (19, .int .i64 t150), (20, .int .i64 t154), (21, .int .i64 t159), (22, .int .i64 t163), (24, .int .i64 t168.2), (26, .int .i64 k218), (27, .slice g.1 t.1.length g.2), (28, .int .i64 t.2)]) (fun t g => [At.box b3 23 (cl_23 t1), At.box b146 47 [.int .i64 0, .int .i64 1, .int .i64 t1.Re, .int .i64 t1.Im, .int .i64 t1.Den, .int .i64 0], At.row g.1 g.2 48 fl_Vis.kd.sl t.1 false]) ?_ ?_
     · obtain ⟨t469, hc470, H0⟩ := bind_some H0
       obtain ⟨t472, hc473, H0⟩ := bind_some H0
       refine JY.start [] (ba 12 0) ?_
       refine JY.take (hi := rfl) 0 (ba 12 1) (.agg #[.int .i64 0, .int .i64 1, .int .i64 t1.Re, .int .i64 t1.Im, .int .i64 t1.Den, .int .i64 0]) (some 152) [true, true] want (yields_load_boxes 1 0 [.int .i64 0, .int .i64 1, .int .i64 t1.Re, .int .i64 t1.Im, .int .i64 t1.Den, .int .i64 0] (holds_box b146 47 [.int .i64 0, .int .i64 1, .int .i64 t1.Re, .int .i64 t1.Im, .int .i64 t1.Den, .int .i64 0]) tyAgg_47 tySize_47) ?_
       refine JY.all [1, 3] ⟨⟨_, rfl, ?_⟩, ⟨_, rfl, ?_⟩, trivial⟩
       · refine JL.buildSl 47 fl_Vis.kd (([(⟨0, 1, t1, 0⟩ : Vis)] : List Vis) : List Vis) [.int .i64 0, .int .i64 1, .int .i64 t1.Re, .int .i64 t1.Im, .int .i64 t1.Den, .int .i64 0] false (closes_fl rfl) fun b477 => ?_
         refine JL.nil ?_
         refine JY.ran (ba 12 3) [true, true, false] ?_
         refine JY.all [2, 3] ⟨⟨_, rfl, ?_⟩, ⟨_, rfl, ?_⟩, trivial⟩
         · refine JQ.turn (fun _ h => freeze_row 2 (some ⟨b477, 0, none⟩) 1 47 fl_Vis.kd ([(⟨0, 1, t1, 0⟩ : Vis)] : List Vis) false h) ?_
           refine JL.buildSl 48 fl_Vis.kd.sl (([([(⟨0, 1, t1, 0⟩ : Vis)] : List Vis)] : List (List Vis)) : List (List Vis)) [.slice (some ⟨b477, 0, none⟩) ([(⟨0, 1, t1, 0⟩ : Vis)] : List Vis).length 1] false (closes_sl 2 false (fun h => h) (closes_nil)) fun b478 => ?_
           refine JL.nil ?_
           refine JY.ran (ba 12 7) [true, true, false, false] ?_
           refine JY.all [3] ⟨⟨_, rfl, ?_⟩, trivial⟩
           refine JL.call [] [] [] (law35_of.ok 1000000000 1 1 _ hc470) trivial ?_
           rintro _ _ ⟨rfl, rfl⟩
           refine JL.nil ?_
           refine JY.ran (ba 12 15) [true, true, false, false] ?_
           refine JY.pur (hi := rfl) 4 (ba 12 31) (.agg #[.int .u8 1, .int .i64 0, .int .i64 1, .int .i64 32, .int .i64 t469.Re, .int .i64 t469.Im, .int .i64 t469.Den, .int .i64 0]) (some 156) want ?_
           refine JY.all [5] ⟨⟨_, rfl, ?_⟩, trivial⟩
           refine JL.buildSl 25 fl_Spoil.kd (([(⟨1, 0, 1, 32, t469, 0⟩ : Spoil)] : List Spoil) : List Spoil) [.int .u8 1, .int .i64 0, .int .i64 1, .int .i64 32, .int .i64 t469.Re, .int .i64 t469.Im, .int .i64 t469.Den, .int .i64 0] false (closes_fl rfl) fun b481 => ?_
           refine JL.nil ?_
           refine JY.ran (ba 12 63) [true, true, false, false, false] ?_
           refine JY.all [6] ⟨⟨_, rfl, ?_⟩, trivial⟩
           refine JL.call [] [] [] (corrupt_Undo.ok ([([(⟨0, 1, t1, 0⟩ : Vis)] : List Vis)] : List (List Vis)) (some ⟨b478, 0, none⟩) 1 ([(⟨1, 0, 1, 32, t469, 0⟩ : Spoil)] : List Spoil) (some ⟨b481, 0, none⟩) 1 _ hc473) ⟨pre_view 3 (view_row (some ⟨b478, 0, none⟩) 1 48 fl_Vis.kd.sl ([([(⟨0, 1, t1, 0⟩ : Vis)] : List Vis)] : List (List Vis)) false true), ⟨pre_view 4 (view_row (some ⟨b481, 0, none⟩) 1 25 fl_Spoil.kd ([(⟨1, 0, 1, 32, t469, 0⟩ : Spoil)] : List Spoil) false true), trivial⟩⟩ ?_
           rintro _ _ ⟨Aa484, c485, rfl, rfl⟩
           refine JL.nil ?_
           refine JY.ran (ba 12 127) [true, true, false, false, false, false] ?_
           refine JY.pur (hi := rfl) 7 (ba 12 255) (.tuple #[.slice Aa484 t472.1.length c485, .int .i64 t472.2]) (some 151) want ?_
           refine JY.pur (hi := rfl) 8 (ba 12 511) (.slice Aa484 t472.1.length c485) (some 159) want ?_
           refine JY.pur (hi := rfl) 9 (ba 12 1023) (.int .i64 t472.2) (some 160) want ?_
           refine JY.pur (hi := rfl) 10 (ba 12 2047) (.slice Aa484 t472.1.length c485) (some 27) want ?_
           refine JY.pur (hi := rfl) 11 (ba 12 4095) (.int .i64 t472.2) (some 28) want ?_
           refine JY.done ?_
           refine JQ.then_normal ?_
           exact JQ.meet (t472.1, t472.2) (Aa484, c485) H0 (fun _ h => Heap.to (Heap.pick [0, 1, 5] (by decide) h))
         · refine JL.call [] [] [] (law35_of.ok 1000000000 1 1 _ hc470) trivial ?_
           rintro _ _ ⟨rfl, rfl⟩
           refine JL.nil ?_
           refine JY.ran (ba 12 11) [true, true, false] ?_
           refine JY.pur (hi := rfl) 4 (ba 12 27) (.agg #[.int .u8 1, .int .i64 0, .int .i64 1, .int .i64 32, .int .i64 t469.Re, .int .i64 t469.Im, .int .i64 t469.Den, .int .i64 0]) (some 156) want ?_
           refine JY.all [2, 5] ⟨⟨_, rfl, ?_⟩, ⟨_, rfl, ?_⟩, trivial⟩
           · refine JQ.turn (fun _ h => freeze_row 2 (some ⟨b477, 0, none⟩) 1 47 fl_Vis.kd ([(⟨0, 1, t1, 0⟩ : Vis)] : List Vis) false h) ?_
             refine JL.buildSl 48 fl_Vis.kd.sl (([([(⟨0, 1, t1, 0⟩ : Vis)] : List Vis)] : List (List Vis)) : List (List Vis)) [.slice (some ⟨b477, 0, none⟩) ([(⟨0, 1, t1, 0⟩ : Vis)] : List Vis).length 1] false (closes_sl 2 false (fun h => h) (closes_nil)) fun b489 => ?_
             refine JL.nil ?_
             refine JY.ran (ba 12 31) [true, true, false, false] ?_
             refine JY.all [5] ⟨⟨_, rfl, ?_⟩, trivial⟩
             refine JL.buildSl 25 fl_Spoil.kd (([(⟨1, 0, 1, 32, t469, 0⟩ : Spoil)] : List Spoil) : List Spoil) [.int .u8 1, .int .i64 0, .int .i64 1, .int .i64 32, .int .i64 t469.Re, .int .i64 t469.Im, .int .i64 t469.Den, .int .i64 0] false (closes_fl rfl) fun b490 => ?_
             refine JL.nil ?_
             refine JY.ran (ba 12 63) [true, true, false, false, false] ?_
             refine JY.all [6] ⟨⟨_, rfl, ?_⟩, trivial⟩
             refine JL.call [] [] [] (corrupt_Undo.ok ([([(⟨0, 1, t1, 0⟩ : Vis)] : List Vis)] : List (List Vis)) (some ⟨b489, 0, none⟩) 1 ([(⟨1, 0, 1, 32, t469, 0⟩ : Spoil)] : List Spoil) (some ⟨b490, 0, none⟩) 1 _ hc473) ⟨pre_view 3 (view_row (some ⟨b489, 0, none⟩) 1 48 fl_Vis.kd.sl ([([(⟨0, 1, t1, 0⟩ : Vis)] : List Vis)] : List (List Vis)) false true), ⟨pre_view 4 (view_row (some ⟨b490, 0, none⟩) 1 25 fl_Spoil.kd ([(⟨1, 0, 1, 32, t469, 0⟩ : Spoil)] : List Spoil) false true), trivial⟩⟩ ?_
             rintro _ _ ⟨Aa493, c494, rfl, rfl⟩
             refine JL.nil ?_
             refine JY.ran (ba 12 127) [true, true, false, false, false, false] ?_
             refine JY.pur (hi := rfl) 7 (ba 12 255) (.tuple #[.slice Aa493 t472.1.length c494, .int .i64 t472.2]) (some 151) want ?_
             refine JY.pur (hi := rfl) 8 (ba 12 511) (.slice Aa493 t472.1.length c494) (some 159) want ?_
             refine JY.pur (hi := rfl) 9 (ba 12 1023) (.int .i64 t472.2) (some 160) want ?_
             refine JY.pur (hi := rfl) 10 (ba 12 2047) (.slice Aa493 t472.1.length c494) (some 27) want ?_
             refine JY.pur (hi := rfl) 11 (ba 12 4095) (.int .i64 t472.2) (some 28) want ?_
             refine JY.done ?_
             refine JQ.then_normal ?_
             exact JQ.meet (t472.1, t472.2) (Aa493, c494) H0 (fun _ h => Heap.to (Heap.pick [0, 1, 5] (by decide) h))
           · refine JL.buildSl 25 fl_Spoil.kd (([(⟨1, 0, 1, 32, t469, 0⟩ : Spoil)] : List Spoil) : List Spoil) [.int .u8 1, .int .i64 0, .int .i64 1, .int .i64 32, .int .i64 t469.Re, .int .i64 t469.Im, .int .i64 t469.Den, .int .i64 0] false (closes_fl rfl) fun b496 => ?_
             refine JL.nil ?_
             refine JY.ran (ba 12 59) [true, true, false, false] ?_
             refine JY.all [2] ⟨⟨_, rfl, ?_⟩, trivial⟩
             refine JQ.turn (fun _ h => freeze_row 2 (some ⟨b477, 0, none⟩) 1 47 fl_Vis.kd ([(⟨0, 1, t1, 0⟩ : Vis)] : List Vis) false h) ?_
             refine JL.buildSl 48 fl_Vis.kd.sl (([([(⟨0, 1, t1, 0⟩ : Vis)] : List Vis)] : List (List Vis)) : List (List Vis)) [.slice (some ⟨b477, 0, none⟩) ([(⟨0, 1, t1, 0⟩ : Vis)] : List Vis).length 1] false (closes_sl 2 false (fun h => h) (closes_nil)) fun b497 => ?_
             refine JL.nil ?_
             refine JY.ran (ba 12 63) [true, true, false, false, false] ?_
             refine JY.all [6] ⟨⟨_, rfl, ?_⟩, trivial⟩
             refine JL.call [] [] [] (corrupt_Undo.ok ([([(⟨0, 1, t1, 0⟩ : Vis)] : List Vis)] : List (List Vis)) (some ⟨b497, 0, none⟩) 1 ([(⟨1, 0, 1, 32, t469, 0⟩ : Spoil)] : List Spoil) (some ⟨b496, 0, none⟩) 1 _ hc473) ⟨pre_view 4 (view_row (some ⟨b497, 0, none⟩) 1 48 fl_Vis.kd.sl ([([(⟨0, 1, t1, 0⟩ : Vis)] : List Vis)] : List (List Vis)) false true), ⟨pre_view 3 (view_row (some ⟨b496, 0, none⟩) 1 25 fl_Spoil.kd ([(⟨1, 0, 1, 32, t469, 0⟩ : Spoil)] : List Spoil) false true), trivial⟩⟩ ?_
             rintro _ _ ⟨Aa500, c501, rfl, rfl⟩
             refine JL.nil ?_
             refine JY.ran (ba 12 127) [true, true, false, false, false, false] ?_
             refine JY.pur (hi := rfl) 7 (ba 12 255) (.tuple #[.slice Aa500 t472.1.length c501, .int .i64 t472.2]) (some 151) want ?_
             refine JY.pur (hi := rfl) 8 (ba 12 511) (.slice Aa500 t472.1.length c501) (some 159) want ?_
             refine JY.pur (hi := rfl) 9 (ba 12 1023) (.int .i64 t472.2) (some 160) want ?_
             refine JY.pur (hi := rfl) 10 (ba 12 2047) (.slice Aa500 t472.1.length c501) (some 27) want ?_
             refine JY.pur (hi := rfl) 11 (ba 12 4095) (.int .i64 t472.2) (some 28) want ?_
             refine JY.done ?_
             refine JQ.then_normal ?_
             exact JQ.meet (t472.1, t472.2) (Aa500, c501) H0 (fun _ h => Heap.to (Heap.pick [0, 1, 5] (by decide) h))
       · refine JL.call [] [] [] (law35_of.ok 1000000000 1 1 _ hc470) trivial ?_
         rintro _ _ ⟨rfl, rfl⟩
         refine JL.nil ?_
         refine JY.ran (ba 12 9) [true, true] ?_
         refine JY.pur (hi := rfl) 4 (ba 12 25) (.agg #[.int .u8 1, .int .i64 0, .int .i64 1, .int .i64 32, .int .i64 t469.Re, .int .i64 t469.Im, .int .i64 t469.Den, .int .i64 0]) (some 156) want ?_
         refine JY.all [1, 5] ⟨⟨_, rfl, ?_⟩, ⟨_, rfl, ?_⟩, trivial⟩
         · refine JL.buildSl 47 fl_Vis.kd (([(⟨0, 1, t1, 0⟩ : Vis)] : List Vis) : List Vis) [.int .i64 0, .int .i64 1, .int .i64 t1.Re, .int .i64 t1.Im, .int .i64 t1.Den, .int .i64 0] false (closes_fl rfl) fun b505 => ?_
           refine JL.nil ?_
           refine JY.ran (ba 12 27) [true, true, false] ?_
           refine JY.all [2, 5] ⟨⟨_, rfl, ?_⟩, ⟨_, rfl, ?_⟩, trivial⟩
           · refine JQ.turn (fun _ h => freeze_row 2 (some ⟨b505, 0, none⟩) 1 47 fl_Vis.kd ([(⟨0, 1, t1, 0⟩ : Vis)] : List Vis) false h) ?_
             refine JL.buildSl 48 fl_Vis.kd.sl (([([(⟨0, 1, t1, 0⟩ : Vis)] : List Vis)] : List (List Vis)) : List (List Vis)) [.slice (some ⟨b505, 0, none⟩) ([(⟨0, 1, t1, 0⟩ : Vis)] : List Vis).length 1] false (closes_sl 2 false (fun h => h) (closes_nil)) fun b506 => ?_
             refine JL.nil ?_
             refine JY.ran (ba 12 31) [true, true, false, false] ?_
             refine JY.all [5] ⟨⟨_, rfl, ?_⟩, trivial⟩
             refine JL.buildSl 25 fl_Spoil.kd (([(⟨1, 0, 1, 32, t469, 0⟩ : Spoil)] : List Spoil) : List Spoil) [.int .u8 1, .int .i64 0, .int .i64 1, .int .i64 32, .int .i64 t469.Re, .int .i64 t469.Im, .int .i64 t469.Den, .int .i64 0] false (closes_fl rfl) fun b507 => ?_
             refine JL.nil ?_
             refine JY.ran (ba 12 63) [true, true, false, false, false] ?_
             refine JY.all [6] ⟨⟨_, rfl, ?_⟩, trivial⟩
             refine JL.call [] [] [] (corrupt_Undo.ok ([([(⟨0, 1, t1, 0⟩ : Vis)] : List Vis)] : List (List Vis)) (some ⟨b506, 0, none⟩) 1 ([(⟨1, 0, 1, 32, t469, 0⟩ : Spoil)] : List Spoil) (some ⟨b507, 0, none⟩) 1 _ hc473) ⟨pre_view 3 (view_row (some ⟨b506, 0, none⟩) 1 48 fl_Vis.kd.sl ([([(⟨0, 1, t1, 0⟩ : Vis)] : List Vis)] : List (List Vis)) false true), ⟨pre_view 4 (view_row (some ⟨b507, 0, none⟩) 1 25 fl_Spoil.kd ([(⟨1, 0, 1, 32, t469, 0⟩ : Spoil)] : List Spoil) false true), trivial⟩⟩ ?_
             rintro _ _ ⟨Aa510, c511, rfl, rfl⟩
             refine JL.nil ?_
             refine JY.ran (ba 12 127) [true, true, false, false, false, false] ?_
             refine JY.pur (hi := rfl) 7 (ba 12 255) (.tuple #[.slice Aa510 t472.1.length c511, .int .i64 t472.2]) (some 151) want ?_
             refine JY.pur (hi := rfl) 8 (ba 12 511) (.slice Aa510 t472.1.length c511) (some 159) want ?_
             refine JY.pur (hi := rfl) 9 (ba 12 1023) (.int .i64 t472.2) (some 160) want ?_
             refine JY.pur (hi := rfl) 10 (ba 12 2047) (.slice Aa510 t472.1.length c511) (some 27) want ?_
             refine JY.pur (hi := rfl) 11 (ba 12 4095) (.int .i64 t472.2) (some 28) want ?_
             refine JY.done ?_
             refine JQ.then_normal ?_
             exact JQ.meet (t472.1, t472.2) (Aa510, c511) H0 (fun _ h => Heap.to (Heap.pick [0, 1, 5] (by decide) h))
           · refine JL.buildSl 25 fl_Spoil.kd (([(⟨1, 0, 1, 32, t469, 0⟩ : Spoil)] : List Spoil) : List Spoil) [.int .u8 1, .int .i64 0, .int .i64 1, .int .i64 32, .int .i64 t469.Re, .int .i64 t469.Im, .int .i64 t469.Den, .int .i64 0] false (closes_fl rfl) fun b513 => ?_
             refine JL.nil ?_
             refine JY.ran (ba 12 59) [true, true, false, false] ?_
             refine JY.all [2] ⟨⟨_, rfl, ?_⟩, trivial⟩
             refine JQ.turn (fun _ h => freeze_row 2 (some ⟨b505, 0, none⟩) 1 47 fl_Vis.kd ([(⟨0, 1, t1, 0⟩ : Vis)] : List Vis) false h) ?_
             refine JL.buildSl 48 fl_Vis.kd.sl (([([(⟨0, 1, t1, 0⟩ : Vis)] : List Vis)] : List (List Vis)) : List (List Vis)) [.slice (some ⟨b505, 0, none⟩) ([(⟨0, 1, t1, 0⟩ : Vis)] : List Vis).length 1] false (closes_sl 2 false (fun h => h) (closes_nil)) fun b514 => ?_
             refine JL.nil ?_
             refine JY.ran (ba 12 63) [true, true, false, false, false] ?_
             refine JY.all [6] ⟨⟨_, rfl, ?_⟩, trivial⟩
             refine JL.call [] [] [] (corrupt_Undo.ok ([([(⟨0, 1, t1, 0⟩ : Vis)] : List Vis)] : List (List Vis)) (some ⟨b514, 0, none⟩) 1 ([(⟨1, 0, 1, 32, t469, 0⟩ : Spoil)] : List Spoil) (some ⟨b513, 0, none⟩) 1 _ hc473) ⟨pre_view 4 (view_row (some ⟨b514, 0, none⟩) 1 48 fl_Vis.kd.sl ([([(⟨0, 1, t1, 0⟩ : Vis)] : List Vis)] : List (List Vis)) false true), ⟨pre_view 3 (view_row (some ⟨b513, 0, none⟩) 1 25 fl_Spoil.kd ([(⟨1, 0, 1, 32, t469, 0⟩ : Spoil)] : List Spoil) false true), trivial⟩⟩ ?_
             rintro _ _ ⟨Aa517, c518, rfl, rfl⟩
             refine JL.nil ?_
             refine JY.ran (ba 12 127) [true, true, false, false, false, false] ?_
             refine JY.pur (hi := rfl) 7 (ba 12 255) (.tuple #[.slice Aa517 t472.1.length c518, .int .i64 t472.2]) (some 151) want ?_
             refine JY.pur (hi := rfl) 8 (ba 12 511) (.slice Aa517 t472.1.length c518) (some 159) want ?_
             refine JY.pur (hi := rfl) 9 (ba 12 1023) (.int .i64 t472.2) (some 160) want ?_
             refine JY.pur (hi := rfl) 10 (ba 12 2047) (.slice Aa517 t472.1.length c518) (some 27) want ?_
             refine JY.pur (hi := rfl) 11 (ba 12 4095) (.int .i64 t472.2) (some 28) want ?_
             refine JY.done ?_
             refine JQ.then_normal ?_
             exact JQ.meet (t472.1, t472.2) (Aa517, c518) H0 (fun _ h => Heap.to (Heap.pick [0, 1, 5] (by decide) h))
         · refine JL.buildSl 25 fl_Spoil.kd (([(⟨1, 0, 1, 32, t469, 0⟩ : Spoil)] : List Spoil) : List Spoil) [.int .u8 1, .int .i64 0, .int .i64 1, .int .i64 32, .int .i64 t469.Re, .int .i64 t469.Im, .int .i64 t469.Den, .int .i64 0] false (closes_fl rfl) fun b520 => ?_
           refine JL.nil ?_
           refine JY.ran (ba 12 57) [true, true, false] ?_
           refine JY.all [1] ⟨⟨_, rfl, ?_⟩, trivial⟩
           refine JL.buildSl 47 fl_Vis.kd (([(⟨0, 1, t1, 0⟩ : Vis)] : List Vis) : List Vis) [.int .i64 0, .int .i64 1, .int .i64 t1.Re, .int .i64 t1.Im, .int .i64 t1.Den, .int .i64 0] false (closes_fl rfl) fun b521 => ?_
           refine JL.nil ?_
           refine JY.ran (ba 12 59) [true, true, false, false] ?_
           refine JY.all [2] ⟨⟨_, rfl, ?_⟩, trivial⟩
           refine JQ.turn (fun _ h => freeze_row 3 (some ⟨b521, 0, none⟩) 1 47 fl_Vis.kd ([(⟨0, 1, t1, 0⟩ : Vis)] : List Vis) false h) ?_
           refine JL.buildSl 48 fl_Vis.kd.sl (([([(⟨0, 1, t1, 0⟩ : Vis)] : List Vis)] : List (List Vis)) : List (List Vis)) [.slice (some ⟨b521, 0, none⟩) ([(⟨0, 1, t1, 0⟩ : Vis)] : List Vis).length 1] false (closes_sl 3 false (fun h => h) (closes_nil)) fun b522 => ?_
           refine JL.nil ?_
           refine JY.ran (ba 12 63) [true, true, false, false, false] ?_
           refine JY.all [6] ⟨⟨_, rfl, ?_⟩, trivial⟩
           refine JL.call [] [] [] (corrupt_Undo.ok ([([(⟨0, 1, t1, 0⟩ : Vis)] : List Vis)] : List (List Vis)) (some ⟨b522, 0, none⟩) 1 ([(⟨1, 0, 1, 32, t469, 0⟩ : Spoil)] : List Spoil) (some ⟨b520, 0, none⟩) 1 _ hc473) ⟨pre_view 4 (view_row (some ⟨b522, 0, none⟩) 1 48 fl_Vis.kd.sl ([([(⟨0, 1, t1, 0⟩ : Vis)] : List Vis)] : List (List Vis)) false true), ⟨pre_view 2 (view_row (some ⟨b520, 0, none⟩) 1 25 fl_Spoil.kd ([(⟨1, 0, 1, 32, t469, 0⟩ : Spoil)] : List Spoil) false true), trivial⟩⟩ ?_
           rintro _ _ ⟨Aa525, c526, rfl, rfl⟩
           refine JL.nil ?_
           refine JY.ran (ba 12 127) [true, true, false, false, false, false] ?_
           refine JY.pur (hi := rfl) 7 (ba 12 255) (.tuple #[.slice Aa525 t472.1.length c526, .int .i64 t472.2]) (some 151) want ?_
           refine JY.pur (hi := rfl) 8 (ba 12 511) (.slice Aa525 t472.1.length c526) (some 159) want ?_
           refine JY.pur (hi := rfl) 9 (ba 12 1023) (.int .i64 t472.2) (some 160) want ?_
           refine JY.pur (hi := rfl) 10 (ba 12 2047) (.slice Aa525 t472.1.length c526) (some 27) want ?_
           refine JY.pur (hi := rfl) 11 (ba 12 4095) (.int .i64 t472.2) (some 28) want ?_
           refine JY.done ?_
           refine JQ.then_normal ?_
           exact JQ.meet (t472.1, t472.2) (Aa525, c526) H0 (fun _ h => Heap.to (Heap.pick [0, 1, 5] (by decide) h))
     · clear H0
       rintro ⟨late280, l284⟩ ⟨Aa281, c282⟩ H0
       replace H0 : law35_CorruptNames.k7 t1 t112 t117 t126 t135 t144 t150 t154 t159 t163 t168 k218 late280 l284 = some r := H0
       unfold law35_CorruptNames.k7 at H0
       refine JQ.sub [(1, .pointer (some ⟨b3, 0, none⟩)), (9, .int .i64 t112.2), (11, .int .i64 t117.2), (13, .int .i64 t126.2), (16, .int .i64 t135.2), (17, .int .i64 t144), (18, .pointer (some ⟨b146, 0, none⟩)), (19, .int .i64 t150), (20, .int .i64 t154), (21, .int .i64 t159), (22, .int .i64 t163), (24, .int .i64 t168.2), (26, .int .i64 k218), (27, .slice Aa281 late280.length c282), (28, .int .i64 l284)] ?_
       refine JQ.turn (Δ' := [At.box b3 23 (cl_23 t1), At.box b146 47 [.int .i64 0, .int .i64 1, .int .i64 t1.Re, .int .i64 t1.Im, .int .i64 t1.Den, .int .i64 0], At.row Aa281 c282 48 fl_Vis.kd.sl late280 false]) (fun _ h => h.to) ?_
       refine J.sr ?_
       refine JL.val (.agg #[.int .i64 0, .int .i64 1, .int .i64 t1.Re, .int .i64 t1.Im, .int .i64 t1.Den, .int .i64 0]) (some 162) (yields_load_boxes 1 0 [.int .i64 0, .int .i64 1, .int .i64 t1.Re, .int .i64 t1.Im, .int .i64 t1.Den, .int .i64 0] (holds_box b146 47 [.int .i64 0, .int .i64 1, .int .i64 t1.Re, .int .i64 t1.Im, .int .i64 t1.Den, .int .i64 0]) tyAgg_47 tySize_47) ?_
       refine JL.buildSl 47 fl_Vis.kd (([(⟨0, 1, t1, 0⟩ : Vis)] : List Vis) : List Vis) [.int .i64 0, .int .i64 1, .int .i64 t1.Re, .int .i64 t1.Im, .int .i64 t1.Den, .int .i64 0] false (closes_fl rfl) fun b285 => ?_
       refine JQ.turn (fun _ h => freeze_row 3 (some ⟨b285, 0, none⟩) 1 47 fl_Vis.kd ([(⟨0, 1, t1, 0⟩ : Vis)] : List Vis) false h) ?_
       refine JL.buildSl 48 fl_Vis.kd.sl (([([(⟨0, 1, t1, 0⟩ : Vis)] : List Vis)] : List (List Vis)) : List (List Vis)) [.slice (some ⟨b285, 0, none⟩) ([(⟨0, 1, t1, 0⟩ : Vis)] : List Vis).length 1] false (closes_sl 3 false (fun h => h) (closes_nil)) fun b286 => ?_
       refine JL.val (.agg #[.int .i64 0, .int .i64 1, .int .i64 t1.Re, .int .i64 t1.Im, .int .i64 t1.Den, .int .i64 0]) (some 165) (yields_load_boxes 1 0 [.int .i64 0, .int .i64 1, .int .i64 t1.Re, .int .i64 t1.Im, .int .i64 t1.Den, .int .i64 0] (holds_box b146 47 [.int .i64 0, .int .i64 1, .int .i64 t1.Re, .int .i64 t1.Im, .int .i64 t1.Den, .int .i64 0]) tyAgg_47 tySize_47) ?_
       refine JL.buildSl 47 fl_Vis.kd (([(⟨0, 1, t1, 0⟩ : Vis)] : List Vis) : List Vis) [.int .i64 0, .int .i64 1, .int .i64 t1.Re, .int .i64 t1.Im, .int .i64 t1.Den, .int .i64 0] false (closes_fl rfl) fun b287 => ?_
       refine JL.val (.agg #[.int .i64 0, .int .i64 1, .int .i64 t1.Re, .int .i64 t1.Im, .int .i64 t1.Den, .int .i64 0]) (some 167) (yields_load_boxes 1 0 [.int .i64 0, .int .i64 1, .int .i64 t1.Re, .int .i64 t1.Im, .int .i64 t1.Den, .int .i64 0] (holds_box b146 47 [.int .i64 0, .int .i64 1, .int .i64 t1.Re, .int .i64 t1.Im, .int .i64 t1.Den, .int .i64 0]) tyAgg_47 tySize_47) ?_
       refine JL.buildSl 47 fl_Vis.kd (([(⟨0, 1, t1, 0⟩ : Vis)] : List Vis) : List Vis) [.int .i64 0, .int .i64 1, .int .i64 t1.Re, .int .i64 t1.Im, .int .i64 t1.Den, .int .i64 0] false (closes_fl rfl) fun b288 => ?_
       refine JQ.turn (fun _ h => freeze_row 5 (some ⟨b287, 0, none⟩) 1 47 fl_Vis.kd ([(⟨0, 1, t1, 0⟩ : Vis)] : List Vis) false h) ?_
       refine JQ.turn (fun _ h => freeze_row 6 (some ⟨b288, 0, none⟩) 1 47 fl_Vis.kd ([(⟨0, 1, t1, 0⟩ : Vis)] : List Vis) false h) ?_
       refine JL.buildSl 48 fl_Vis.kd.sl (([([(⟨0, 1, t1, 0⟩ : Vis)] : List Vis), ([(⟨0, 1, t1, 0⟩ : Vis)] : List Vis)] : List (List Vis)) : List (List Vis)) [.slice (some ⟨b287, 0, none⟩) ([(⟨0, 1, t1, 0⟩ : Vis)] : List Vis).length 1, .slice (some ⟨b288, 0, none⟩) ([(⟨0, 1, t1, 0⟩ : Vis)] : List Vis).length 1] false (closes_sl 5 false (fun h => h) (closes_sl 6 false (fun h => h) (closes_nil))) fun b289 => ?_
       obtain ⟨t290, hc291, H0⟩ := bind_some H0
       refine JL.call [] [] [] (corrupt_Alike.ok ([([(⟨0, 1, t1, 0⟩ : Vis)] : List Vis)] : List (List Vis)) (some ⟨b286, 0, none⟩) 1 ([([(⟨0, 1, t1, 0⟩ : Vis)] : List Vis), ([(⟨0, 1, t1, 0⟩ : Vis)] : List Vis)] : List (List Vis)) (some ⟨b289, 0, none⟩) 2 _ hc291) ⟨pre_view 4 (view_row (some ⟨b286, 0, none⟩) 1 48 fl_Vis.kd.sl ([([(⟨0, 1, t1, 0⟩ : Vis)] : List Vis)] : List (List Vis)) false true), ⟨pre_view 7 (view_row (some ⟨b289, 0, none⟩) 2 48 fl_Vis.kd.sl ([([(⟨0, 1, t1, 0⟩ : Vis)] : List Vis), ([(⟨0, 1, t1, 0⟩ : Vis)] : List Vis)] : List (List Vis)) false true), trivial⟩⟩ ?_
       rintro _ _ ⟨rfl, rfl⟩
       refine JL.mv (.tuple #[.bool t290.1, .int .i64 t290.2]) ?_
       refine JL.pur (.bool t290.1) (some 171) ?_
       refine JL.pur (.int .i64 t290.2) (some 172) ?_
       refine JL.as (.bool t290.1) ?_
       refine JL.as (.int .i64 t290.2) ?_
       refine JL.es [(1, .pointer (some ⟨b3, 0, none⟩)), (9, .int .i64 t112.2), (11, .int .i64 t117.2), (13, .int .i64 t126.2), (16, .int .i64 t135.2), (17, .int .i64 t144), (18, .pointer (some ⟨b146, 0, none⟩)), (19, .int .i64 t150), (20, .int .i64 t154), (21, .int .i64 t159), (22, .int .i64 t163), (24, .int .i64 t168.2), (26, .int .i64 k218), (27, .slice Aa281 late280.length c282), (28, .int .i64 l284), (29, .bool t290.1), (30, .int .i64 t290.2)] ?_
       refine JQ.mask [At.box b3 23 (cl_23 t1), At.box b146 47 [.int .i64 0, .int .i64 1, .int .i64 t1.Re, .int .i64 t1.Im, .int .i64 t1.Den, .int .i64 0], At.row Aa281 c282 48 fl_Vis.kd.sl late280 false] [true, true, true, false, false, false, false, false] ?_
       refine J.sr ?_
       refine JL.val (.agg #[.int .i64 0, .int .i64 1, .int .i64 t1.Re, .int .i64 t1.Im, .int .i64 t1.Den, .int .i64 0]) (some 174) (yields_load_boxes 1 0 [.int .i64 0, .int .i64 1, .int .i64 t1.Re, .int .i64 t1.Im, .int .i64 t1.Den, .int .i64 0] (holds_box b146 47 [.int .i64 0, .int .i64 1, .int .i64 t1.Re, .int .i64 t1.Im, .int .i64 t1.Den, .int .i64 0]) tyAgg_47 tySize_47) ?_
       refine JL.buildSl 47 fl_Vis.kd (([(⟨0, 1, t1, 0⟩ : Vis)] : List Vis) : List Vis) [.int .i64 0, .int .i64 1, .int .i64 t1.Re, .int .i64 t1.Im, .int .i64 t1.Den, .int .i64 0] false (closes_fl rfl) fun b292 => ?_
       refine JQ.turn (fun _ h => freeze_row 3 (some ⟨b292, 0, none⟩) 1 47 fl_Vis.kd ([(⟨0, 1, t1, 0⟩ : Vis)] : List Vis) false h) ?_
       refine JL.buildSl 48 fl_Vis.kd.sl (([([(⟨0, 1, t1, 0⟩ : Vis)] : List Vis)] : List (List Vis)) : List (List Vis)) [.slice (some ⟨b292, 0, none⟩) ([(⟨0, 1, t1, 0⟩ : Vis)] : List Vis).length 1] false (closes_sl 3 false (fun h => h) (closes_nil)) fun b293 => ?_
       refine JL.val (mv_23 t1) (some 177) (yields_load_boxes 0 0 (cl_23 t1) (holds_box b3 23 (cl_23 t1)) tyAgg_23 tySize_23) ?_
       refine JL.pur (.agg #[.int .i64 1, .int .i64 2, .int .i64 t1.Re, .int .i64 t1.Im, .int .i64 t1.Den, .int .i64 0]) (some 178) ?_
       refine JL.buildSl 47 fl_Vis.kd (([(⟨1, 2, t1, 0⟩ : Vis)] : List Vis) : List Vis) [.int .i64 1, .int .i64 2, .int .i64 t1.Re, .int .i64 t1.Im, .int .i64 t1.Den, .int .i64 0] false (closes_fl rfl) fun b294 => ?_
       refine JQ.turn (fun _ h => freeze_row 5 (some ⟨b294, 0, none⟩) 1 47 fl_Vis.kd ([(⟨1, 2, t1, 0⟩ : Vis)] : List Vis) false h) ?_
       refine JL.buildSl 48 fl_Vis.kd.sl (([([(⟨1, 2, t1, 0⟩ : Vis)] : List Vis)] : List (List Vis)) : List (List Vis)) [.slice (some ⟨b294, 0, none⟩) ([(⟨1, 2, t1, 0⟩ : Vis)] : List Vis).length 1] false (closes_sl 5 false (fun h => h) (closes_nil)) fun b295 => ?_
       obtain ⟨t296, hc297, H0⟩ := bind_some H0
       refine JL.call [] [] [] (corrupt_Alike.ok ([([(⟨0, 1, t1, 0⟩ : Vis)] : List Vis)] : List (List Vis)) (some ⟨b293, 0, none⟩) 1 ([([(⟨1, 2, t1, 0⟩ : Vis)] : List Vis)] : List (List Vis)) (some ⟨b295, 0, none⟩) 1 _ hc297) ⟨pre_view 4 (view_row (some ⟨b293, 0, none⟩) 1 48 fl_Vis.kd.sl ([([(⟨0, 1, t1, 0⟩ : Vis)] : List Vis)] : List (List Vis)) false true), ⟨pre_view 6 (view_row (some ⟨b295, 0, none⟩) 1 48 fl_Vis.kd.sl ([([(⟨1, 2, t1, 0⟩ : Vis)] : List Vis)] : List (List Vis)) false true), trivial⟩⟩ ?_
       rintro _ _ ⟨rfl, rfl⟩
       refine JL.mv (.tuple #[.bool t296.1, .int .i64 t296.2]) ?_
       refine JL.pur (.bool t296.1) (some 182) ?_
       refine JL.pur (.int .i64 t296.2) (some 183) ?_
       refine JL.as (.bool t296.1) ?_
       refine JL.as (.int .i64 t296.2) ?_
       refine JL.es [(9, .int .i64 t112.2), (11, .int .i64 t117.2), (13, .int .i64 t126.2), (16, .int .i64 t135.2), (17, .int .i64 t144), (18, .pointer (some ⟨b146, 0, none⟩)), (19, .int .i64 t150), (20, .int .i64 t154), (21, .int .i64 t159), (22, .int .i64 t163), (24, .int .i64 t168.2), (26, .int .i64 k218), (27, .slice Aa281 late280.length c282), (28, .int .i64 l284), (29, .bool t290.1), (30, .int .i64 t290.2), (31, .bool t296.1), (32, .int .i64 t296.2)] ?_
       refine JQ.mask [At.box b146 47 [.int .i64 0, .int .i64 1, .int .i64 t1.Re, .int .i64 t1.Im, .int .i64 t1.Den, .int .i64 0], At.row Aa281 c282 48 fl_Vis.kd.sl late280 false] [false, true, true, false, false, false, false] ?_
       refine J.join (T := (Bool × Int)) (G := Unit) (fun t => law35_CorruptNames.k8 t1 t112 t117 t126 t135 t144 t150 t154 t159 t163 t168 k218 late280 l284 t290 t296 t.1 t.2 = some r) (fun t g => [(9, .int .i64 t112.2), (11, .int .i64 t117.2), (13, .int .i64 t126.2), (16, .int .i64 t135.2), (17, .int .i64 t144), (18, .pointer (some ⟨b146, 0, none⟩)), (19, .int .i64 t150), (20, .int .i64 t154), (21, .int .i64 t159), (22, .int .i64 t163), (24, .int .i64 t168.2), (26, .int .i64 k218), (27, .slice Aa281 late280.length c282), (28, .int .i64 l284), (29, .bool t290.1), (30, .int .i64 t290.2), (31, .bool t296.1), (32, .int .i64 t296.2), (33, .bool t.1), (34, .int .i64 t.2)]) (fun t g => [At.box b146 47 [.int .i64 0, .int .i64 1, .int .i64 t1.Re, .int .i64 t1.Im, .int .i64 t1.Den, .int .i64 0], At.row Aa281 c282 48 fl_Vis.kd.sl late280 false]) ?_ ?_
       · obtain ⟨t405, hc406, H0⟩ := bind_some H0
         obtain ⟨t409, hc410, H0⟩ := bind_some H0
         refine JY.start [] (ba 13 0) ?_
         refine JY.take (hi := rfl) 0 (ba 13 1) (.agg #[.int .i64 0, .int .i64 1, .int .i64 t1.Re, .int .i64 t1.Im, .int .i64 t1.Den, .int .i64 0]) (some 185) [true, true] want (yields_load_boxes 0 0 [.int .i64 0, .int .i64 1, .int .i64 t1.Re, .int .i64 t1.Im, .int .i64 t1.Den, .int .i64 0] (holds_box b146 47 [.int .i64 0, .int .i64 1, .int .i64 t1.Re, .int .i64 t1.Im, .int .i64 t1.Den, .int .i64 0]) tyAgg_47 tySize_47) ?_
         refine JY.all [1, 3] ⟨⟨_, rfl, ?_⟩, ⟨_, rfl, ?_⟩, trivial⟩
         · refine JL.buildSl 47 fl_Vis.kd (([(⟨0, 1, t1, 0⟩ : Vis)] : List Vis) : List Vis) [.int .i64 0, .int .i64 1, .int .i64 t1.Re, .int .i64 t1.Im, .int .i64 t1.Den, .int .i64 0] false (closes_fl rfl) fun b411 => ?_
           refine JL.nil ?_
           refine JY.ran (ba 13 3) [true, true, false] ?_
           refine JY.all [2, 3] ⟨⟨_, rfl, ?_⟩, ⟨_, rfl, ?_⟩, trivial⟩
           · refine JQ.turn (fun _ h => freeze_row 2 (some ⟨b411, 0, none⟩) 1 47 fl_Vis.kd ([(⟨0, 1, t1, 0⟩ : Vis)] : List Vis) false h) ?_
             refine JL.buildSl 48 fl_Vis.kd.sl (([([(⟨0, 1, t1, 0⟩ : Vis)] : List Vis)] : List (List Vis)) : List (List Vis)) [.slice (some ⟨b411, 0, none⟩) ([(⟨0, 1, t1, 0⟩ : Vis)] : List Vis).length 1] false (closes_sl 2 false (fun h => h) (closes_nil)) fun b412 => ?_
             refine JL.nil ?_
             refine JY.ran (ba 13 7) [true, true, false, false] ?_
             refine JY.all [3] ⟨⟨_, rfl, ?_⟩, trivial⟩
             refine JL.call [] [] [] (law35_of.ok 5 7 3 _ hc406) trivial ?_
             rintro _ _ ⟨rfl, rfl⟩
             refine JL.nil ?_
             refine JY.ran (ba 13 15) [true, true, false, false] ?_
             refine JY.pur (hi := rfl) 4 (ba 13 31) (.agg #[.int .i64 0, .int .i64 1, .int .i64 t405.Re, .int .i64 t405.Im, .int .i64 t405.Den, .int .i64 4]) (some 189) want ?_
             refine JY.all [5] ⟨⟨_, rfl, ?_⟩, trivial⟩
             refine JL.buildSl 47 fl_Vis.kd (([(⟨0, 1, t405, 4⟩ : Vis)] : List Vis) : List Vis) [.int .i64 0, .int .i64 1, .int .i64 t405.Re, .int .i64 t405.Im, .int .i64 t405.Den, .int .i64 4] false (closes_fl rfl) fun b415 => ?_
             refine JL.nil ?_
             refine JY.ran (ba 13 63) [true, true, false, false, false] ?_
             refine JY.all [6] ⟨⟨_, rfl, ?_⟩, trivial⟩
             refine JQ.turn (fun _ h => freeze_row 4 (some ⟨b415, 0, none⟩) 1 47 fl_Vis.kd ([(⟨0, 1, t405, 4⟩ : Vis)] : List Vis) false h) ?_
             refine JL.buildSl 48 fl_Vis.kd.sl (([([(⟨0, 1, t405, 4⟩ : Vis)] : List Vis)] : List (List Vis)) : List (List Vis)) [.slice (some ⟨b415, 0, none⟩) ([(⟨0, 1, t405, 4⟩ : Vis)] : List Vis).length 1] false (closes_sl 4 false (fun h => h) (closes_nil)) fun b416 => ?_
             refine JL.nil ?_
             refine JY.ran (ba 13 127) [true, true, false, false, false, false] ?_
             refine JY.all [7] ⟨⟨_, rfl, ?_⟩, trivial⟩
             refine JL.call [] [] [] (corrupt_Alike.ok ([([(⟨0, 1, t1, 0⟩ : Vis)] : List Vis)] : List (List Vis)) (some ⟨b412, 0, none⟩) 1 ([([(⟨0, 1, t405, 4⟩ : Vis)] : List Vis)] : List (List Vis)) (some ⟨b416, 0, none⟩) 1 _ hc410) ⟨pre_view 3 (view_row (some ⟨b412, 0, none⟩) 1 48 fl_Vis.kd.sl ([([(⟨0, 1, t1, 0⟩ : Vis)] : List Vis)] : List (List Vis)) false true), ⟨pre_view 5 (view_row (some ⟨b416, 0, none⟩) 1 48 fl_Vis.kd.sl ([([(⟨0, 1, t405, 4⟩ : Vis)] : List Vis)] : List (List Vis)) false true), trivial⟩⟩ ?_
             rintro _ _ ⟨rfl, rfl⟩
             refine JL.nil ?_
             refine JY.ran (ba 13 255) [true, true, false, false, false, false] ?_
             refine JY.pur (hi := rfl) 8 (ba 13 511) (.tuple #[.bool t409.1, .int .i64 t409.2]) (some 184) want ?_
             refine JY.pur (hi := rfl) 9 (ba 13 1023) (.bool t409.1) (some 193) want ?_
             refine JY.pur (hi := rfl) 10 (ba 13 2047) (.int .i64 t409.2) (some 194) want ?_
             refine JY.pur (hi := rfl) 11 (ba 13 4095) (.bool t409.1) (some 33) want ?_
             refine JY.pur (hi := rfl) 12 (ba 13 8191) (.int .i64 t409.2) (some 34) want ?_
             refine JY.done ?_
             refine JQ.then_normal ?_
             exact JQ.meet (t409.1, t409.2) () H0 (fun _ h => Heap.to (Heap.pick [0, 1] (by decide) h))
           · refine JL.call [] [] [] (law35_of.ok 5 7 3 _ hc406) trivial ?_
             rintro _ _ ⟨rfl, rfl⟩
             refine JL.nil ?_
             refine JY.ran (ba 13 11) [true, true, false] ?_
             refine JY.pur (hi := rfl) 4 (ba 13 27) (.agg #[.int .i64 0, .int .i64 1, .int .i64 t405.Re, .int .i64 t405.Im, .int .i64 t405.Den, .int .i64 4]) (some 189) want ?_
             refine JY.all [2, 5] ⟨⟨_, rfl, ?_⟩, ⟨_, rfl, ?_⟩, trivial⟩
             · refine JQ.turn (fun _ h => freeze_row 2 (some ⟨b411, 0, none⟩) 1 47 fl_Vis.kd ([(⟨0, 1, t1, 0⟩ : Vis)] : List Vis) false h) ?_
               refine JL.buildSl 48 fl_Vis.kd.sl (([([(⟨0, 1, t1, 0⟩ : Vis)] : List Vis)] : List (List Vis)) : List (List Vis)) [.slice (some ⟨b411, 0, none⟩) ([(⟨0, 1, t1, 0⟩ : Vis)] : List Vis).length 1] false (closes_sl 2 false (fun h => h) (closes_nil)) fun b421 => ?_
               refine JL.nil ?_
               refine JY.ran (ba 13 31) [true, true, false, false] ?_
               refine JY.all [5] ⟨⟨_, rfl, ?_⟩, trivial⟩
               refine JL.buildSl 47 fl_Vis.kd (([(⟨0, 1, t405, 4⟩ : Vis)] : List Vis) : List Vis) [.int .i64 0, .int .i64 1, .int .i64 t405.Re, .int .i64 t405.Im, .int .i64 t405.Den, .int .i64 4] false (closes_fl rfl) fun b422 => ?_
               refine JL.nil ?_
               refine JY.ran (ba 13 63) [true, true, false, false, false] ?_
               refine JY.all [6] ⟨⟨_, rfl, ?_⟩, trivial⟩
               refine JQ.turn (fun _ h => freeze_row 4 (some ⟨b422, 0, none⟩) 1 47 fl_Vis.kd ([(⟨0, 1, t405, 4⟩ : Vis)] : List Vis) false h) ?_
               refine JL.buildSl 48 fl_Vis.kd.sl (([([(⟨0, 1, t405, 4⟩ : Vis)] : List Vis)] : List (List Vis)) : List (List Vis)) [.slice (some ⟨b422, 0, none⟩) ([(⟨0, 1, t405, 4⟩ : Vis)] : List Vis).length 1] false (closes_sl 4 false (fun h => h) (closes_nil)) fun b423 => ?_
               refine JL.nil ?_
               refine JY.ran (ba 13 127) [true, true, false, false, false, false] ?_
               refine JY.all [7] ⟨⟨_, rfl, ?_⟩, trivial⟩
               refine JL.call [] [] [] (corrupt_Alike.ok ([([(⟨0, 1, t1, 0⟩ : Vis)] : List Vis)] : List (List Vis)) (some ⟨b421, 0, none⟩) 1 ([([(⟨0, 1, t405, 4⟩ : Vis)] : List Vis)] : List (List Vis)) (some ⟨b423, 0, none⟩) 1 _ hc410) ⟨pre_view 3 (view_row (some ⟨b421, 0, none⟩) 1 48 fl_Vis.kd.sl ([([(⟨0, 1, t1, 0⟩ : Vis)] : List Vis)] : List (List Vis)) false true), ⟨pre_view 5 (view_row (some ⟨b423, 0, none⟩) 1 48 fl_Vis.kd.sl ([([(⟨0, 1, t405, 4⟩ : Vis)] : List Vis)] : List (List Vis)) false true), trivial⟩⟩ ?_
               rintro _ _ ⟨rfl, rfl⟩
               refine JL.nil ?_
               refine JY.ran (ba 13 255) [true, true, false, false, false, false] ?_
               refine JY.pur (hi := rfl) 8 (ba 13 511) (.tuple #[.bool t409.1, .int .i64 t409.2]) (some 184) want ?_
               refine JY.pur (hi := rfl) 9 (ba 13 1023) (.bool t409.1) (some 193) want ?_
               refine JY.pur (hi := rfl) 10 (ba 13 2047) (.int .i64 t409.2) (some 194) want ?_
               refine JY.pur (hi := rfl) 11 (ba 13 4095) (.bool t409.1) (some 33) want ?_
               refine JY.pur (hi := rfl) 12 (ba 13 8191) (.int .i64 t409.2) (some 34) want ?_
               refine JY.done ?_
               refine JQ.then_normal ?_
               exact JQ.meet (t409.1, t409.2) () H0 (fun _ h => Heap.to (Heap.pick [0, 1] (by decide) h))
             · refine JL.buildSl 47 fl_Vis.kd (([(⟨0, 1, t405, 4⟩ : Vis)] : List Vis) : List Vis) [.int .i64 0, .int .i64 1, .int .i64 t405.Re, .int .i64 t405.Im, .int .i64 t405.Den, .int .i64 4] false (closes_fl rfl) fun b426 => ?_
               refine JL.nil ?_
               refine JY.ran (ba 13 59) [true, true, false, false] ?_
               refine JY.all [2, 6] ⟨⟨_, rfl, ?_⟩, ⟨_, rfl, ?_⟩, trivial⟩
               · refine JQ.turn (fun _ h => freeze_row 2 (some ⟨b411, 0, none⟩) 1 47 fl_Vis.kd ([(⟨0, 1, t1, 0⟩ : Vis)] : List Vis) false h) ?_
                 refine JL.buildSl 48 fl_Vis.kd.sl (([([(⟨0, 1, t1, 0⟩ : Vis)] : List Vis)] : List (List Vis)) : List (List Vis)) [.slice (some ⟨b411, 0, none⟩) ([(⟨0, 1, t1, 0⟩ : Vis)] : List Vis).length 1] false (closes_sl 2 false (fun h => h) (closes_nil)) fun b427 => ?_
                 refine JL.nil ?_
                 refine JY.ran (ba 13 63) [true, true, false, false, false] ?_
                 refine JY.all [6] ⟨⟨_, rfl, ?_⟩, trivial⟩
                 refine JQ.turn (fun _ h => freeze_row 3 (some ⟨b426, 0, none⟩) 1 47 fl_Vis.kd ([(⟨0, 1, t405, 4⟩ : Vis)] : List Vis) false h) ?_
                 refine JL.buildSl 48 fl_Vis.kd.sl (([([(⟨0, 1, t405, 4⟩ : Vis)] : List Vis)] : List (List Vis)) : List (List Vis)) [.slice (some ⟨b426, 0, none⟩) ([(⟨0, 1, t405, 4⟩ : Vis)] : List Vis).length 1] false (closes_sl 3 false (fun h => h) (closes_nil)) fun b428 => ?_
                 refine JL.nil ?_
                 refine JY.ran (ba 13 127) [true, true, false, false, false, false] ?_
                 refine JY.all [7] ⟨⟨_, rfl, ?_⟩, trivial⟩
                 refine JL.call [] [] [] (corrupt_Alike.ok ([([(⟨0, 1, t1, 0⟩ : Vis)] : List Vis)] : List (List Vis)) (some ⟨b427, 0, none⟩) 1 ([([(⟨0, 1, t405, 4⟩ : Vis)] : List Vis)] : List (List Vis)) (some ⟨b428, 0, none⟩) 1 _ hc410) ⟨pre_view 4 (view_row (some ⟨b427, 0, none⟩) 1 48 fl_Vis.kd.sl ([([(⟨0, 1, t1, 0⟩ : Vis)] : List Vis)] : List (List Vis)) false true), ⟨pre_view 5 (view_row (some ⟨b428, 0, none⟩) 1 48 fl_Vis.kd.sl ([([(⟨0, 1, t405, 4⟩ : Vis)] : List Vis)] : List (List Vis)) false true), trivial⟩⟩ ?_
                 rintro _ _ ⟨rfl, rfl⟩
                 refine JL.nil ?_
                 refine JY.ran (ba 13 255) [true, true, false, false, false, false] ?_
                 refine JY.pur (hi := rfl) 8 (ba 13 511) (.tuple #[.bool t409.1, .int .i64 t409.2]) (some 184) want ?_
                 refine JY.pur (hi := rfl) 9 (ba 13 1023) (.bool t409.1) (some 193) want ?_
                 refine JY.pur (hi := rfl) 10 (ba 13 2047) (.int .i64 t409.2) (some 194) want ?_
                 refine JY.pur (hi := rfl) 11 (ba 13 4095) (.bool t409.1) (some 33) want ?_
                 refine JY.pur (hi := rfl) 12 (ba 13 8191) (.int .i64 t409.2) (some 34) want ?_
                 refine JY.done ?_
                 refine JQ.then_normal ?_
                 exact JQ.meet (t409.1, t409.2) () H0 (fun _ h => Heap.to (Heap.pick [0, 1] (by decide) h))
               · refine JQ.turn (fun _ h => freeze_row 3 (some ⟨b426, 0, none⟩) 1 47 fl_Vis.kd ([(⟨0, 1, t405, 4⟩ : Vis)] : List Vis) false h) ?_
                 refine JL.buildSl 48 fl_Vis.kd.sl (([([(⟨0, 1, t405, 4⟩ : Vis)] : List Vis)] : List (List Vis)) : List (List Vis)) [.slice (some ⟨b426, 0, none⟩) ([(⟨0, 1, t405, 4⟩ : Vis)] : List Vis).length 1] false (closes_sl 3 false (fun h => h) (closes_nil)) fun b431 => ?_
                 refine JL.nil ?_
                 refine JY.ran (ba 13 123) [true, true, false, false, false] ?_
                 refine JY.all [2] ⟨⟨_, rfl, ?_⟩, trivial⟩
                 refine JQ.turn (fun _ h => freeze_row 2 (some ⟨b411, 0, none⟩) 1 47 fl_Vis.kd ([(⟨0, 1, t1, 0⟩ : Vis)] : List Vis) false h) ?_
                 refine JL.buildSl 48 fl_Vis.kd.sl (([([(⟨0, 1, t1, 0⟩ : Vis)] : List Vis)] : List (List Vis)) : List (List Vis)) [.slice (some ⟨b411, 0, none⟩) ([(⟨0, 1, t1, 0⟩ : Vis)] : List Vis).length 1] false (closes_sl 2 false (fun h => h) (closes_nil)) fun b432 => ?_
                 refine JL.nil ?_
                 refine JY.ran (ba 13 127) [true, true, false, false, false, false] ?_
                 refine JY.all [7] ⟨⟨_, rfl, ?_⟩, trivial⟩
                 refine JL.call [] [] [] (corrupt_Alike.ok ([([(⟨0, 1, t1, 0⟩ : Vis)] : List Vis)] : List (List Vis)) (some ⟨b432, 0, none⟩) 1 ([([(⟨0, 1, t405, 4⟩ : Vis)] : List Vis)] : List (List Vis)) (some ⟨b431, 0, none⟩) 1 _ hc410) ⟨pre_view 5 (view_row (some ⟨b432, 0, none⟩) 1 48 fl_Vis.kd.sl ([([(⟨0, 1, t1, 0⟩ : Vis)] : List Vis)] : List (List Vis)) false true), ⟨pre_view 4 (view_row (some ⟨b431, 0, none⟩) 1 48 fl_Vis.kd.sl ([([(⟨0, 1, t405, 4⟩ : Vis)] : List Vis)] : List (List Vis)) false true), trivial⟩⟩ ?_
                 rintro _ _ ⟨rfl, rfl⟩
                 refine JL.nil ?_
                 refine JY.ran (ba 13 255) [true, true, false, false, false, false] ?_
                 refine JY.pur (hi := rfl) 8 (ba 13 511) (.tuple #[.bool t409.1, .int .i64 t409.2]) (some 184) want ?_
                 refine JY.pur (hi := rfl) 9 (ba 13 1023) (.bool t409.1) (some 193) want ?_
                 refine JY.pur (hi := rfl) 10 (ba 13 2047) (.int .i64 t409.2) (some 194) want ?_
                 refine JY.pur (hi := rfl) 11 (ba 13 4095) (.bool t409.1) (some 33) want ?_
                 refine JY.pur (hi := rfl) 12 (ba 13 8191) (.int .i64 t409.2) (some 34) want ?_
                 refine JY.done ?_
                 refine JQ.then_normal ?_
                 exact JQ.meet (t409.1, t409.2) () H0 (fun _ h => Heap.to (Heap.pick [0, 1] (by decide) h))
         · refine JL.call [] [] [] (law35_of.ok 5 7 3 _ hc406) trivial ?_
           rintro _ _ ⟨rfl, rfl⟩
           refine JL.nil ?_
           refine JY.ran (ba 13 9) [true, true] ?_
           refine JY.pur (hi := rfl) 4 (ba 13 25) (.agg #[.int .i64 0, .int .i64 1, .int .i64 t405.Re, .int .i64 t405.Im, .int .i64 t405.Den, .int .i64 4]) (some 189) want ?_
           refine JY.all [1, 5] ⟨⟨_, rfl, ?_⟩, ⟨_, rfl, ?_⟩, trivial⟩
           · refine JL.buildSl 47 fl_Vis.kd (([(⟨0, 1, t1, 0⟩ : Vis)] : List Vis) : List Vis) [.int .i64 0, .int .i64 1, .int .i64 t1.Re, .int .i64 t1.Im, .int .i64 t1.Den, .int .i64 0] false (closes_fl rfl) fun b437 => ?_
             refine JL.nil ?_
             refine JY.ran (ba 13 27) [true, true, false] ?_
             refine JY.all [2, 5] ⟨⟨_, rfl, ?_⟩, ⟨_, rfl, ?_⟩, trivial⟩
             · refine JQ.turn (fun _ h => freeze_row 2 (some ⟨b437, 0, none⟩) 1 47 fl_Vis.kd ([(⟨0, 1, t1, 0⟩ : Vis)] : List Vis) false h) ?_
               refine JL.buildSl 48 fl_Vis.kd.sl (([([(⟨0, 1, t1, 0⟩ : Vis)] : List Vis)] : List (List Vis)) : List (List Vis)) [.slice (some ⟨b437, 0, none⟩) ([(⟨0, 1, t1, 0⟩ : Vis)] : List Vis).length 1] false (closes_sl 2 false (fun h => h) (closes_nil)) fun b438 => ?_
               refine JL.nil ?_
               refine JY.ran (ba 13 31) [true, true, false, false] ?_
               refine JY.all [5] ⟨⟨_, rfl, ?_⟩, trivial⟩
               refine JL.buildSl 47 fl_Vis.kd (([(⟨0, 1, t405, 4⟩ : Vis)] : List Vis) : List Vis) [.int .i64 0, .int .i64 1, .int .i64 t405.Re, .int .i64 t405.Im, .int .i64 t405.Den, .int .i64 4] false (closes_fl rfl) fun b439 => ?_
               refine JL.nil ?_
               refine JY.ran (ba 13 63) [true, true, false, false, false] ?_
               refine JY.all [6] ⟨⟨_, rfl, ?_⟩, trivial⟩
               refine JQ.turn (fun _ h => freeze_row 4 (some ⟨b439, 0, none⟩) 1 47 fl_Vis.kd ([(⟨0, 1, t405, 4⟩ : Vis)] : List Vis) false h) ?_
               refine JL.buildSl 48 fl_Vis.kd.sl (([([(⟨0, 1, t405, 4⟩ : Vis)] : List Vis)] : List (List Vis)) : List (List Vis)) [.slice (some ⟨b439, 0, none⟩) ([(⟨0, 1, t405, 4⟩ : Vis)] : List Vis).length 1] false (closes_sl 4 false (fun h => h) (closes_nil)) fun b440 => ?_
               refine JL.nil ?_
               refine JY.ran (ba 13 127) [true, true, false, false, false, false] ?_
               refine JY.all [7] ⟨⟨_, rfl, ?_⟩, trivial⟩
               refine JL.call [] [] [] (corrupt_Alike.ok ([([(⟨0, 1, t1, 0⟩ : Vis)] : List Vis)] : List (List Vis)) (some ⟨b438, 0, none⟩) 1 ([([(⟨0, 1, t405, 4⟩ : Vis)] : List Vis)] : List (List Vis)) (some ⟨b440, 0, none⟩) 1 _ hc410) ⟨pre_view 3 (view_row (some ⟨b438, 0, none⟩) 1 48 fl_Vis.kd.sl ([([(⟨0, 1, t1, 0⟩ : Vis)] : List Vis)] : List (List Vis)) false true), ⟨pre_view 5 (view_row (some ⟨b440, 0, none⟩) 1 48 fl_Vis.kd.sl ([([(⟨0, 1, t405, 4⟩ : Vis)] : List Vis)] : List (List Vis)) false true), trivial⟩⟩ ?_
               rintro _ _ ⟨rfl, rfl⟩
               refine JL.nil ?_
               refine JY.ran (ba 13 255) [true, true, false, false, false, false] ?_
               refine JY.pur (hi := rfl) 8 (ba 13 511) (.tuple #[.bool t409.1, .int .i64 t409.2]) (some 184) want ?_
               refine JY.pur (hi := rfl) 9 (ba 13 1023) (.bool t409.1) (some 193) want ?_
               refine JY.pur (hi := rfl) 10 (ba 13 2047) (.int .i64 t409.2) (some 194) want ?_
               refine JY.pur (hi := rfl) 11 (ba 13 4095) (.bool t409.1) (some 33) want ?_
               refine JY.pur (hi := rfl) 12 (ba 13 8191) (.int .i64 t409.2) (some 34) want ?_
               refine JY.done ?_
               refine JQ.then_normal ?_
               exact JQ.meet (t409.1, t409.2) () H0 (fun _ h => Heap.to (Heap.pick [0, 1] (by decide) h))
             · refine JL.buildSl 47 fl_Vis.kd (([(⟨0, 1, t405, 4⟩ : Vis)] : List Vis) : List Vis) [.int .i64 0, .int .i64 1, .int .i64 t405.Re, .int .i64 t405.Im, .int .i64 t405.Den, .int .i64 4] false (closes_fl rfl) fun b443 => ?_
               refine JL.nil ?_
               refine JY.ran (ba 13 59) [true, true, false, false] ?_
               refine JY.all [2, 6] ⟨⟨_, rfl, ?_⟩, ⟨_, rfl, ?_⟩, trivial⟩
               · refine JQ.turn (fun _ h => freeze_row 2 (some ⟨b437, 0, none⟩) 1 47 fl_Vis.kd ([(⟨0, 1, t1, 0⟩ : Vis)] : List Vis) false h) ?_
                 refine JL.buildSl 48 fl_Vis.kd.sl (([([(⟨0, 1, t1, 0⟩ : Vis)] : List Vis)] : List (List Vis)) : List (List Vis)) [.slice (some ⟨b437, 0, none⟩) ([(⟨0, 1, t1, 0⟩ : Vis)] : List Vis).length 1] false (closes_sl 2 false (fun h => h) (closes_nil)) fun b444 => ?_
                 refine JL.nil ?_
                 refine JY.ran (ba 13 63) [true, true, false, false, false] ?_
                 refine JY.all [6] ⟨⟨_, rfl, ?_⟩, trivial⟩
                 refine JQ.turn (fun _ h => freeze_row 3 (some ⟨b443, 0, none⟩) 1 47 fl_Vis.kd ([(⟨0, 1, t405, 4⟩ : Vis)] : List Vis) false h) ?_
                 refine JL.buildSl 48 fl_Vis.kd.sl (([([(⟨0, 1, t405, 4⟩ : Vis)] : List Vis)] : List (List Vis)) : List (List Vis)) [.slice (some ⟨b443, 0, none⟩) ([(⟨0, 1, t405, 4⟩ : Vis)] : List Vis).length 1] false (closes_sl 3 false (fun h => h) (closes_nil)) fun b445 => ?_
                 refine JL.nil ?_
                 refine JY.ran (ba 13 127) [true, true, false, false, false, false] ?_
                 refine JY.all [7] ⟨⟨_, rfl, ?_⟩, trivial⟩
                 refine JL.call [] [] [] (corrupt_Alike.ok ([([(⟨0, 1, t1, 0⟩ : Vis)] : List Vis)] : List (List Vis)) (some ⟨b444, 0, none⟩) 1 ([([(⟨0, 1, t405, 4⟩ : Vis)] : List Vis)] : List (List Vis)) (some ⟨b445, 0, none⟩) 1 _ hc410) ⟨pre_view 4 (view_row (some ⟨b444, 0, none⟩) 1 48 fl_Vis.kd.sl ([([(⟨0, 1, t1, 0⟩ : Vis)] : List Vis)] : List (List Vis)) false true), ⟨pre_view 5 (view_row (some ⟨b445, 0, none⟩) 1 48 fl_Vis.kd.sl ([([(⟨0, 1, t405, 4⟩ : Vis)] : List Vis)] : List (List Vis)) false true), trivial⟩⟩ ?_
                 rintro _ _ ⟨rfl, rfl⟩
                 refine JL.nil ?_
                 refine JY.ran (ba 13 255) [true, true, false, false, false, false] ?_
                 refine JY.pur (hi := rfl) 8 (ba 13 511) (.tuple #[.bool t409.1, .int .i64 t409.2]) (some 184) want ?_
                 refine JY.pur (hi := rfl) 9 (ba 13 1023) (.bool t409.1) (some 193) want ?_
                 refine JY.pur (hi := rfl) 10 (ba 13 2047) (.int .i64 t409.2) (some 194) want ?_
                 refine JY.pur (hi := rfl) 11 (ba 13 4095) (.bool t409.1) (some 33) want ?_
                 refine JY.pur (hi := rfl) 12 (ba 13 8191) (.int .i64 t409.2) (some 34) want ?_
                 refine JY.done ?_
                 refine JQ.then_normal ?_
                 exact JQ.meet (t409.1, t409.2) () H0 (fun _ h => Heap.to (Heap.pick [0, 1] (by decide) h))
               · refine JQ.turn (fun _ h => freeze_row 3 (some ⟨b443, 0, none⟩) 1 47 fl_Vis.kd ([(⟨0, 1, t405, 4⟩ : Vis)] : List Vis) false h) ?_
                 refine JL.buildSl 48 fl_Vis.kd.sl (([([(⟨0, 1, t405, 4⟩ : Vis)] : List Vis)] : List (List Vis)) : List (List Vis)) [.slice (some ⟨b443, 0, none⟩) ([(⟨0, 1, t405, 4⟩ : Vis)] : List Vis).length 1] false (closes_sl 3 false (fun h => h) (closes_nil)) fun b448 => ?_
                 refine JL.nil ?_
                 refine JY.ran (ba 13 123) [true, true, false, false, false] ?_
                 refine JY.all [2] ⟨⟨_, rfl, ?_⟩, trivial⟩
                 refine JQ.turn (fun _ h => freeze_row 2 (some ⟨b437, 0, none⟩) 1 47 fl_Vis.kd ([(⟨0, 1, t1, 0⟩ : Vis)] : List Vis) false h) ?_
                 refine JL.buildSl 48 fl_Vis.kd.sl (([([(⟨0, 1, t1, 0⟩ : Vis)] : List Vis)] : List (List Vis)) : List (List Vis)) [.slice (some ⟨b437, 0, none⟩) ([(⟨0, 1, t1, 0⟩ : Vis)] : List Vis).length 1] false (closes_sl 2 false (fun h => h) (closes_nil)) fun b449 => ?_
                 refine JL.nil ?_
                 refine JY.ran (ba 13 127) [true, true, false, false, false, false] ?_
                 refine JY.all [7] ⟨⟨_, rfl, ?_⟩, trivial⟩
                 refine JL.call [] [] [] (corrupt_Alike.ok ([([(⟨0, 1, t1, 0⟩ : Vis)] : List Vis)] : List (List Vis)) (some ⟨b449, 0, none⟩) 1 ([([(⟨0, 1, t405, 4⟩ : Vis)] : List Vis)] : List (List Vis)) (some ⟨b448, 0, none⟩) 1 _ hc410) ⟨pre_view 5 (view_row (some ⟨b449, 0, none⟩) 1 48 fl_Vis.kd.sl ([([(⟨0, 1, t1, 0⟩ : Vis)] : List Vis)] : List (List Vis)) false true), ⟨pre_view 4 (view_row (some ⟨b448, 0, none⟩) 1 48 fl_Vis.kd.sl ([([(⟨0, 1, t405, 4⟩ : Vis)] : List Vis)] : List (List Vis)) false true), trivial⟩⟩ ?_
                 rintro _ _ ⟨rfl, rfl⟩
                 refine JL.nil ?_
                 refine JY.ran (ba 13 255) [true, true, false, false, false, false] ?_
                 refine JY.pur (hi := rfl) 8 (ba 13 511) (.tuple #[.bool t409.1, .int .i64 t409.2]) (some 184) want ?_
                 refine JY.pur (hi := rfl) 9 (ba 13 1023) (.bool t409.1) (some 193) want ?_
                 refine JY.pur (hi := rfl) 10 (ba 13 2047) (.int .i64 t409.2) (some 194) want ?_
                 refine JY.pur (hi := rfl) 11 (ba 13 4095) (.bool t409.1) (some 33) want ?_
                 refine JY.pur (hi := rfl) 12 (ba 13 8191) (.int .i64 t409.2) (some 34) want ?_
                 refine JY.done ?_
                 refine JQ.then_normal ?_
                 exact JQ.meet (t409.1, t409.2) () H0 (fun _ h => Heap.to (Heap.pick [0, 1] (by decide) h))
           · refine JL.buildSl 47 fl_Vis.kd (([(⟨0, 1, t405, 4⟩ : Vis)] : List Vis) : List Vis) [.int .i64 0, .int .i64 1, .int .i64 t405.Re, .int .i64 t405.Im, .int .i64 t405.Den, .int .i64 4] false (closes_fl rfl) fun b452 => ?_
             refine JL.nil ?_
             refine JY.ran (ba 13 57) [true, true, false] ?_
             refine JY.all [1, 6] ⟨⟨_, rfl, ?_⟩, ⟨_, rfl, ?_⟩, trivial⟩
             · refine JL.buildSl 47 fl_Vis.kd (([(⟨0, 1, t1, 0⟩ : Vis)] : List Vis) : List Vis) [.int .i64 0, .int .i64 1, .int .i64 t1.Re, .int .i64 t1.Im, .int .i64 t1.Den, .int .i64 0] false (closes_fl rfl) fun b453 => ?_
               refine JL.nil ?_
               refine JY.ran (ba 13 59) [true, true, false, false] ?_
               refine JY.all [2, 6] ⟨⟨_, rfl, ?_⟩, ⟨_, rfl, ?_⟩, trivial⟩
               · refine JQ.turn (fun _ h => freeze_row 3 (some ⟨b453, 0, none⟩) 1 47 fl_Vis.kd ([(⟨0, 1, t1, 0⟩ : Vis)] : List Vis) false h) ?_
                 refine JL.buildSl 48 fl_Vis.kd.sl (([([(⟨0, 1, t1, 0⟩ : Vis)] : List Vis)] : List (List Vis)) : List (List Vis)) [.slice (some ⟨b453, 0, none⟩) ([(⟨0, 1, t1, 0⟩ : Vis)] : List Vis).length 1] false (closes_sl 3 false (fun h => h) (closes_nil)) fun b454 => ?_
                 refine JL.nil ?_
                 refine JY.ran (ba 13 63) [true, true, false, false, false] ?_
                 refine JY.all [6] ⟨⟨_, rfl, ?_⟩, trivial⟩
                 refine JQ.turn (fun _ h => freeze_row 2 (some ⟨b452, 0, none⟩) 1 47 fl_Vis.kd ([(⟨0, 1, t405, 4⟩ : Vis)] : List Vis) false h) ?_
                 refine JL.buildSl 48 fl_Vis.kd.sl (([([(⟨0, 1, t405, 4⟩ : Vis)] : List Vis)] : List (List Vis)) : List (List Vis)) [.slice (some ⟨b452, 0, none⟩) ([(⟨0, 1, t405, 4⟩ : Vis)] : List Vis).length 1] false (closes_sl 2 false (fun h => h) (closes_nil)) fun b455 => ?_
                 refine JL.nil ?_
                 refine JY.ran (ba 13 127) [true, true, false, false, false, false] ?_
                 refine JY.all [7] ⟨⟨_, rfl, ?_⟩, trivial⟩
                 refine JL.call [] [] [] (corrupt_Alike.ok ([([(⟨0, 1, t1, 0⟩ : Vis)] : List Vis)] : List (List Vis)) (some ⟨b454, 0, none⟩) 1 ([([(⟨0, 1, t405, 4⟩ : Vis)] : List Vis)] : List (List Vis)) (some ⟨b455, 0, none⟩) 1 _ hc410) ⟨pre_view 4 (view_row (some ⟨b454, 0, none⟩) 1 48 fl_Vis.kd.sl ([([(⟨0, 1, t1, 0⟩ : Vis)] : List Vis)] : List (List Vis)) false true), ⟨pre_view 5 (view_row (some ⟨b455, 0, none⟩) 1 48 fl_Vis.kd.sl ([([(⟨0, 1, t405, 4⟩ : Vis)] : List Vis)] : List (List Vis)) false true), trivial⟩⟩ ?_
                 rintro _ _ ⟨rfl, rfl⟩
                 refine JL.nil ?_
                 refine JY.ran (ba 13 255) [true, true, false, false, false, false] ?_
                 refine JY.pur (hi := rfl) 8 (ba 13 511) (.tuple #[.bool t409.1, .int .i64 t409.2]) (some 184) want ?_
                 refine JY.pur (hi := rfl) 9 (ba 13 1023) (.bool t409.1) (some 193) want ?_
                 refine JY.pur (hi := rfl) 10 (ba 13 2047) (.int .i64 t409.2) (some 194) want ?_
                 refine JY.pur (hi := rfl) 11 (ba 13 4095) (.bool t409.1) (some 33) want ?_
                 refine JY.pur (hi := rfl) 12 (ba 13 8191) (.int .i64 t409.2) (some 34) want ?_
                 refine JY.done ?_
                 refine JQ.then_normal ?_
                 exact JQ.meet (t409.1, t409.2) () H0 (fun _ h => Heap.to (Heap.pick [0, 1] (by decide) h))
               · refine JQ.turn (fun _ h => freeze_row 2 (some ⟨b452, 0, none⟩) 1 47 fl_Vis.kd ([(⟨0, 1, t405, 4⟩ : Vis)] : List Vis) false h) ?_
                 refine JL.buildSl 48 fl_Vis.kd.sl (([([(⟨0, 1, t405, 4⟩ : Vis)] : List Vis)] : List (List Vis)) : List (List Vis)) [.slice (some ⟨b452, 0, none⟩) ([(⟨0, 1, t405, 4⟩ : Vis)] : List Vis).length 1] false (closes_sl 2 false (fun h => h) (closes_nil)) fun b458 => ?_
                 refine JL.nil ?_
                 refine JY.ran (ba 13 123) [true, true, false, false, false] ?_
                 refine JY.all [2] ⟨⟨_, rfl, ?_⟩, trivial⟩
                 refine JQ.turn (fun _ h => freeze_row 3 (some ⟨b453, 0, none⟩) 1 47 fl_Vis.kd ([(⟨0, 1, t1, 0⟩ : Vis)] : List Vis) false h) ?_
                 refine JL.buildSl 48 fl_Vis.kd.sl (([([(⟨0, 1, t1, 0⟩ : Vis)] : List Vis)] : List (List Vis)) : List (List Vis)) [.slice (some ⟨b453, 0, none⟩) ([(⟨0, 1, t1, 0⟩ : Vis)] : List Vis).length 1] false (closes_sl 3 false (fun h => h) (closes_nil)) fun b459 => ?_
                 refine JL.nil ?_
                 refine JY.ran (ba 13 127) [true, true, false, false, false, false] ?_
                 refine JY.all [7] ⟨⟨_, rfl, ?_⟩, trivial⟩
                 refine JL.call [] [] [] (corrupt_Alike.ok ([([(⟨0, 1, t1, 0⟩ : Vis)] : List Vis)] : List (List Vis)) (some ⟨b459, 0, none⟩) 1 ([([(⟨0, 1, t405, 4⟩ : Vis)] : List Vis)] : List (List Vis)) (some ⟨b458, 0, none⟩) 1 _ hc410) ⟨pre_view 5 (view_row (some ⟨b459, 0, none⟩) 1 48 fl_Vis.kd.sl ([([(⟨0, 1, t1, 0⟩ : Vis)] : List Vis)] : List (List Vis)) false true), ⟨pre_view 4 (view_row (some ⟨b458, 0, none⟩) 1 48 fl_Vis.kd.sl ([([(⟨0, 1, t405, 4⟩ : Vis)] : List Vis)] : List (List Vis)) false true), trivial⟩⟩ ?_
                 rintro _ _ ⟨rfl, rfl⟩
                 refine JL.nil ?_
                 refine JY.ran (ba 13 255) [true, true, false, false, false, false] ?_
                 refine JY.pur (hi := rfl) 8 (ba 13 511) (.tuple #[.bool t409.1, .int .i64 t409.2]) (some 184) want ?_
                 refine JY.pur (hi := rfl) 9 (ba 13 1023) (.bool t409.1) (some 193) want ?_
                 refine JY.pur (hi := rfl) 10 (ba 13 2047) (.int .i64 t409.2) (some 194) want ?_
                 refine JY.pur (hi := rfl) 11 (ba 13 4095) (.bool t409.1) (some 33) want ?_
                 refine JY.pur (hi := rfl) 12 (ba 13 8191) (.int .i64 t409.2) (some 34) want ?_
                 refine JY.done ?_
                 refine JQ.then_normal ?_
                 exact JQ.meet (t409.1, t409.2) () H0 (fun _ h => Heap.to (Heap.pick [0, 1] (by decide) h))
             · refine JQ.turn (fun _ h => freeze_row 2 (some ⟨b452, 0, none⟩) 1 47 fl_Vis.kd ([(⟨0, 1, t405, 4⟩ : Vis)] : List Vis) false h) ?_
               refine JL.buildSl 48 fl_Vis.kd.sl (([([(⟨0, 1, t405, 4⟩ : Vis)] : List Vis)] : List (List Vis)) : List (List Vis)) [.slice (some ⟨b452, 0, none⟩) ([(⟨0, 1, t405, 4⟩ : Vis)] : List Vis).length 1] false (closes_sl 2 false (fun h => h) (closes_nil)) fun b462 => ?_
               refine JL.nil ?_
               refine JY.ran (ba 13 121) [true, true, false, false] ?_
               refine JY.all [1] ⟨⟨_, rfl, ?_⟩, trivial⟩
               refine JL.buildSl 47 fl_Vis.kd (([(⟨0, 1, t1, 0⟩ : Vis)] : List Vis) : List Vis) [.int .i64 0, .int .i64 1, .int .i64 t1.Re, .int .i64 t1.Im, .int .i64 t1.Den, .int .i64 0] false (closes_fl rfl) fun b463 => ?_
               refine JL.nil ?_
               refine JY.ran (ba 13 123) [true, true, false, false, false] ?_
               refine JY.all [2] ⟨⟨_, rfl, ?_⟩, trivial⟩
               refine JQ.turn (fun _ h => freeze_row 4 (some ⟨b463, 0, none⟩) 1 47 fl_Vis.kd ([(⟨0, 1, t1, 0⟩ : Vis)] : List Vis) false h) ?_
               refine JL.buildSl 48 fl_Vis.kd.sl (([([(⟨0, 1, t1, 0⟩ : Vis)] : List Vis)] : List (List Vis)) : List (List Vis)) [.slice (some ⟨b463, 0, none⟩) ([(⟨0, 1, t1, 0⟩ : Vis)] : List Vis).length 1] false (closes_sl 4 false (fun h => h) (closes_nil)) fun b464 => ?_
               refine JL.nil ?_
               refine JY.ran (ba 13 127) [true, true, false, false, false, false] ?_
               refine JY.all [7] ⟨⟨_, rfl, ?_⟩, trivial⟩
               refine JL.call [] [] [] (corrupt_Alike.ok ([([(⟨0, 1, t1, 0⟩ : Vis)] : List Vis)] : List (List Vis)) (some ⟨b464, 0, none⟩) 1 ([([(⟨0, 1, t405, 4⟩ : Vis)] : List Vis)] : List (List Vis)) (some ⟨b462, 0, none⟩) 1 _ hc410) ⟨pre_view 5 (view_row (some ⟨b464, 0, none⟩) 1 48 fl_Vis.kd.sl ([([(⟨0, 1, t1, 0⟩ : Vis)] : List Vis)] : List (List Vis)) false true), ⟨pre_view 3 (view_row (some ⟨b462, 0, none⟩) 1 48 fl_Vis.kd.sl ([([(⟨0, 1, t405, 4⟩ : Vis)] : List Vis)] : List (List Vis)) false true), trivial⟩⟩ ?_
               rintro _ _ ⟨rfl, rfl⟩
               refine JL.nil ?_
               refine JY.ran (ba 13 255) [true, true, false, false, false, false] ?_
               refine JY.pur (hi := rfl) 8 (ba 13 511) (.tuple #[.bool t409.1, .int .i64 t409.2]) (some 184) want ?_
               refine JY.pur (hi := rfl) 9 (ba 13 1023) (.bool t409.1) (some 193) want ?_
               refine JY.pur (hi := rfl) 10 (ba 13 2047) (.int .i64 t409.2) (some 194) want ?_
               refine JY.pur (hi := rfl) 11 (ba 13 4095) (.bool t409.1) (some 33) want ?_
               refine JY.pur (hi := rfl) 12 (ba 13 8191) (.int .i64 t409.2) (some 34) want ?_
               refine JY.done ?_
               refine JQ.then_normal ?_
               exact JQ.meet (t409.1, t409.2) () H0 (fun _ h => Heap.to (Heap.pick [0, 1] (by decide) h))
       · clear H0
         rintro ⟨yes362, o363⟩ ⟨⟩ H0
         replace H0 : law35_CorruptNames.k8 t1 t112 t117 t126 t135 t144 t150 t154 t159 t163 t168 k218 late280 l284 t290 t296 yes362 o363 = some r := H0
         unfold law35_CorruptNames.k8 at H0
         refine JQ.sub [(9, .int .i64 t112.2), (11, .int .i64 t117.2), (13, .int .i64 t126.2), (16, .int .i64 t135.2), (17, .int .i64 t144), (18, .pointer (some ⟨b146, 0, none⟩)), (19, .int .i64 t150), (20, .int .i64 t154), (21, .int .i64 t159), (22, .int .i64 t163), (24, .int .i64 t168.2), (26, .int .i64 k218), (27, .slice Aa281 late280.length c282), (28, .int .i64 l284), (29, .bool t290.1), (30, .int .i64 t290.2), (31, .bool t296.1), (32, .int .i64 t296.2), (33, .bool yes362), (34, .int .i64 o363)] ?_
         refine JQ.turn (Δ' := [At.box b146 47 [.int .i64 0, .int .i64 1, .int .i64 t1.Re, .int .i64 t1.Im, .int .i64 t1.Den, .int .i64 0], At.row Aa281 c282 48 fl_Vis.kd.sl late280 false]) (fun _ h => h.to) ?_
         refine J.join (T := Bool) (G := Unit) (fun t => law35_CorruptNames.k9 t1 late280 l284 t290 t296 yes362 o363 t = some r) (fun t g => [(18, .pointer (some ⟨b146, 0, none⟩)), (27, .slice Aa281 late280.length c282), (28, .int .i64 l284), (29, .bool t290.1), (30, .int .i64 t290.2), (31, .bool t296.1), (32, .int .i64 t296.2), (33, .bool yes362), (34, .int .i64 o363), (35, .bool t)]) (fun t g => [At.box b146 47 [.int .i64 0, .int .i64 1, .int .i64 t1.Re, .int .i64 t1.Im, .int .i64 t1.Den, .int .i64 0], At.row Aa281 c282 48 fl_Vis.kd.sl late280 false]) ?_ ?_
         · refine J.region ?_
           refine JL.mv (.bool true) ?_
           refine JL.on 0 195 (rfl : (true) = true) ?_
           obtain ⟨t390, hc391, H0⟩ := bind_some H0
           refine JL.call [] [] [] (law35_alive.ok _ hc391) trivial ?_
           rintro _ _ ⟨rfl, rfl⟩
           refine JL.val (.bool t390) (some 197) (gives_pickT rfl) ?_
           refine JL.mv (.bool t390) ?_
           rcases ite_cases H0 with ⟨h392, H0⟩ | ⟨h392, H0⟩
           · refine JL.on 3 198 h392 ?_
             refine JL.mv (.int .i64 t112.2) ?_
             refine JL.on 3 198 h392 ?_
             refine JL.pur (.bool (decide (t112.2 = 2))) (some 200) ?_
             refine JL.val (.bool (decide (t112.2 = 2))) (some 201) (gives_pickT h392) ?_
             refine JL.mv (.bool (decide (t112.2 = 2))) ?_
             rcases ite_cases H0 with ⟨h393, H0⟩ | ⟨h393, H0⟩
             · refine JL.on 7 202 h393 ?_
               refine JL.mv (.int .i64 t117.2) ?_
               refine JL.on 7 202 h393 ?_
               refine JL.pur (.bool (decide (t117.2 = 2))) (some 204) ?_
               refine JL.val (.bool (decide (t117.2 = 2))) (some 205) (gives_pickT h393) ?_
               refine JL.mv (.bool (decide (t117.2 = 2))) ?_
               rcases ite_cases H0 with ⟨h394, H0⟩ | ⟨h394, H0⟩
               · refine JL.on 11 206 h394 ?_
                 refine JL.mv (.int .i64 t126.2) ?_
                 refine JL.on 11 206 h394 ?_
                 refine JL.pur (.bool (decide (t126.2 = 4))) (some 208) ?_
                 refine JL.val (.bool (decide (t126.2 = 4))) (some 209) (gives_pickT h394) ?_
                 refine JL.mv (.bool (decide (t126.2 = 4))) ?_
                 rcases ite_cases H0 with ⟨h395, H0⟩ | ⟨h395, H0⟩
                 · refine JL.on 15 210 h395 ?_
                   refine JL.mv (.int .i64 t135.2) ?_
                   refine JL.on 15 210 h395 ?_
                   refine JL.pur (.bool (decide (t135.2 = 16))) (some 212) ?_
                   refine JL.val (.bool (decide (t135.2 = 16))) (some 213) (gives_pickT h395) ?_
                   refine JL.mv (.bool (decide (t135.2 = 16))) ?_
                   rcases ite_cases H0 with ⟨h396, H0⟩ | ⟨h396, H0⟩
                   · refine JL.on 19 214 h396 ?_
                     refine JL.mv (.int .i64 t144) ?_
                     refine JL.on 19 214 h396 ?_
                     refine JL.pur (.bool (decide (t144 = 4))) (some 216) ?_
                     refine JL.val (.bool (decide (t144 = 4))) (some 217) (gives_pickT h396) ?_
                     refine JL.mv (.bool (decide (t144 = 4))) ?_
                     rcases ite_cases H0 with ⟨h397, H0⟩ | ⟨h397, H0⟩
                     · refine JL.on 23 218 h397 ?_
                       refine JL.mv (.int .i64 t150) ?_
                       refine JL.on 23 218 h397 ?_
                       refine JL.pur (.bool (decide (t150 = 8))) (some 220) ?_
                       refine JL.val (.bool (decide (t150 = 8))) (some 221) (gives_pickT h397) ?_
                       refine JL.mv (.bool (decide (t150 = 8))) ?_
                       rcases ite_cases H0 with ⟨h398, H0⟩ | ⟨h398, H0⟩
                       · refine JL.on 27 222 h398 ?_
                         refine JL.mv (.int .i64 t154) ?_
                         refine JL.on 27 222 h398 ?_
                         refine JL.pur (.bool (decide (t154 = 14))) (some 224) ?_
                         refine JL.val (.bool (decide (t154 = 14))) (some 225) (gives_pickT h398) ?_
                         refine JL.mv (.bool (decide (t154 = 14))) ?_
                         rcases ite_cases H0 with ⟨h399, H0⟩ | ⟨h399, H0⟩
                         · refine JL.on 31 226 h399 ?_
                           refine JL.mv (.int .i64 t159) ?_
                           refine JL.on 31 226 h399 ?_
                           refine JL.pur (.bool (decide (t159 = 8))) (some 228) ?_
                           refine JL.val (.bool (decide (t159 = 8))) (some 229) (gives_pickT h399) ?_
                           refine JL.mv (.bool (decide (t159 = 8))) ?_
                           rcases ite_cases H0 with ⟨h400, H0⟩ | ⟨h400, H0⟩
                           · refine JL.on 35 230 h400 ?_
                             refine JL.mv (.int .i64 t163) ?_
                             refine JL.on 35 230 h400 ?_
                             refine JL.pur (.bool (decide (t163 = 8))) (some 232) ?_
                             refine JL.val (.bool (decide (t163 = 8))) (some 233) (gives_pickT h400) ?_
                             refine JL.mv (.bool (decide (t163 = 8))) ?_
                             rcases ite_cases H0 with ⟨h401, H0⟩ | ⟨h401, H0⟩
                             · refine JL.on 39 234 h401 ?_
                               refine JL.mv (.int .i64 t168.2) ?_
                               refine JL.on 39 234 h401 ?_
                               refine JL.pur (.bool (decide (t168.2 = 16))) (some 236) ?_
                               refine JL.val (.bool (decide (t168.2 = 16))) (some 237) (gives_pickT h401) ?_
                               refine JL.mv (.bool (decide (t168.2 = 16))) ?_
                               rcases ite_cases H0 with ⟨h402, H0⟩ | ⟨h402, H0⟩
                               · refine JL.on 43 238 h402 ?_
                                 refine JL.mv (.int .i64 k218) ?_
                                 refine JL.on 43 238 h402 ?_
                                 refine JL.pur (.bool (decide (k218 = 16))) (some 240) ?_
                                 refine JL.val (.bool (decide (k218 = 16))) (some 241) (gives_pickT h402) ?_
                                 refine JL.as (.bool (decide (k218 = 16))) ?_
                                 refine JL.en ?_
                                 exact JQ.meet (decide (k218 = 16)) () H0 (fun _ h => Heap.to h)
                               · refine JL.off 43 238 true (some 239) h402 ?_
                                 refine JL.off 43 238 true (some 240) h402 ?_
                                 refine JL.val (.bool false) (some 241) (gives_pickF h402) ?_
                                 refine JL.as (.bool false) ?_
                                 refine JL.en ?_
                                 exact JQ.meet false () H0 (fun _ h => Heap.to h)
                             · refine JL.off 39 234 true (some 235) h401 ?_
                               refine JL.off 39 234 true (some 236) h401 ?_
                               refine JL.val (.bool false) (some 237) (gives_pickF h401) ?_
                               refine JL.mv (.bool false) ?_
                               refine JL.off 43 238 true (some 239) rfl ?_
                               refine JL.off 43 238 true (some 240) rfl ?_
                               refine JL.val (.bool false) (some 241) (gives_pickF rfl) ?_
                               refine JL.as (.bool false) ?_
                               refine JL.en ?_
                               exact JQ.meet false () H0 (fun _ h => Heap.to h)
                           · refine JL.off 35 230 true (some 231) h400 ?_
                             refine JL.off 35 230 true (some 232) h400 ?_
                             refine JL.val (.bool false) (some 233) (gives_pickF h400) ?_
                             refine JL.mv (.bool false) ?_
                             refine JL.off 39 234 true (some 235) rfl ?_
                             refine JL.off 39 234 true (some 236) rfl ?_
                             refine JL.val (.bool false) (some 237) (gives_pickF rfl) ?_
                             refine JL.mv (.bool false) ?_
                             refine JL.off 43 238 true (some 239) rfl ?_
                             refine JL.off 43 238 true (some 240) rfl ?_
                             refine JL.val (.bool false) (some 241) (gives_pickF rfl) ?_
                             refine JL.as (.bool false) ?_
                             refine JL.en ?_
                             exact JQ.meet false () H0 (fun _ h => Heap.to h)
                         · refine JL.off 31 226 true (some 227) h399 ?_
                           refine JL.off 31 226 true (some 228) h399 ?_
                           refine JL.val (.bool false) (some 229) (gives_pickF h399) ?_
                           refine JL.mv (.bool false) ?_
                           refine JL.off 35 230 true (some 231) rfl ?_
                           refine JL.off 35 230 true (some 232) rfl ?_
                           refine JL.val (.bool false) (some 233) (gives_pickF rfl) ?_
                           refine JL.mv (.bool false) ?_
                           refine JL.off 39 234 true (some 235) rfl ?_
                           refine JL.off 39 234 true (some 236) rfl ?_
                           refine JL.val (.bool false) (some 237) (gives_pickF rfl) ?_
                           refine JL.mv (.bool false) ?_
                           refine JL.off 43 238 true (some 239) rfl ?_
                           refine JL.off 43 238 true (some 240) rfl ?_
                           refine JL.val (.bool false) (some 241) (gives_pickF rfl) ?_
                           refine JL.as (.bool false) ?_
                           refine JL.en ?_
                           exact JQ.meet false () H0 (fun _ h => Heap.to h)
                       · refine JL.off 27 222 true (some 223) h398 ?_
                         refine JL.off 27 222 true (some 224) h398 ?_
                         refine JL.val (.bool false) (some 225) (gives_pickF h398) ?_
                         refine JL.mv (.bool false) ?_
                         refine JL.off 31 226 true (some 227) rfl ?_
                         refine JL.off 31 226 true (some 228) rfl ?_
                         refine JL.val (.bool false) (some 229) (gives_pickF rfl) ?_
                         refine JL.mv (.bool false) ?_
                         refine JL.off 35 230 true (some 231) rfl ?_
                         refine JL.off 35 230 true (some 232) rfl ?_
                         refine JL.val (.bool false) (some 233) (gives_pickF rfl) ?_
                         refine JL.mv (.bool false) ?_
                         refine JL.off 39 234 true (some 235) rfl ?_
                         refine JL.off 39 234 true (some 236) rfl ?_
                         refine JL.val (.bool false) (some 237) (gives_pickF rfl) ?_
                         refine JL.mv (.bool false) ?_
                         refine JL.off 43 238 true (some 239) rfl ?_
                         refine JL.off 43 238 true (some 240) rfl ?_
                         refine JL.val (.bool false) (some 241) (gives_pickF rfl) ?_
                         refine JL.as (.bool false) ?_
                         refine JL.en ?_
                         exact JQ.meet false () H0 (fun _ h => Heap.to h)
                     · refine JL.off 23 218 true (some 219) h397 ?_
                       refine JL.off 23 218 true (some 220) h397 ?_
                       refine JL.val (.bool false) (some 221) (gives_pickF h397) ?_
                       refine JL.mv (.bool false) ?_
                       refine JL.off 27 222 true (some 223) rfl ?_
                       refine JL.off 27 222 true (some 224) rfl ?_
                       refine JL.val (.bool false) (some 225) (gives_pickF rfl) ?_
                       refine JL.mv (.bool false) ?_
                       refine JL.off 31 226 true (some 227) rfl ?_
                       refine JL.off 31 226 true (some 228) rfl ?_
                       refine JL.val (.bool false) (some 229) (gives_pickF rfl) ?_
                       refine JL.mv (.bool false) ?_
                       refine JL.off 35 230 true (some 231) rfl ?_
                       refine JL.off 35 230 true (some 232) rfl ?_
                       refine JL.val (.bool false) (some 233) (gives_pickF rfl) ?_
                       refine JL.mv (.bool false) ?_
                       refine JL.off 39 234 true (some 235) rfl ?_
                       refine JL.off 39 234 true (some 236) rfl ?_
                       refine JL.val (.bool false) (some 237) (gives_pickF rfl) ?_
                       refine JL.mv (.bool false) ?_
                       refine JL.off 43 238 true (some 239) rfl ?_
                       refine JL.off 43 238 true (some 240) rfl ?_
                       refine JL.val (.bool false) (some 241) (gives_pickF rfl) ?_
                       refine JL.as (.bool false) ?_
                       refine JL.en ?_
                       exact JQ.meet false () H0 (fun _ h => Heap.to h)
                   · refine JL.off 19 214 true (some 215) h396 ?_
                     refine JL.off 19 214 true (some 216) h396 ?_
                     refine JL.val (.bool false) (some 217) (gives_pickF h396) ?_
                     refine JL.mv (.bool false) ?_
                     refine JL.off 23 218 true (some 219) rfl ?_
                     refine JL.off 23 218 true (some 220) rfl ?_
                     refine JL.val (.bool false) (some 221) (gives_pickF rfl) ?_
                     refine JL.mv (.bool false) ?_
                     refine JL.off 27 222 true (some 223) rfl ?_
                     refine JL.off 27 222 true (some 224) rfl ?_
                     refine JL.val (.bool false) (some 225) (gives_pickF rfl) ?_
                     refine JL.mv (.bool false) ?_
                     refine JL.off 31 226 true (some 227) rfl ?_
                     refine JL.off 31 226 true (some 228) rfl ?_
                     refine JL.val (.bool false) (some 229) (gives_pickF rfl) ?_
                     refine JL.mv (.bool false) ?_
                     refine JL.off 35 230 true (some 231) rfl ?_
                     refine JL.off 35 230 true (some 232) rfl ?_
                     refine JL.val (.bool false) (some 233) (gives_pickF rfl) ?_
                     refine JL.mv (.bool false) ?_
                     refine JL.off 39 234 true (some 235) rfl ?_
                     refine JL.off 39 234 true (some 236) rfl ?_
                     refine JL.val (.bool false) (some 237) (gives_pickF rfl) ?_
                     refine JL.mv (.bool false) ?_
                     refine JL.off 43 238 true (some 239) rfl ?_
                     refine JL.off 43 238 true (some 240) rfl ?_
                     refine JL.val (.bool false) (some 241) (gives_pickF rfl) ?_
                     refine JL.as (.bool false) ?_
                     refine JL.en ?_
                     exact JQ.meet false () H0 (fun _ h => Heap.to h)
                 · refine JL.off 15 210 true (some 211) h395 ?_
                   refine JL.off 15 210 true (some 212) h395 ?_
                   refine JL.val (.bool false) (some 213) (gives_pickF h395) ?_
                   refine JL.mv (.bool false) ?_
                   refine JL.off 19 214 true (some 215) rfl ?_
                   refine JL.off 19 214 true (some 216) rfl ?_
                   refine JL.val (.bool false) (some 217) (gives_pickF rfl) ?_
                   refine JL.mv (.bool false) ?_
                   refine JL.off 23 218 true (some 219) rfl ?_
                   refine JL.off 23 218 true (some 220) rfl ?_
                   refine JL.val (.bool false) (some 221) (gives_pickF rfl) ?_
                   refine JL.mv (.bool false) ?_
                   refine JL.off 27 222 true (some 223) rfl ?_
                   refine JL.off 27 222 true (some 224) rfl ?_
                   refine JL.val (.bool false) (some 225) (gives_pickF rfl) ?_
                   refine JL.mv (.bool false) ?_
                   refine JL.off 31 226 true (some 227) rfl ?_
                   refine JL.off 31 226 true (some 228) rfl ?_
                   refine JL.val (.bool false) (some 229) (gives_pickF rfl) ?_
                   refine JL.mv (.bool false) ?_
                   refine JL.off 35 230 true (some 231) rfl ?_
                   refine JL.off 35 230 true (some 232) rfl ?_
                   refine JL.val (.bool false) (some 233) (gives_pickF rfl) ?_
                   refine JL.mv (.bool false) ?_
                   refine JL.off 39 234 true (some 235) rfl ?_
                   refine JL.off 39 234 true (some 236) rfl ?_
                   refine JL.val (.bool false) (some 237) (gives_pickF rfl) ?_
                   refine JL.mv (.bool false) ?_
                   refine JL.off 43 238 true (some 239) rfl ?_
                   refine JL.off 43 238 true (some 240) rfl ?_
                   refine JL.val (.bool false) (some 241) (gives_pickF rfl) ?_
                   refine JL.as (.bool false) ?_
                   refine JL.en ?_
                   exact JQ.meet false () H0 (fun _ h => Heap.to h)
               · refine JL.off 11 206 true (some 207) h394 ?_
                 refine JL.off 11 206 true (some 208) h394 ?_
                 refine JL.val (.bool false) (some 209) (gives_pickF h394) ?_
                 refine JL.mv (.bool false) ?_
                 refine JL.off 15 210 true (some 211) rfl ?_
                 refine JL.off 15 210 true (some 212) rfl ?_
                 refine JL.val (.bool false) (some 213) (gives_pickF rfl) ?_
                 refine JL.mv (.bool false) ?_
                 refine JL.off 19 214 true (some 215) rfl ?_
                 refine JL.off 19 214 true (some 216) rfl ?_
                 refine JL.val (.bool false) (some 217) (gives_pickF rfl) ?_
                 refine JL.mv (.bool false) ?_
                 refine JL.off 23 218 true (some 219) rfl ?_
                 refine JL.off 23 218 true (some 220) rfl ?_
                 refine JL.val (.bool false) (some 221) (gives_pickF rfl) ?_
                 refine JL.mv (.bool false) ?_
                 refine JL.off 27 222 true (some 223) rfl ?_
                 refine JL.off 27 222 true (some 224) rfl ?_
                 refine JL.val (.bool false) (some 225) (gives_pickF rfl) ?_
                 refine JL.mv (.bool false) ?_
                 refine JL.off 31 226 true (some 227) rfl ?_
                 refine JL.off 31 226 true (some 228) rfl ?_
                 refine JL.val (.bool false) (some 229) (gives_pickF rfl) ?_
                 refine JL.mv (.bool false) ?_
                 refine JL.off 35 230 true (some 231) rfl ?_
                 refine JL.off 35 230 true (some 232) rfl ?_
                 refine JL.val (.bool false) (some 233) (gives_pickF rfl) ?_
                 refine JL.mv (.bool false) ?_
                 refine JL.off 39 234 true (some 235) rfl ?_
                 refine JL.off 39 234 true (some 236) rfl ?_
                 refine JL.val (.bool false) (some 237) (gives_pickF rfl) ?_
                 refine JL.mv (.bool false) ?_
                 refine JL.off 43 238 true (some 239) rfl ?_
                 refine JL.off 43 238 true (some 240) rfl ?_
                 refine JL.val (.bool false) (some 241) (gives_pickF rfl) ?_
                 refine JL.as (.bool false) ?_
                 refine JL.en ?_
                 exact JQ.meet false () H0 (fun _ h => Heap.to h)
             · refine JL.off 7 202 true (some 203) h393 ?_
               refine JL.off 7 202 true (some 204) h393 ?_
               refine JL.val (.bool false) (some 205) (gives_pickF h393) ?_
               refine JL.mv (.bool false) ?_
               refine JL.off 11 206 true (some 207) rfl ?_
               refine JL.off 11 206 true (some 208) rfl ?_
               refine JL.val (.bool false) (some 209) (gives_pickF rfl) ?_
               refine JL.mv (.bool false) ?_
               refine JL.off 15 210 true (some 211) rfl ?_
               refine JL.off 15 210 true (some 212) rfl ?_
               refine JL.val (.bool false) (some 213) (gives_pickF rfl) ?_
               refine JL.mv (.bool false) ?_
               refine JL.off 19 214 true (some 215) rfl ?_
               refine JL.off 19 214 true (some 216) rfl ?_
               refine JL.val (.bool false) (some 217) (gives_pickF rfl) ?_
               refine JL.mv (.bool false) ?_
               refine JL.off 23 218 true (some 219) rfl ?_
               refine JL.off 23 218 true (some 220) rfl ?_
               refine JL.val (.bool false) (some 221) (gives_pickF rfl) ?_
               refine JL.mv (.bool false) ?_
               refine JL.off 27 222 true (some 223) rfl ?_
               refine JL.off 27 222 true (some 224) rfl ?_
               refine JL.val (.bool false) (some 225) (gives_pickF rfl) ?_
               refine JL.mv (.bool false) ?_
               refine JL.off 31 226 true (some 227) rfl ?_
               refine JL.off 31 226 true (some 228) rfl ?_
               refine JL.val (.bool false) (some 229) (gives_pickF rfl) ?_
               refine JL.mv (.bool false) ?_
               refine JL.off 35 230 true (some 231) rfl ?_
               refine JL.off 35 230 true (some 232) rfl ?_
               refine JL.val (.bool false) (some 233) (gives_pickF rfl) ?_
               refine JL.mv (.bool false) ?_
               refine JL.off 39 234 true (some 235) rfl ?_
               refine JL.off 39 234 true (some 236) rfl ?_
               refine JL.val (.bool false) (some 237) (gives_pickF rfl) ?_
               refine JL.mv (.bool false) ?_
               refine JL.off 43 238 true (some 239) rfl ?_
               refine JL.off 43 238 true (some 240) rfl ?_
               refine JL.val (.bool false) (some 241) (gives_pickF rfl) ?_
               refine JL.as (.bool false) ?_
               refine JL.en ?_
               exact JQ.meet false () H0 (fun _ h => Heap.to h)
           · refine JL.off 3 198 true (some 199) h392 ?_
             refine JL.off 3 198 true (some 200) h392 ?_
             refine JL.val (.bool false) (some 201) (gives_pickF h392) ?_
             refine JL.mv (.bool false) ?_
             refine JL.off 7 202 true (some 203) rfl ?_
             refine JL.off 7 202 true (some 204) rfl ?_
             refine JL.val (.bool false) (some 205) (gives_pickF rfl) ?_
             refine JL.mv (.bool false) ?_
             refine JL.off 11 206 true (some 207) rfl ?_
             refine JL.off 11 206 true (some 208) rfl ?_
             refine JL.val (.bool false) (some 209) (gives_pickF rfl) ?_
             refine JL.mv (.bool false) ?_
             refine JL.off 15 210 true (some 211) rfl ?_
             refine JL.off 15 210 true (some 212) rfl ?_
             refine JL.val (.bool false) (some 213) (gives_pickF rfl) ?_
             refine JL.mv (.bool false) ?_
             refine JL.off 19 214 true (some 215) rfl ?_
             refine JL.off 19 214 true (some 216) rfl ?_
             refine JL.val (.bool false) (some 217) (gives_pickF rfl) ?_
             refine JL.mv (.bool false) ?_
             refine JL.off 23 218 true (some 219) rfl ?_
             refine JL.off 23 218 true (some 220) rfl ?_
             refine JL.val (.bool false) (some 221) (gives_pickF rfl) ?_
             refine JL.mv (.bool false) ?_
             refine JL.off 27 222 true (some 223) rfl ?_
             refine JL.off 27 222 true (some 224) rfl ?_
             refine JL.val (.bool false) (some 225) (gives_pickF rfl) ?_
             refine JL.mv (.bool false) ?_
             refine JL.off 31 226 true (some 227) rfl ?_
             refine JL.off 31 226 true (some 228) rfl ?_
             refine JL.val (.bool false) (some 229) (gives_pickF rfl) ?_
             refine JL.mv (.bool false) ?_
             refine JL.off 35 230 true (some 231) rfl ?_
             refine JL.off 35 230 true (some 232) rfl ?_
             refine JL.val (.bool false) (some 233) (gives_pickF rfl) ?_
             refine JL.mv (.bool false) ?_
             refine JL.off 39 234 true (some 235) rfl ?_
             refine JL.off 39 234 true (some 236) rfl ?_
             refine JL.val (.bool false) (some 237) (gives_pickF rfl) ?_
             refine JL.mv (.bool false) ?_
             refine JL.off 43 238 true (some 239) rfl ?_
             refine JL.off 43 238 true (some 240) rfl ?_
             refine JL.val (.bool false) (some 241) (gives_pickF rfl) ?_
             refine JL.as (.bool false) ?_
             refine JL.en ?_
             exact JQ.meet false () H0 (fun _ h => Heap.to h)
         · clear H0
           rintro ok377 ⟨⟩ H0
           replace H0 : law35_CorruptNames.k9 t1 late280 l284 t290 t296 yes362 o363 ok377 = some r := H0
           unfold law35_CorruptNames.k9 at H0
           refine JQ.sub [(18, .pointer (some ⟨b146, 0, none⟩)), (27, .slice Aa281 late280.length c282), (28, .int .i64 l284), (29, .bool t290.1), (30, .int .i64 t290.2), (31, .bool t296.1), (32, .int .i64 t296.2), (33, .bool yes362), (34, .int .i64 o363), (35, .bool ok377)] ?_
           refine JQ.turn (Δ' := [At.box b146 47 [.int .i64 0, .int .i64 1, .int .i64 t1.Re, .int .i64 t1.Im, .int .i64 t1.Den, .int .i64 0], At.row Aa281 c282 48 fl_Vis.kd.sl late280 false]) (fun _ h => h.to) ?_
           refine J.sr ?_
           refine JL.mv (.bool ok377) ?_
           refine JL.mv (.bool ok377) ?_
           rcases ite_cases H0 with ⟨h378, H0⟩ | ⟨h378, H0⟩
           · refine JL.on 1 243 h378 ?_
             refine JL.mv (.int .i64 l284) ?_
             refine JL.on 1 243 h378 ?_
             refine JL.pur (.bool (decide (l284 = 0))) (some 245) ?_
             refine JL.val (.bool (decide (l284 = 0))) (some 246) (gives_pickT h378) ?_
             refine JL.mv (.bool (decide (l284 = 0))) ?_
             rcases ite_cases H0 with ⟨h379, H0⟩ | ⟨h379, H0⟩
             · refine JL.on 5 247 h379 ?_
               refine JL.mv (.slice Aa281 late280.length c282) ?_
               refine JL.on 5 247 h379 ?_
               refine JL.val (.agg #[.int .i64 0, .int .i64 1, .int .i64 t1.Re, .int .i64 t1.Im, .int .i64 t1.Den, .int .i64 0]) (some 249) (yields_load_boxes 0 0 [.int .i64 0, .int .i64 1, .int .i64 t1.Re, .int .i64 t1.Im, .int .i64 t1.Den, .int .i64 0] (holds_box b146 47 [.int .i64 0, .int .i64 1, .int .i64 t1.Re, .int .i64 t1.Im, .int .i64 t1.Den, .int .i64 0]) tyAgg_47 tySize_47) ?_
               refine JL.on 5 247 h379 ?_
               refine JL.buildSl 47 fl_Vis.kd (([(⟨0, 1, t1, 0⟩ : Vis)] : List Vis) : List Vis) [.int .i64 0, .int .i64 1, .int .i64 t1.Re, .int .i64 t1.Im, .int .i64 t1.Den, .int .i64 0] false (closes_fl rfl) fun b380 => ?_
               refine JL.on 5 247 h379 ?_
               refine JQ.turn (fun _ h => freeze_row 2 (some ⟨b380, 0, none⟩) 1 47 fl_Vis.kd ([(⟨0, 1, t1, 0⟩ : Vis)] : List Vis) false h) ?_
               refine JL.buildSl 48 fl_Vis.kd.sl (([([(⟨0, 1, t1, 0⟩ : Vis)] : List Vis)] : List (List Vis)) : List (List Vis)) [.slice (some ⟨b380, 0, none⟩) ([(⟨0, 1, t1, 0⟩ : Vis)] : List Vis).length 1] false (closes_sl 2 false (fun h => h) (closes_nil)) fun b381 => ?_
               refine JL.on 5 247 h379 ?_
               obtain ⟨t382, hc383, H0⟩ := bind_some H0
               refine JL.call [] [] [] (ref35_Same.ok late280 Aa281 c282 ([([(⟨0, 1, t1, 0⟩ : Vis)] : List Vis)] : List (List Vis)) (some ⟨b381, 0, none⟩) 1 _ hc383) ⟨pre_view 1 (view_row Aa281 c282 48 fl_Vis.kd.sl late280 false true), ⟨pre_view 3 (view_row (some ⟨b381, 0, none⟩) 1 48 fl_Vis.kd.sl ([([(⟨0, 1, t1, 0⟩ : Vis)] : List Vis)] : List (List Vis)) false true), trivial⟩⟩ ?_
               rintro _ _ ⟨rfl, rfl⟩
               refine JL.val (.bool t382) (some 253) (gives_pickT h379) ?_
               refine JL.mv (.bool t382) ?_
               rcases ite_cases H0 with ⟨h384, H0⟩ | ⟨h384, H0⟩
               · refine JL.on 12 254 h384 ?_
                 refine JL.mv (.int .i64 t290.2) ?_
                 refine JL.on 12 254 h384 ?_
                 refine JL.pur (.bool (decide (t290.2 = 0))) (some 256) ?_
                 refine JL.val (.bool (decide (t290.2 = 0))) (some 257) (gives_pickT h384) ?_
                 refine JL.mv (.bool (decide (t290.2 = 0))) ?_
                 rcases ite_cases H0 with ⟨h385, H0⟩ | ⟨h385, H0⟩
                 · refine JL.on 16 258 h385 ?_
                   refine JL.mv (.bool t290.1) ?_
                   refine JL.on 16 258 h385 ?_
                   refine JL.pur (.bool (!t290.1)) (some 260) ?_
                   refine JL.val (.bool (!t290.1)) (some 261) (gives_pickT h385) ?_
                   refine JL.mv (.bool (!t290.1)) ?_
                   rcases ite_cases H0 with ⟨h386, H0⟩ | ⟨h386, H0⟩
                   · refine JL.on 20 262 h386 ?_
                     refine JL.mv (.int .i64 t296.2) ?_
                     refine JL.on 20 262 h386 ?_
                     refine JL.pur (.bool (decide (t296.2 = 0))) (some 264) ?_
                     refine JL.val (.bool (decide (t296.2 = 0))) (some 265) (gives_pickT h386) ?_
                     refine JL.mv (.bool (decide (t296.2 = 0))) ?_
                     rcases ite_cases H0 with ⟨h387, H0⟩ | ⟨h387, H0⟩
                     · refine JL.on 24 266 h387 ?_
                       refine JL.mv (.bool t296.1) ?_
                       refine JL.on 24 266 h387 ?_
                       refine JL.pur (.bool (!t296.1)) (some 268) ?_
                       refine JL.val (.bool (!t296.1)) (some 269) (gives_pickT h387) ?_
                       refine JL.mv (.bool (!t296.1)) ?_
                       rcases ite_cases H0 with ⟨h388, H0⟩ | ⟨h388, H0⟩
                       · refine JL.on 28 270 h388 ?_
                         refine JL.mv (.int .i64 o363) ?_
                         refine JL.on 28 270 h388 ?_
                         refine JL.pur (.bool (decide (o363 = 0))) (some 272) ?_
                         refine JL.val (.bool (decide (o363 = 0))) (some 273) (gives_pickT h388) ?_
                         refine JL.mv (.bool (decide (o363 = 0))) ?_
                         rcases ite_cases H0 with ⟨h389, H0⟩ | ⟨h389, H0⟩
                         · refine JL.on 32 274 h389 ?_
                           refine JL.mv (.bool yes362) ?_
                           refine JL.val (.bool yes362) (some 276) (gives_pickT h389) ?_
                           refine JL.as (.bool yes362) ?_
                           refine JL.es [(0, .bool yes362)] ?_
                           refine JQ.mask [] [false, false, false, false] ?_
                           refine J.ret ?_
                           obtain rfl := Option.some.inj H0
                           exact JQ.done' (rs := [.tmp 0]) (vs := [.bool yes362]) [] (.inr rfl) ⟨by kernel_rfl, trivial⟩ (fun _ h => Heap.to h) ⟨rfl, rfl⟩
                         · refine JL.off 32 274 true (some 275) h389 ?_
                           refine JL.val (.bool false) (some 276) (gives_pickF h389) ?_
                           refine JL.as (.bool false) ?_
                           refine JL.es [(0, .bool false)] ?_
                           refine JQ.mask [] [false, false, false, false] ?_
                           refine J.ret ?_
                           obtain rfl := Option.some.inj H0
                           exact JQ.done' (rs := [.tmp 0]) (vs := [.bool false]) [] (.inr rfl) ⟨by kernel_rfl, trivial⟩ (fun _ h => Heap.to h) ⟨rfl, rfl⟩
                       · refine JL.off 28 270 true (some 271) h388 ?_
                         refine JL.off 28 270 true (some 272) h388 ?_
                         refine JL.val (.bool false) (some 273) (gives_pickF h388) ?_
                         refine JL.mv (.bool false) ?_
                         refine JL.off 32 274 true (some 275) rfl ?_
                         refine JL.val (.bool false) (some 276) (gives_pickF rfl) ?_
                         refine JL.as (.bool false) ?_
                         refine JL.es [(0, .bool false)] ?_
                         refine JQ.mask [] [false, false, false, false] ?_
                         refine J.ret ?_
                         obtain rfl := Option.some.inj H0
                         exact JQ.done' (rs := [.tmp 0]) (vs := [.bool false]) [] (.inr rfl) ⟨by kernel_rfl, trivial⟩ (fun _ h => Heap.to h) ⟨rfl, rfl⟩
                     · refine JL.off 24 266 true (some 267) h387 ?_
                       refine JL.off 24 266 true (some 268) h387 ?_
                       refine JL.val (.bool false) (some 269) (gives_pickF h387) ?_
                       refine JL.mv (.bool false) ?_
                       refine JL.off 28 270 true (some 271) rfl ?_
                       refine JL.off 28 270 true (some 272) rfl ?_
                       refine JL.val (.bool false) (some 273) (gives_pickF rfl) ?_
                       refine JL.mv (.bool false) ?_
                       refine JL.off 32 274 true (some 275) rfl ?_
                       refine JL.val (.bool false) (some 276) (gives_pickF rfl) ?_
                       refine JL.as (.bool false) ?_
                       refine JL.es [(0, .bool false)] ?_
                       refine JQ.mask [] [false, false, false, false] ?_
                       refine J.ret ?_
                       obtain rfl := Option.some.inj H0
                       exact JQ.done' (rs := [.tmp 0]) (vs := [.bool false]) [] (.inr rfl) ⟨by kernel_rfl, trivial⟩ (fun _ h => Heap.to h) ⟨rfl, rfl⟩
                   · refine JL.off 20 262 true (some 263) h386 ?_
                     refine JL.off 20 262 true (some 264) h386 ?_
                     refine JL.val (.bool false) (some 265) (gives_pickF h386) ?_
                     refine JL.mv (.bool false) ?_
                     refine JL.off 24 266 true (some 267) rfl ?_
                     refine JL.off 24 266 true (some 268) rfl ?_
                     refine JL.val (.bool false) (some 269) (gives_pickF rfl) ?_
                     refine JL.mv (.bool false) ?_
                     refine JL.off 28 270 true (some 271) rfl ?_
                     refine JL.off 28 270 true (some 272) rfl ?_
                     refine JL.val (.bool false) (some 273) (gives_pickF rfl) ?_
                     refine JL.mv (.bool false) ?_
                     refine JL.off 32 274 true (some 275) rfl ?_
                     refine JL.val (.bool false) (some 276) (gives_pickF rfl) ?_
                     refine JL.as (.bool false) ?_
                     refine JL.es [(0, .bool false)] ?_
                     refine JQ.mask [] [false, false, false, false] ?_
                     refine J.ret ?_
                     obtain rfl := Option.some.inj H0
                     exact JQ.done' (rs := [.tmp 0]) (vs := [.bool false]) [] (.inr rfl) ⟨by kernel_rfl, trivial⟩ (fun _ h => Heap.to h) ⟨rfl, rfl⟩
                 · refine JL.off 16 258 true (some 259) h385 ?_
                   refine JL.off 16 258 true (some 260) h385 ?_
                   refine JL.val (.bool false) (some 261) (gives_pickF h385) ?_
                   refine JL.mv (.bool false) ?_
                   refine JL.off 20 262 true (some 263) rfl ?_
                   refine JL.off 20 262 true (some 264) rfl ?_
                   refine JL.val (.bool false) (some 265) (gives_pickF rfl) ?_
                   refine JL.mv (.bool false) ?_
                   refine JL.off 24 266 true (some 267) rfl ?_
                   refine JL.off 24 266 true (some 268) rfl ?_
                   refine JL.val (.bool false) (some 269) (gives_pickF rfl) ?_
                   refine JL.mv (.bool false) ?_
                   refine JL.off 28 270 true (some 271) rfl ?_
                   refine JL.off 28 270 true (some 272) rfl ?_
                   refine JL.val (.bool false) (some 273) (gives_pickF rfl) ?_
                   refine JL.mv (.bool false) ?_
                   refine JL.off 32 274 true (some 275) rfl ?_
                   refine JL.val (.bool false) (some 276) (gives_pickF rfl) ?_
                   refine JL.as (.bool false) ?_
                   refine JL.es [(0, .bool false)] ?_
                   refine JQ.mask [] [false, false, false, false] ?_
                   refine J.ret ?_
                   obtain rfl := Option.some.inj H0
                   exact JQ.done' (rs := [.tmp 0]) (vs := [.bool false]) [] (.inr rfl) ⟨by kernel_rfl, trivial⟩ (fun _ h => Heap.to h) ⟨rfl, rfl⟩
               · refine JL.off 12 254 true (some 255) h384 ?_
                 refine JL.off 12 254 true (some 256) h384 ?_
                 refine JL.val (.bool false) (some 257) (gives_pickF h384) ?_
                 refine JL.mv (.bool false) ?_
                 refine JL.off 16 258 true (some 259) rfl ?_
                 refine JL.off 16 258 true (some 260) rfl ?_
                 refine JL.val (.bool false) (some 261) (gives_pickF rfl) ?_
                 refine JL.mv (.bool false) ?_
                 refine JL.off 20 262 true (some 263) rfl ?_
                 refine JL.off 20 262 true (some 264) rfl ?_
                 refine JL.val (.bool false) (some 265) (gives_pickF rfl) ?_
                 refine JL.mv (.bool false) ?_
                 refine JL.off 24 266 true (some 267) rfl ?_
                 refine JL.off 24 266 true (some 268) rfl ?_
                 refine JL.val (.bool false) (some 269) (gives_pickF rfl) ?_
                 refine JL.mv (.bool false) ?_
                 refine JL.off 28 270 true (some 271) rfl ?_
                 refine JL.off 28 270 true (some 272) rfl ?_
                 refine JL.val (.bool false) (some 273) (gives_pickF rfl) ?_
                 refine JL.mv (.bool false) ?_
                 refine JL.off 32 274 true (some 275) rfl ?_
                 refine JL.val (.bool false) (some 276) (gives_pickF rfl) ?_
                 refine JL.as (.bool false) ?_
                 refine JL.es [(0, .bool false)] ?_
                 refine JQ.mask [] [false, false, false, false] ?_
                 refine J.ret ?_
                 obtain rfl := Option.some.inj H0
                 exact JQ.done' (rs := [.tmp 0]) (vs := [.bool false]) [] (.inr rfl) ⟨by kernel_rfl, trivial⟩ (fun _ h => Heap.to h) ⟨rfl, rfl⟩
             · refine JL.off 5 247 true (some 248) h379 ?_
               refine JL.off 5 247 true (some 249) h379 ?_
               refine JL.off 5 247 true (some 250) h379 ?_
               refine JL.off 5 247 true (some 251) h379 ?_
               refine JL.off 5 247 true (some 252) h379 ?_
               refine JL.val (.bool false) (some 253) (gives_pickF h379) ?_
               refine JL.mv (.bool false) ?_
               refine JL.off 12 254 true (some 255) rfl ?_
               refine JL.off 12 254 true (some 256) rfl ?_
               refine JL.val (.bool false) (some 257) (gives_pickF rfl) ?_
               refine JL.mv (.bool false) ?_
               refine JL.off 16 258 true (some 259) rfl ?_
               refine JL.off 16 258 true (some 260) rfl ?_
               refine JL.val (.bool false) (some 261) (gives_pickF rfl) ?_
               refine JL.mv (.bool false) ?_
               refine JL.off 20 262 true (some 263) rfl ?_
               refine JL.off 20 262 true (some 264) rfl ?_
               refine JL.val (.bool false) (some 265) (gives_pickF rfl) ?_
               refine JL.mv (.bool false) ?_
               refine JL.off 24 266 true (some 267) rfl ?_
               refine JL.off 24 266 true (some 268) rfl ?_
               refine JL.val (.bool false) (some 269) (gives_pickF rfl) ?_
               refine JL.mv (.bool false) ?_
               refine JL.off 28 270 true (some 271) rfl ?_
               refine JL.off 28 270 true (some 272) rfl ?_
               refine JL.val (.bool false) (some 273) (gives_pickF rfl) ?_
               refine JL.mv (.bool false) ?_
               refine JL.off 32 274 true (some 275) rfl ?_
               refine JL.val (.bool false) (some 276) (gives_pickF rfl) ?_
               refine JL.as (.bool false) ?_
               refine JL.es [(0, .bool false)] ?_
               refine JQ.mask [] [false, false] ?_
               refine J.ret ?_
               obtain rfl := Option.some.inj H0
               exact JQ.done' (rs := [.tmp 0]) (vs := [.bool false]) [] (.inr rfl) ⟨by kernel_rfl, trivial⟩ (fun _ h => Heap.to h) ⟨rfl, rfl⟩
           · refine JL.off 1 243 true (some 244) h378 ?_
             refine JL.off 1 243 true (some 245) h378 ?_
             refine JL.val (.bool false) (some 246) (gives_pickF h378) ?_
             refine JL.mv (.bool false) ?_
             refine JL.off 5 247 true (some 248) rfl ?_
             refine JL.off 5 247 true (some 249) rfl ?_
             refine JL.off 5 247 true (some 250) rfl ?_
             refine JL.off 5 247 true (some 251) rfl ?_
             refine JL.off 5 247 true (some 252) rfl ?_
             refine JL.val (.bool false) (some 253) (gives_pickF rfl) ?_
             refine JL.mv (.bool false) ?_
             refine JL.off 12 254 true (some 255) rfl ?_
             refine JL.off 12 254 true (some 256) rfl ?_
             refine JL.val (.bool false) (some 257) (gives_pickF rfl) ?_
             refine JL.mv (.bool false) ?_
             refine JL.off 16 258 true (some 259) rfl ?_
             refine JL.off 16 258 true (some 260) rfl ?_
             refine JL.val (.bool false) (some 261) (gives_pickF rfl) ?_
             refine JL.mv (.bool false) ?_
             refine JL.off 20 262 true (some 263) rfl ?_
             refine JL.off 20 262 true (some 264) rfl ?_
             refine JL.val (.bool false) (some 265) (gives_pickF rfl) ?_
             refine JL.mv (.bool false) ?_
             refine JL.off 24 266 true (some 267) rfl ?_
             refine JL.off 24 266 true (some 268) rfl ?_
             refine JL.val (.bool false) (some 269) (gives_pickF rfl) ?_
             refine JL.mv (.bool false) ?_
             refine JL.off 28 270 true (some 271) rfl ?_
             refine JL.off 28 270 true (some 272) rfl ?_
             refine JL.val (.bool false) (some 273) (gives_pickF rfl) ?_
             refine JL.mv (.bool false) ?_
             refine JL.off 32 274 true (some 275) rfl ?_
             refine JL.val (.bool false) (some 276) (gives_pickF rfl) ?_
             refine JL.as (.bool false) ?_
             refine JL.es [(0, .bool false)] ?_
             refine JQ.mask [] [false, false] ?_
             refine J.ret ?_
             obtain rfl := Option.some.inj H0
             exact JQ.done' (rs := [.tmp 0]) (vs := [.bool false]) [] (.inr rfl) ⟨by kernel_rfl, trivial⟩ (fun _ h => Heap.to h) ⟨rfl, rfl⟩


end Go.Proofs.Ytifpegepdgmmbaa.M
