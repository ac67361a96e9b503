import Derived.Test.YtlemaejpllhjnaaW0
set_option linter.unusedVariables false
set_option linter.unusedSimpArgs false
set_option maxRecDepth 100000
set_option maxHeartbeats 8000000
namespace Go.Proofs.Ytlemaejpllhjnaa.M
open Go.GW Go.Proofs

theorem law13_SampleNames.ok  (r : Bool) (H0 : law13_SampleNames.f = some r) :
    Does Try.prog 8 [].toArray [] [] false (fun v Δ => v = .bool r ∧ Δ = []) := by
 refine Does.body (vs := []) Try.func8 rfl trivial trivial fun w S => ?_
 unfold law13_SampleNames.f at H0
 refine J.seq ?_
 refine J.region ?_
 refine JL.as (.bool false) ?_
 refine JL.end_ ?_
 refine JQ.then_normal ?_
 refine JQ.sub [] ?_
 refine J.seq ?_
 refine J.region ?_
 refine JL.pur (.agg #[.int .i64 1, .int .i64 1]) (some 45) ?_
 refine JL.alloc (cl_51 zv_51) fun b1 => ?_
 refine JL.store 0 b1 0 51 (cl_51 zv_51) [.int .i64 1, .int .i64 1] tySize_51 ?_
 refine JL.end_ ?_
 refine JQ.then_normal ?_
 refine JQ.sub [(1, .pointer (some ⟨b1, 0, none⟩))] ?_
 refine J.join (T := Bool) (G := Unit) (fun t => law13_SampleNames.k1 t = some r) (fun t g => [(1, .pointer (some ⟨b1, 0, none⟩)), (2, .bool t)]) (fun t g => [At.box b1 51 [.int .i64 1, .int .i64 1]]) ?_ ?_
 · refine J.region ?_
   obtain ⟨⟨h187, h188, h189⟩, H0⟩ := ite_must H0
   refine JL.makeSl 3 ((flInt .i64).kd) (0 : Int) Try.underlying22 info_3 (fun _ _ => rfl) h187 h188 (by omega) (by omega) fun b186 => ?_
   obtain ⟨t190, hc191, H0⟩ := bind_some H0
   refine JL.call [] [] [] (sample_Check.ok (List.replicate (257 : Int).toNat (0 : Int)) (some ⟨b186, 0, none⟩) ((257 : Int).toNat) _ hc191) ⟨pre_view 1 (view_row (some ⟨b186, 0, none⟩) ((257 : Int).toNat) 3 ((flInt .i64).kd) (List.replicate (257 : Int).toNat (0 : Int)) false true), trivial⟩ ?_
   rintro _ _ ⟨rfl, rfl⟩
   refine JL.pur (.bool (decide (t190 = 4))) (some 48) ?_
   refine JL.mv (.bool (decide (t190 = 4))) ?_
   rcases ite_cases H0 with ⟨h192, H0⟩ | ⟨h192, H0⟩
   · refine JL.on 3 49 h192 ?_
     obtain ⟨⟨h194, h195, h196⟩, H0⟩ := ite_must H0
     refine JL.makeSl 3 ((flInt .i64).kd) (0 : Int) Try.underlying22 info_3 (fun _ _ => rfl) h194 h195 (by omega) (by omega) fun b193 => ?_
     refine JL.on 3 49 h192 ?_
     obtain ⟨t197, hc198, H0⟩ := bind_some H0
     refine JL.call [] [] [] (sample_Check.ok (List.replicate (256 : Int).toNat (0 : Int)) (some ⟨b193, 0, none⟩) ((256 : Int).toNat) _ hc198) ⟨pre_view 2 (view_row (some ⟨b193, 0, none⟩) ((256 : Int).toNat) 3 ((flInt .i64).kd) (List.replicate (256 : Int).toNat (0 : Int)) false true), trivial⟩ ?_
     rintro _ _ ⟨rfl, rfl⟩
     refine JL.on 3 49 h192 ?_
     refine JL.pur (.bool (decide (t197 = 0))) (some 52) ?_
     refine JL.val (.bool (decide (t197 = 0))) (some 53) (gives_pickT h192) ?_
     refine JL.mv (.bool (decide (t197 = 0))) ?_
     rcases ite_cases H0 with ⟨h199, H0⟩ | ⟨h199, H0⟩
     · refine JL.on 8 54 h199 ?_
       refine JL.buildSl 3 ((flInt .i64).kd) (([2] : List Int) : List Int) [.int .i64 2] false (closes_fl rfl) fun b200 => ?_
       refine JL.on 8 54 h199 ?_
       obtain ⟨t201, hc202, H0⟩ := bind_some H0
       refine JL.call [] [] [] (sample_Check.ok ([2] : List Int) (some ⟨b200, 0, none⟩) 1 _ hc202) ⟨pre_view 3 (view_row (some ⟨b200, 0, none⟩) 1 3 ((flInt .i64).kd) ([2] : List Int) false true), trivial⟩ ?_
       rintro _ _ ⟨rfl, rfl⟩
       refine JL.on 8 54 h199 ?_
       refine JL.pur (.bool (decide (t201 = 8))) (some 57) ?_
       refine JL.val (.bool (decide (t201 = 8))) (some 58) (gives_pickT h199) ?_
       refine JL.mv (.bool (decide (t201 = 8))) ?_
       rcases ite_cases H0 with ⟨h203, H0⟩ | ⟨h203, H0⟩
       · refine JL.on 13 59 h203 ?_
         refine JL.buildSl 3 ((flInt .i64).kd) (([(-4)] : List Int) : List Int) [.int .i64 (-4)] false (closes_fl rfl) fun b204 => ?_
         refine JL.on 13 59 h203 ?_
         obtain ⟨t205, hc206, H0⟩ := bind_some H0
         refine JL.call [] [] [] (sample_Check.ok ([(-4)] : List Int) (some ⟨b204, 0, none⟩) 1 _ hc206) ⟨pre_view 4 (view_row (some ⟨b204, 0, none⟩) 1 3 ((flInt .i64).kd) ([(-4)] : List Int) false true), trivial⟩ ?_
         rintro _ _ ⟨rfl, rfl⟩
         refine JL.on 13 59 h203 ?_
         refine JL.pur (.bool (decide (t205 = 8))) (some 62) ?_
         refine JL.val (.bool (decide (t205 = 8))) (some 63) (gives_pickT h203) ?_
         refine JL.as (.bool (decide (t205 = 8))) ?_
         refine JL.end_ ?_
         refine JQ.then_normal ?_
         exact JQ.meet (decide (t205 = 8)) () H0 (fun _ h => Heap.to (Heap.pick [0] (by decide) h))
       · refine JL.off 13 59 true (some 60) h203 ?_
         refine JL.off 13 59 true (some 61) h203 ?_
         refine JL.off 13 59 true (some 62) h203 ?_
         refine JL.val (.bool false) (some 63) (gives_pickF h203) ?_
         refine JL.as (.bool false) ?_
         refine JL.end_ ?_
         refine JQ.then_normal ?_
         exact JQ.meet false () H0 (fun _ h => Heap.to (Heap.pick [0] (by decide) h))
     · refine JL.off 8 54 true (some 55) h199 ?_
       refine JL.off 8 54 true (some 56) h199 ?_
       refine JL.off 8 54 true (some 57) h199 ?_
       refine JL.val (.bool false) (some 58) (gives_pickF h199) ?_
       refine JL.mv (.bool false) ?_
       refine JL.off 13 59 true (some 60) rfl ?_
       refine JL.off 13 59 true (some 61) rfl ?_
       refine JL.off 13 59 true (some 62) rfl ?_
       refine JL.val (.bool false) (some 63) (gives_pickF rfl) ?_
       refine JL.as (.bool false) ?_
       refine JL.end_ ?_
       refine JQ.then_normal ?_
       exact JQ.meet false () H0 (fun _ h => Heap.to (Heap.pick [0] (by decide) h))
   · refine JL.off 3 49 true (some 50) h192 ?_
     refine JL.off 3 49 true (some 51) h192 ?_
     refine JL.off 3 49 true (some 52) h192 ?_
     refine JL.val (.bool false) (some 53) (gives_pickF h192) ?_
     refine JL.mv (.bool false) ?_
     refine JL.off 8 54 true (some 55) rfl ?_
     refine JL.off 8 54 true (some 56) rfl ?_
     refine JL.off 8 54 true (some 57) rfl ?_
     refine JL.val (.bool false) (some 58) (gives_pickF rfl) ?_
     refine JL.mv (.bool false) ?_
     refine JL.off 13 59 true (some 60) rfl ?_
     refine JL.off 13 59 true (some 61) rfl ?_
     refine JL.off 13 59 true (some 62) rfl ?_
     refine JL.val (.bool false) (some 63) (gives_pickF rfl) ?_
     refine JL.as (.bool false) ?_
     refine JL.end_ ?_
     refine JQ.then_normal ?_
     exact JQ.meet false () H0 (fun _ h => Heap.to (Heap.pick [0] (by decide) h))
 · clear H0
   rintro check23 ⟨⟩ H0
   replace H0 : law13_SampleNames.k1 check23 = some r := H0
   unfold law13_SampleNames.k1 at H0
   refine JQ.sub [(1, .pointer (some ⟨b1, 0, none⟩)), (2, .bool check23)] ?_
   refine JQ.turn (Δ' := [At.box b1 51 [.int .i64 1, .int .i64 1]]) (fun _ h => h.to) ?_
   refine J.seq ?_
   refine J.region ?_
   obtain ⟨⟨h25, h26, h27⟩, H0⟩ := ite_must H0
   refine JL.makeSl 3 ((flInt .i64).kd) (0 : Int) Try.underlying22 info_3 (fun _ _ => rfl) h25 h26 (by omega) (by omega) fun b24 => ?_
   obtain ⟨t28, hc29, H0⟩ := bind_some H0
   refine JL.call [] [] [] (sample_Take.ok (List.replicate (257 : Int).toNat (0 : Int)) (some ⟨b24, 0, none⟩) ((257 : Int).toNat) 1 _ hc29) ⟨pre_view 1 (view_row (some ⟨b24, 0, none⟩) ((257 : Int).toNat) 3 ((flInt .i64).kd) (List.replicate (257 : Int).toNat (0 : Int)) false true), trivial⟩ ?_
   rintro _ _ ⟨Aa30, c31, rfl, rfl⟩
   refine JL.mv (.tuple #[.slice Aa30 t28.1.length c31, .int .i64 t28.2]) ?_
   refine JL.pur (.slice Aa30 t28.1.length c31) (some 67) ?_
   refine JL.pur (.int .i64 t28.2) (some 68) ?_
   refine JL.as (.slice Aa30 t28.1.length c31) ?_
   refine JL.as (.int .i64 t28.2) ?_
   refine JL.end_ ?_
   refine JQ.then_normal ?_
   refine JQ.sub [(1, .pointer (some ⟨b1, 0, none⟩)), (2, .bool check23), (4, .int .i64 t28.2)] ?_
   refine JQ.mask [At.box b1 51 [.int .i64 1, .int .i64 1]] [true, false, false] ?_
   refine J.seq ?_
   refine J.region ?_
   refine JL.buildSl 3 ((flInt .i64).kd) (([1000001] : List Int) : List Int) [.int .i64 1000001] false (closes_fl rfl) fun b33 => ?_
   obtain ⟨t34, hc35, H0⟩ := bind_some H0
   refine JL.call [] [] [] (sample_Take.ok ([1000001] : List Int) (some ⟨b33, 0, none⟩) 1 1 _ hc35) ⟨pre_view 1 (view_row (some ⟨b33, 0, none⟩) 1 3 ((flInt .i64).kd) ([1000001] : List Int) false true), trivial⟩ ?_
   rintro _ _ ⟨Aa36, c37, rfl, rfl⟩
   refine JL.mv (.tuple #[.slice Aa36 t34.1.length c37, .int .i64 t34.2]) ?_
   refine JL.pur (.slice Aa36 t34.1.length c37) (some 72) ?_
   refine JL.pur (.int .i64 t34.2) (some 73) ?_
   refine JL.as (.slice Aa36 t34.1.length c37) ?_
   refine JL.as (.int .i64 t34.2) ?_
   refine JL.end_ ?_
   refine JQ.then_normal ?_
   refine JQ.sub [(1, .pointer (some ⟨b1, 0, none⟩)), (2, .bool check23), (4, .int .i64 t28.2), (6, .int .i64 t34.2)] ?_
   refine JQ.mask [At.box b1 51 [.int .i64 1, .int .i64 1]] [true, false, false] ?_
   refine J.seq ?_
   refine J.region ?_
   obtain ⟨t39, hc40, H0⟩ := bind_some H0
   refine JL.call [] [] [] (law13_given.ok _ hc40) trivial ?_
   rintro _ _ ⟨Aa41, c42, rfl, rfl⟩
   obtain ⟨t44, hc45, H0⟩ := bind_some H0
   refine JL.call [] [] [] (sample_Take.ok t39 Aa41 c42 0 _ hc45) ⟨pre_view 1 (view_row Aa41 c42 3 ((flInt .i64).kd) t39 false true), trivial⟩ ?_
   rintro _ _ ⟨Aa46, c47, rfl, rfl⟩
   refine JL.mv (.tuple #[.slice Aa46 t44.1.length c47, .int .i64 t44.2]) ?_
   refine JL.pur (.slice Aa46 t44.1.length c47) (some 77) ?_
   refine JL.pur (.int .i64 t44.2) (some 78) ?_
   refine JL.as (.slice Aa46 t44.1.length c47) ?_
   refine JL.as (.int .i64 t44.2) ?_
   refine JL.end_ ?_
   refine JQ.then_normal ?_
   refine JQ.sub [(1, .pointer (some ⟨b1, 0, none⟩)), (2, .bool check23), (4, .int .i64 t28.2), (6, .int .i64 t34.2), (8, .int .i64 t44.2)] ?_
   refine JQ.mask [At.box b1 51 [.int .i64 1, .int .i64 1]] [true, false, false] ?_
   refine J.seq ?_
   refine J.region ?_
   obtain ⟨t49, hc50, H0⟩ := bind_some H0
   refine JL.call [] [] [] (law13_given.ok _ hc50) trivial ?_
   rintro _ _ ⟨Aa51, c52, rfl, rfl⟩
   obtain ⟨t54, hc55, H0⟩ := bind_some H0
   refine JL.call [] [] [] (sample_Take.ok t49 Aa51 c52 1000001 _ hc55) ⟨pre_view 1 (view_row Aa51 c52 3 ((flInt .i64).kd) t49 false true), trivial⟩ ?_
   rintro _ _ ⟨Aa56, c57, rfl, rfl⟩
   refine JL.mv (.tuple #[.slice Aa56 t54.1.length c57, .int .i64 t54.2]) ?_
   refine JL.pur (.slice Aa56 t54.1.length c57) (some 82) ?_
   refine JL.pur (.int .i64 t54.2) (some 83) ?_
   refine JL.as (.slice Aa56 t54.1.length c57) ?_
   refine JL.as (.int .i64 t54.2) ?_
   refine JL.end_ ?_
   refine JQ.then_normal ?_
   refine JQ.sub [(1, .pointer (some ⟨b1, 0, none⟩)), (2, .bool check23), (4, .int .i64 t28.2), (6, .int .i64 t34.2), (8, .int .i64 t44.2), (10, .int .i64 t54.2)] ?_
   refine JQ.mask [At.box b1 51 [.int .i64 1, .int .i64 1]] [true, false, false] ?_
   refine J.seq ?_
   refine J.region ?_
   obtain ⟨t59, hc60, H0⟩ := bind_some H0
   refine JL.call [] [] [] (law13_given.ok _ hc60) trivial ?_
   rintro _ _ ⟨Aa61, c62, rfl, rfl⟩
   refine JL.pur (.agg #[.int .i64 2, .int .i64 1]) (some 86) ?_
   obtain ⟨t64, hc65, H0⟩ := bind_some H0
   refine JL.call [] [] [] (sample_Threshold.ok t59 Aa61 c62 (⟨2, 1⟩ : Frac) _ hc65) ⟨pre_view 1 (view_row Aa61 c62 3 ((flInt .i64).kd) t59 false true), trivial⟩ ?_
   rintro _ _ ⟨rfl, rfl⟩
   refine JL.mv (.tuple #[.int .i64 t64.1, .int .i64 t64.2]) ?_
   refine JL.pur (.int .i64 t64.1) (some 88) ?_
   refine JL.pur (.int .i64 t64.2) (some 89) ?_
   refine JL.as (.int .i64 t64.1) ?_
   refine JL.as (.int .i64 t64.2) ?_
   refine JL.end_ ?_
   refine JQ.then_normal ?_
   refine JQ.sub [(1, .pointer (some ⟨b1, 0, none⟩)), (2, .bool check23), (4, .int .i64 t28.2), (6, .int .i64 t34.2), (8, .int .i64 t44.2), (10, .int .i64 t54.2), (12, .int .i64 t64.2)] ?_
   refine JQ.mask [At.box b1 51 [.int .i64 1, .int .i64 1]] [true, false] ?_
   refine J.seq ?_
   refine J.region ?_
   obtain ⟨t66, hc67, H0⟩ := bind_some H0
   refine JL.call [] [] [] (law13_given.ok _ hc67) trivial ?_
   rintro _ _ ⟨Aa68, c69, rfl, rfl⟩
   refine JL.pur (.agg #[.int .i64 (-1), .int .i64 2]) (some 92) ?_
   obtain ⟨t71, hc72, H0⟩ := bind_some H0
   refine JL.call [] [] [] (sample_Threshold.ok t66 Aa68 c69 (⟨(-1), 2⟩ : Frac) _ hc72) ⟨pre_view 1 (view_row Aa68 c69 3 ((flInt .i64).kd) t66 false true), trivial⟩ ?_
   rintro _ _ ⟨rfl, rfl⟩
   refine JL.mv (.tuple #[.int .i64 t71.1, .int .i64 t71.2]) ?_
   refine JL.pur (.int .i64 t71.1) (some 94) ?_
   refine JL.pur (.int .i64 t71.2) (some 95) ?_
   refine JL.as (.int .i64 t71.1) ?_
   refine JL.as (.int .i64 t71.2) ?_
   refine JL.end_ ?_
   refine JQ.then_normal ?_
   refine JQ.sub [(1, .pointer (some ⟨b1, 0, none⟩)), (2, .bool check23), (4, .int .i64 t28.2), (6, .int .i64 t34.2), (8, .int .i64 t44.2), (10, .int .i64 t54.2), (12, .int .i64 t64.2), (14, .int .i64 t71.2)] ?_
   refine JQ.mask [At.box b1 51 [.int .i64 1, .int .i64 1]] [true, false] ?_
   refine J.seq ?_
   refine J.region ?_
   obtain ⟨t73, hc74, H0⟩ := bind_some H0
   refine JL.call [] [] [] (law13_given.ok _ hc74) trivial ?_
   rintro _ _ ⟨Aa75, c76, rfl, rfl⟩
   refine JL.pur (.agg #[.int .i64 2, .int .i64 4]) (some 98) ?_
   obtain ⟨t78, hc79, H0⟩ := bind_some H0
   refine JL.call [] [] [] (sample_Threshold.ok t73 Aa75 c76 (⟨2, 4⟩ : Frac) _ hc79) ⟨pre_view 1 (view_row Aa75 c76 3 ((flInt .i64).kd) t73 false true), trivial⟩ ?_
   rintro _ _ ⟨rfl, rfl⟩
   refine JL.mv (.tuple #[.int .i64 t78.1, .int .i64 t78.2]) ?_
   refine JL.pur (.int .i64 t78.1) (some 100) ?_
   refine JL.pur (.int .i64 t78.2) (some 101) ?_
   refine JL.as (.int .i64 t78.1) ?_
   refine JL.as (.int .i64 t78.2) ?_
   refine JL.end_ ?_
   refine JQ.then_normal ?_
   refine JQ.sub [(1, .pointer (some ⟨b1, 0, none⟩)), (2, .bool check23), (4, .int .i64 t28.2), (6, .int .i64 t34.2), (8, .int .i64 t44.2), (10, .int .i64 t54.2), (12, .int .i64 t64.2), (14, .int .i64 t71.2), (16, .int .i64 t78.2)] ?_
   refine JQ.mask [At.box b1 51 [.int .i64 1, .int .i64 1]] [true, false] ?_
   refine J.seq ?_
   refine J.region ?_
   refine JL.buildSl 3 ((flInt .i64).kd) (([1000000] : List Int) : List Int) [.int .i64 1000000] false (closes_fl rfl) fun b80 => ?_
   refine JL.val (.agg #[.int .i64 1, .int .i64 1]) (some 104) (yields_load_boxes 0 0 [.int .i64 1, .int .i64 1] (holds_box b1 51 [.int .i64 1, .int .i64 1]) tyAgg_51 tySize_51) ?_
   obtain ⟨t81, hc82, H0⟩ := bind_some H0
   refine JL.call [] [] [] (sample_Threshold.ok ([1000000] : List Int) (some ⟨b80, 0, none⟩) 1 (⟨1, 1⟩ : Frac) _ hc82) ⟨pre_view 1 (view_row (some ⟨b80, 0, none⟩) 1 3 ((flInt .i64).kd) ([1000000] : List Int) false true), trivial⟩ ?_
   rintro _ _ ⟨rfl, rfl⟩
   refine JL.mv (.tuple #[.int .i64 t81.1, .int .i64 t81.2]) ?_
   refine JL.pur (.int .i64 t81.1) (some 106) ?_
   refine JL.pur (.int .i64 t81.2) (some 107) ?_
   refine JL.as (.int .i64 t81.1) ?_
   refine JL.as (.int .i64 t81.2) ?_
   refine JL.end_ ?_
   refine JQ.then_normal ?_
   refine JQ.sub [(1, .pointer (some ⟨b1, 0, none⟩)), (2, .bool check23), (4, .int .i64 t28.2), (6, .int .i64 t34.2), (8, .int .i64 t44.2), (10, .int .i64 t54.2), (12, .int .i64 t64.2), (14, .int .i64 t71.2), (16, .int .i64 t78.2), (18, .int .i64 t81.2)] ?_
   refine JQ.mask [At.box b1 51 [.int .i64 1, .int .i64 1]] [true, false] ?_
   refine J.seq ?_
   refine J.region ?_
   refine JL.buildSl 3 ((flInt .i64).kd) (([(-999999)] : List Int) : List Int) [.int .i64 (-999999)] false (closes_fl rfl) fun b83 => ?_
   refine JL.val (.agg #[.int .i64 1, .int .i64 1]) (some 110) (yields_load_boxes 0 0 [.int .i64 1, .int .i64 1] (holds_box b1 51 [.int .i64 1, .int .i64 1]) tyAgg_51 tySize_51) ?_
   obtain ⟨t84, hc85, H0⟩ := bind_some H0
   refine JL.call [] [] [] (sample_Threshold.ok ([(-999999)] : List Int) (some ⟨b83, 0, none⟩) 1 (⟨1, 1⟩ : Frac) _ hc85) ⟨pre_view 1 (view_row (some ⟨b83, 0, none⟩) 1 3 ((flInt .i64).kd) ([(-999999)] : List Int) false true), trivial⟩ ?_
   rintro _ _ ⟨rfl, rfl⟩
   refine JL.mv (.tuple #[.int .i64 t84.1, .int .i64 t84.2]) ?_
   refine JL.pur (.int .i64 t84.1) (some 112) ?_
   refine JL.pur (.int .i64 t84.2) (some 113) ?_
   refine JL.as (.int .i64 t84.1) ?_
   refine JL.as (.int .i64 t84.2) ?_
   refine JL.end_ ?_
   refine JQ.then_normal ?_
   refine JQ.sub [(1, .pointer (some ⟨b1, 0, none⟩)), (2, .bool check23), (4, .int .i64 t28.2), (6, .int .i64 t34.2), (8, .int .i64 t44.2), (10, .int .i64 t54.2), (12, .int .i64 t64.2), (14, .int .i64 t71.2), (16, .int .i64 t78.2), (18, .int .i64 t81.2), (19, .int .i64 t84.1), (20, .int .i64 t84.2)] ?_
   refine JQ.mask [At.box b1 51 [.int .i64 1, .int .i64 1]] [true, false] ?_
   refine J.seq ?_
   refine J.region ?_
   obtain ⟨t86, hc87, H0⟩ := bind_some H0
   refine JL.call [] [] [] (law13_given.ok _ hc87) trivial ?_
   rintro _ _ ⟨Aa88, c89, rfl, rfl⟩
   refine JL.pur (.agg #[.int .i64 0, .int .i64 1]) (some 116) ?_
   obtain ⟨t91, hc92, H0⟩ := bind_some H0
   refine JL.call [] [] [] (sample_Threshold.ok t86 Aa88 c89 (⟨0, 1⟩ : Frac) _ hc92) ⟨pre_view 1 (view_row Aa88 c89 3 ((flInt .i64).kd) t86 false true), trivial⟩ ?_
   rintro _ _ ⟨rfl, rfl⟩
   refine JL.mv (.tuple #[.int .i64 t91.1, .int .i64 t91.2]) ?_
   refine JL.pur (.int .i64 t91.1) (some 118) ?_
   refine JL.pur (.int .i64 t91.2) (some 119) ?_
   refine JL.as (.int .i64 t91.1) ?_
   refine JL.as (.int .i64 t91.2) ?_
   refine JL.end_ ?_
   refine JQ.then_normal ?_
   refine JQ.sub [(1, .pointer (some ⟨b1, 0, none⟩)), (2, .bool check23), (4, .int .i64 t28.2), (6, .int .i64 t34.2), (8, .int .i64 t44.2), (10, .int .i64 t54.2), (12, .int .i64 t64.2), (14, .int .i64 t71.2), (16, .int .i64 t78.2), (18, .int .i64 t81.2), (19, .int .i64 t84.1), (20, .int .i64 t84.2), (21, .int .i64 t91.1), (22, .int .i64 t91.2)] ?_
   refine JQ.mask [At.box b1 51 [.int .i64 1, .int .i64 1]] [true, false] ?_
   refine J.seq ?_
   refine J.region ?_
   refine JL.val (.agg #[.int .i64 1, .int .i64 1]) (some 121) (yields_load_boxes 0 0 [.int .i64 1, .int .i64 1] (holds_box b1 51 [.int .i64 1, .int .i64 1]) tyAgg_51 tySize_51) ?_
   obtain ⟨t93, hc94, H0⟩ := bind_some H0
   refine JL.call [] [] [] (sample_Threshold.ok [] none 0 (⟨1, 1⟩ : Frac) _ hc94) ⟨.inl (rd_nil _ _ _ _), trivial⟩ ?_
   rintro _ _ ⟨rfl, rfl⟩
   refine JL.mv (.tuple #[.int .i64 t93.1, .int .i64 t93.2]) ?_
   refine JL.pur (.int .i64 t93.1) (some 123) ?_
   refine JL.pur (.int .i64 t93.2) (some 124) ?_
   refine JL.as (.int .i64 t93.1) ?_
   refine JL.as (.int .i64 t93.2) ?_
   refine JL.end_ ?_
   refine JQ.then_normal ?_
   refine JQ.sub [(2, .bool check23), (4, .int .i64 t28.2), (6, .int .i64 t34.2), (8, .int .i64 t44.2), (10, .int .i64 t54.2), (12, .int .i64 t64.2), (14, .int .i64 t71.2), (16, .int .i64 t78.2), (18, .int .i64 t81.2), (19, .int .i64 t84.1), (20, .int .i64 t84.2), (21, .int .i64 t91.1), (22, .int .i64 t91.2), (23, .int .i64 t93.1), (24, .int .i64 t93.2)] ?_
   refine JQ.mask [] [false] ?_
   refine J.seq ?_
   refine J.region ?_
   obtain ⟨t95, hc96, H0⟩ := bind_some H0
   refine JL.call [] [] [] (sample_Unpack.ok [] none 0 (-1) _ hc96) ⟨.inl (rd_nil _ _ _ _), trivial⟩ ?_
   rintro _ _ ⟨Aa97, c98, rfl, rfl⟩
   refine JL.mv (.tuple #[.slice Aa97 t95.1.length c98, .int .i64 t95.2]) ?_
   refine JL.pur (.slice Aa97 t95.1.length c98) (some 127) ?_
   refine JL.pur (.int .i64 t95.2) (some 128) ?_
   refine JL.as (.slice Aa97 t95.1.length c98) ?_
   refine JL.as (.int .i64 t95.2) ?_
   refine JL.end_ ?_
   refine JQ.then_normal ?_
   refine JQ.sub [(2, .bool check23), (4, .int .i64 t28.2), (6, .int .i64 t34.2), (8, .int .i64 t44.2), (10, .int .i64 t54.2), (12, .int .i64 t64.2), (14, .int .i64 t71.2), (16, .int .i64 t78.2), (18, .int .i64 t81.2), (19, .int .i64 t84.1), (20, .int .i64 t84.2), (21, .int .i64 t91.1), (22, .int .i64 t91.2), (23, .int .i64 t93.1), (24, .int .i64 t93.2), (26, .int .i64 t95.2)] ?_
   refine JQ.mask [] [false] ?_
   refine J.seq ?_
   refine J.region ?_
   obtain ⟨t100, hc101, H0⟩ := bind_some H0
   refine JL.call [] [] [] (sample_Unpack.ok [] none 0 257 _ hc101) ⟨.inl (rd_nil _ _ _ _), trivial⟩ ?_
   rintro _ _ ⟨Aa102, c103, rfl, rfl⟩
   refine JL.mv (.tuple #[.slice Aa102 t100.1.length c103, .int .i64 t100.2]) ?_
   refine JL.pur (.slice Aa102 t100.1.length c103) (some 131) ?_
   refine JL.pur (.int .i64 t100.2) (some 132) ?_
   refine JL.as (.slice Aa102 t100.1.length c103) ?_
   refine JL.as (.int .i64 t100.2) ?_
   refine JL.end_ ?_
   refine JQ.then_normal ?_
   refine JQ.sub [(2, .bool check23), (4, .int .i64 t28.2), (6, .int .i64 t34.2), (8, .int .i64 t44.2), (10, .int .i64 t54.2), (12, .int .i64 t64.2), (14, .int .i64 t71.2), (16, .int .i64 t78.2), (18, .int .i64 t81.2), (19, .int .i64 t84.1), (20, .int .i64 t84.2), (21, .int .i64 t91.1), (22, .int .i64 t91.2), (23, .int .i64 t93.1), (24, .int .i64 t93.2), (26, .int .i64 t95.2), (28, .int .i64 t100.2)] ?_
   refine JQ.mask [] [false] ?_
   refine J.seq ?_
   refine J.region ?_
   refine JL.buildSl 5 ((flInt .u8).kd) (([0] : List Int) : List Int) [.int .u8 0] false (closes_fl rfl) fun b105 => ?_
   refine JQ.turn (fun _ h => freeze_row 0 (some ⟨b105, 0, none⟩) 1 5 ((flInt .u8).kd) ([0] : List Int) false h) ?_
   obtain ⟨t106, hc107, H0⟩ := bind_some H0
   refine JL.call [] [] [] (sample_Unpack.ok ([0] : List Int) (some ⟨b105, 0, none⟩) 1 4 _ hc107) ⟨pre_any 0 (view_rd (some ⟨b105, 0, none⟩) 1 ((flInt .u8).kd) ([0] : List Int) false true), trivial⟩ ?_
   rintro _ _ ⟨Aa108, c109, rfl, rfl⟩
   refine JL.mv (.tuple #[.slice Aa108 t106.1.length c109, .int .i64 t106.2]) ?_
   refine JL.pur (.slice Aa108 t106.1.length c109) (some 136) ?_
   refine JL.pur (.int .i64 t106.2) (some 137) ?_
   refine JL.as (.slice Aa108 t106.1.length c109) ?_
   refine JL.as (.int .i64 t106.2) ?_
   refine JL.end_ ?_
   refine JQ.then_normal ?_
   refine JQ.sub [(2, .bool check23), (4, .int .i64 t28.2), (6, .int .i64 t34.2), (8, .int .i64 t44.2), (10, .int .i64 t54.2), (12, .int .i64 t64.2), (14, .int .i64 t71.2), (16, .int .i64 t78.2), (18, .int .i64 t81.2), (19, .int .i64 t84.1), (20, .int .i64 t84.2), (21, .int .i64 t91.1), (22, .int .i64 t91.2), (23, .int .i64 t93.1), (24, .int .i64 t93.2), (26, .int .i64 t95.2), (28, .int .i64 t100.2), (30, .int .i64 t106.2)] ?_
   refine JQ.mask [] [false, false] ?_
   refine J.seq ?_
   refine J.region ?_
   refine JL.buildSl 5 ((flInt .u8).kd) (([125] : List Int) : List Int) [.int .u8 125] false (closes_fl rfl) fun b111 => ?_
   refine JQ.turn (fun _ h => freeze_row 0 (some ⟨b111, 0, none⟩) 1 5 ((flInt .u8).kd) ([125] : List Int) false h) ?_
   obtain ⟨t112, hc113, H0⟩ := bind_some H0
   refine JL.call [] [] [] (sample_Unpack.ok ([125] : List Int) (some ⟨b111, 0, none⟩) 1 3 _ hc113) ⟨pre_any 0 (view_rd (some ⟨b111, 0, none⟩) 1 ((flInt .u8).kd) ([125] : List Int) false true), trivial⟩ ?_
   rintro _ _ ⟨Aa114, c115, rfl, rfl⟩
   refine JL.mv (.tuple #[.slice Aa114 t112.1.length c115, .int .i64 t112.2]) ?_
   refine JL.pur (.slice Aa114 t112.1.length c115) (some 141) ?_
   refine JL.pur (.int .i64 t112.2) (some 142) ?_
   refine JL.as (.slice Aa114 t112.1.length c115) ?_
   refine JL.as (.int .i64 t112.2) ?_
   refine JL.end_ ?_
   refine JQ.then_normal ?_
   refine JQ.sub [(2, .bool check23), (4, .int .i64 t28.2), (6, .int .i64 t34.2), (8, .int .i64 t44.2), (10, .int .i64 t54.2), (12, .int .i64 t64.2), (14, .int .i64 t71.2), (16, .int .i64 t78.2), (18, .int .i64 t81.2), (19, .int .i64 t84.1), (20, .int .i64 t84.2), (21, .int .i64 t91.1), (22, .int .i64 t91.2), (23, .int .i64 t93.1), (24, .int .i64 t93.2), (26, .int .i64 t95.2), (28, .int .i64 t100.2), (30, .int .i64 t106.2), (32, .int .i64 t112.2)] ?_
   refine JQ.mask [] [false, false] ?_
   refine J.seq ?_
   refine J.region ?_
   refine JL.buildSl 5 ((flInt .u8).kd) (([5] : List Int) : List Int) [.int .u8 5] false (closes_fl rfl) fun b117 => ?_
   refine JQ.turn (fun _ h => freeze_row 0 (some ⟨b117, 0, none⟩) 1 5 ((flInt .u8).kd) ([5] : List Int) false h) ?_
   obtain ⟨t118, hc119, H0⟩ := bind_some H0
   refine JL.call [] [] [] (sample_Unpack.ok ([5] : List Int) (some ⟨b117, 0, none⟩) 1 1 _ hc119) ⟨pre_any 0 (view_rd (some ⟨b117, 0, none⟩) 1 ((flInt .u8).kd) ([5] : List Int) false true), trivial⟩ ?_
   rintro _ _ ⟨Aa120, c121, rfl, rfl⟩
   refine JL.mv (.tuple #[.slice Aa120 t118.1.length c121, .int .i64 t118.2]) ?_
   refine JL.pur (.slice Aa120 t118.1.length c121) (some 146) ?_
   refine JL.pur (.int .i64 t118.2) (some 147) ?_
   refine JL.as (.slice Aa120 t118.1.length c121) ?_
   refine JL.as (.int .i64 t118.2) ?_
   refine JL.end_ ?_
   refine JQ.then_normal ?_
   refine JQ.sub [(2, .bool check23), (4, .int .i64 t28.2), (6, .int .i64 t34.2), (8, .int .i64 t44.2), (10, .int .i64 t54.2), (12, .int .i64 t64.2), (14, .int .i64 t71.2), (16, .int .i64 t78.2), (18, .int .i64 t81.2), (19, .int .i64 t84.1), (20, .int .i64 t84.2), (21, .int .i64 t91.1), (22, .int .i64 t91.2), (23, .int .i64 t93.1), (24, .int .i64 t93.2), (26, .int .i64 t95.2), (28, .int .i64 t100.2), (30, .int .i64 t106.2), (32, .int .i64 t112.2), (34, .int .i64 t118.2)] ?_
   refine JQ.mask [] [false, false] ?_
   refine J.seq ?_
   refine J.region ?_
   refine JL.buildSl 5 ((flInt .u8).kd) (([124, 1] : List Int) : List Int) [.int .u8 124, .int .u8 1] false (closes_fl rfl) fun b123 => ?_
   refine JQ.turn (fun _ h => freeze_row 0 (some ⟨b123, 0, none⟩) 2 5 ((flInt .u8).kd) ([124, 1] : List Int) false h) ?_
   obtain ⟨t124, hc125, H0⟩ := bind_some H0
   refine JL.call [] [] [] (sample_Unpack.ok ([124, 1] : List Int) (some ⟨b123, 0, none⟩) 2 4 _ hc125) ⟨pre_any 0 (view_rd (some ⟨b123, 0, none⟩) 2 ((flInt .u8).kd) ([124, 1] : List Int) false true), trivial⟩ ?_
   rintro _ _ ⟨Aa126, c127, rfl, rfl⟩
   refine JL.mv (.tuple #[.slice Aa126 t124.1.length c127, .int .i64 t124.2]) ?_
   refine JL.pur (.slice Aa126 t124.1.length c127) (some 151) ?_
   refine JL.pur (.int .i64 t124.2) (some 152) ?_
   refine JL.as (.slice Aa126 t124.1.length c127) ?_
   refine JL.as (.int .i64 t124.2) ?_
   refine JL.end_ ?_
   refine JQ.then_normal ?_
   refine JQ.sub [(2, .bool check23), (4, .int .i64 t28.2), (6, .int .i64 t34.2), (8, .int .i64 t44.2), (10, .int .i64 t54.2), (12, .int .i64 t64.2), (14, .int .i64 t71.2), (16, .int .i64 t78.2), (18, .int .i64 t81.2), (19, .int .i64 t84.1), (20, .int .i64 t84.2), (21, .int .i64 t91.1), (22, .int .i64 t91.2), (23, .int .i64 t93.1), (24, .int .i64 t93.2), (26, .int .i64 t95.2), (28, .int .i64 t100.2), (30, .int .i64 t106.2), (32, .int .i64 t112.2), (34, .int .i64 t118.2), (35, .slice Aa126 t124.1.length c127), (36, .int .i64 t124.2)] ?_
   refine JQ.mask [At.rd Aa126 c127 ((flInt .i64).kd) t124.1 true] [false, true] ?_
   refine J.seq ?_
   refine J.region ?_
   obtain ⟨t129, hc130, H0⟩ := bind_some H0
   refine JL.call [] [] [] (sample_Unpack.ok [] none 0 0 _ hc130) ⟨.inl (rd_nil _ _ _ _), trivial⟩ ?_
   rintro _ _ ⟨Aa131, c132, rfl, rfl⟩
   refine JL.mv (.tuple #[.slice Aa131 t129.1.length c132, .int .i64 t129.2]) ?_
   refine JL.pur (.slice Aa131 t129.1.length c132) (some 155) ?_
   refine JL.pur (.int .i64 t129.2) (some 156) ?_
   refine JL.as (.slice Aa131 t129.1.length c132) ?_
   refine JL.as (.int .i64 t129.2) ?_
   refine JL.end_ ?_
   refine JQ.then_normal ?_
   refine JQ.sub [(2, .bool check23), (4, .int .i64 t28.2), (6, .int .i64 t34.2), (8, .int .i64 t44.2), (10, .int .i64 t54.2), (12, .int .i64 t64.2), (14, .int .i64 t71.2), (16, .int .i64 t78.2), (18, .int .i64 t81.2), (19, .int .i64 t84.1), (20, .int .i64 t84.2), (21, .int .i64 t91.1), (22, .int .i64 t91.2), (23, .int .i64 t93.1), (24, .int .i64 t93.2), (26, .int .i64 t95.2), (28, .int .i64 t100.2), (30, .int .i64 t106.2), (32, .int .i64 t112.2), (34, .int .i64 t118.2), (35, .slice Aa126 t124.1.length c127), (36, .int .i64 t124.2), (37, .slice Aa131 t129.1.length c132), (38, .int .i64 t129.2)] ?_
   refine J.seq ?_
   refine J.region ?_
   refine JL.buildSl 3 ((flInt .i64).kd) (([(-1000000), 1000000, (-1)] : List Int) : List Int) [.int .i64 (-1000000), .int .i64 1000000, .int .i64 (-1)] false (closes_fl rfl) fun b134 => ?_
   obtain ⟨t135, hc136, H0⟩ := bind_some H0
   refine JL.call [] [] [] (sample_Take.ok ([(-1000000), 1000000, (-1)] : List Int) (some ⟨b134, 0, none⟩) 3 1000000 _ hc136) ⟨pre_view 2 (view_row (some ⟨b134, 0, none⟩) 3 3 ((flInt .i64).kd) ([(-1000000), 1000000, (-1)] : List Int) false true), trivial⟩ ?_
   rintro _ _ ⟨Aa137, c138, rfl, rfl⟩
   refine JL.mv (.tuple #[.slice Aa137 t135.1.length c138, .int .i64 t135.2]) ?_
   refine JL.pur (.slice Aa137 t135.1.length c138) (some 160) ?_
   refine JL.pur (.int .i64 t135.2) (some 161) ?_
   refine JL.as (.slice Aa137 t135.1.length c138) ?_
   refine JL.as (.int .i64 t135.2) ?_
   refine JL.end_ ?_
   refine JQ.then_normal ?_
   refine JQ.sub [(2, .bool check23), (4, .int .i64 t28.2), (6, .int .i64 t34.2), (8, .int .i64 t44.2), (10, .int .i64 t54.2), (12, .int .i64 t64.2), (14, .int .i64 t71.2), (16, .int .i64 t78.2), (18, .int .i64 t81.2), (19, .int .i64 t84.1), (20, .int .i64 t84.2), (21, .int .i64 t91.1), (22, .int .i64 t91.2), (23, .int .i64 t93.1), (24, .int .i64 t93.2), (26, .int .i64 t95.2), (28, .int .i64 t100.2), (30, .int .i64 t106.2), (32, .int .i64 t112.2), (34, .int .i64 t118.2), (35, .slice Aa126 t124.1.length c127), (36, .int .i64 t124.2), (37, .slice Aa131 t129.1.length c132), (38, .int .i64 t129.2), (39, .slice Aa137 t135.1.length c138), (40, .int .i64 t135.2)] ?_
   refine JQ.mask [At.rd Aa126 c127 ((flInt .i64).kd) t124.1 true, At.rd Aa131 c132 ((flInt .i64).kd) t129.1 true, At.row Aa137 c138 3 ((flInt .i64).kd) t135.1 false] [true, true, false, true] ?_
   refine J.seq ?_
   refine J.region ?_
   refine JL.buildSl 3 ((flInt .i64).kd) (([0, 1] : List Int) : List Int) [.int .i64 0, .int .i64 1] false (closes_fl rfl) fun b140 => ?_
   obtain ⟨t141, hc142, H0⟩ := bind_some H0
   refine JL.call [] [] [] (sample_Bits.ok ([0, 1] : List Int) (some ⟨b140, 0, none⟩) 2 _ hc142) ⟨pre_view 3 (view_row (some ⟨b140, 0, none⟩) 2 3 ((flInt .i64).kd) ([0, 1] : List Int) false true), trivial⟩ ?_
   rintro _ _ ⟨rfl, rfl⟩
   refine JL.mv (.tuple #[.int .i64 t141.1, .int .i64 t141.2]) ?_
   refine JL.pur (.int .i64 t141.1) (some 165) ?_
   refine JL.pur (.int .i64 t141.2) (some 166) ?_
   refine JL.as (.int .i64 t141.1) ?_
   refine JL.as (.int .i64 t141.2) ?_
   refine JL.end_ ?_
   refine JQ.then_normal ?_
   refine JQ.sub [(2, .bool check23), (4, .int .i64 t28.2), (6, .int .i64 t34.2), (8, .int .i64 t44.2), (10, .int .i64 t54.2), (12, .int .i64 t64.2), (14, .int .i64 t71.2), (16, .int .i64 t78.2), (18, .int .i64 t81.2), (19, .int .i64 t84.1), (20, .int .i64 t84.2), (21, .int .i64 t91.1), (22, .int .i64 t91.2), (23, .int .i64 t93.1), (24, .int .i64 t93.2), (26, .int .i64 t95.2), (28, .int .i64 t100.2), (30, .int .i64 t106.2), (32, .int .i64 t112.2), (34, .int .i64 t118.2), (35, .slice Aa126 t124.1.length c127), (36, .int .i64 t124.2), (37, .slice Aa131 t129.1.length c132), (38, .int .i64 t129.2), (39, .slice Aa137 t135.1.length c138), (40, .int .i64 t135.2), (41, .int .i64 t141.1), (42, .int .i64 t141.2)] ?_
   refine JQ.mask [At.rd Aa126 c127 ((flInt .i64).kd) t124.1 true, At.rd Aa131 c132 ((flInt .i64).kd) t129.1 true, At.row Aa137 c138 3 ((flInt .i64).kd) t135.1 false] [true, true, true, false] ?_
   refine J.seq ?_
   refine J.region ?_
   refine JL.buildSl 3 ((flInt .i64).kd) (([5] : List Int) : List Int) [.int .i64 5] false (closes_fl rfl) fun b143 => ?_
   obtain ⟨t144, hc145, H0⟩ := bind_some H0
   refine JL.call [] [] [] (sample_Pack.ok ([5] : List Int) (some ⟨b143, 0, none⟩) 1 _ hc145) ⟨pre_view 3 (view_row (some ⟨b143, 0, none⟩) 1 3 ((flInt .i64).kd) ([5] : List Int) false true), trivial⟩ ?_
   rintro _ _ ⟨Aa146, c147, rfl, rfl⟩
   refine JL.mv (.tuple #[.slice Aa146 t144.1.length c147, .int .i64 t144.2]) ?_
   refine JL.pur (.slice Aa146 t144.1.length c147) (some 170) ?_
   refine JL.pur (.int .i64 t144.2) (some 171) ?_
   refine JL.as (.slice Aa146 t144.1.length c147) ?_
   refine JL.as (.int .i64 t144.2) ?_
   refine JL.end_ ?_
   refine JQ.then_normal ?_
   refine JQ.sub [(2, .bool check23), (4, .int .i64 t28.2), (6, .int .i64 t34.2), (8, .int .i64 t44.2), (10, .int .i64 t54.2), (12, .int .i64 t64.2), (14, .int .i64 t71.2), (16, .int .i64 t78.2), (18, .int .i64 t81.2), (19, .int .i64 t84.1), (20, .int .i64 t84.2), (21, .int .i64 t91.1), (22, .int .i64 t91.2), (23, .int .i64 t93.1), (24, .int .i64 t93.2), (26, .int .i64 t95.2), (28, .int .i64 t100.2), (30, .int .i64 t106.2), (32, .int .i64 t112.2), (34, .int .i64 t118.2), (35, .slice Aa126 t124.1.length c127), (36, .int .i64 t124.2), (37, .slice Aa131 t129.1.length c132), (38, .int .i64 t129.2), (39, .slice Aa137 t135.1.length c138), (40, .int .i64 t135.2), (41, .int .i64 t141.1), (42, .int .i64 t141.2), (44, .int .i64 t144.2)] ?_
   refine JQ.mask [At.rd Aa126 c127 ((flInt .i64).kd) t124.1 true, At.rd Aa131 c132 ((flInt .i64).kd) t129.1 true, At.row Aa137 c138 3 ((flInt .i64).kd) t135.1 false] [true, true, true, false, false] ?_
   refine J.seq ?_
   refine J.region ?_
   refine JL.mv (.bool true) ?_
   refine JL.on 0 172 (rfl : (true) = true) ?_
   obtain ⟨t149, hc150, H0⟩ := bind_some H0
   refine JL.call [] [] [] (law13_alive.ok _ hc150) trivial ?_
   rintro _ _ ⟨rfl, rfl⟩
   refine JL.val (.bool t149) (some 174) (gives_pickT rfl) ?_
   refine JL.mv (.bool t149) ?_
   rcases ite_cases H0 with ⟨h151, H0⟩ | ⟨h151, H0⟩
   · refine JL.on 3 175 h151 ?_
     refine JL.mv (.bool check23) ?_
     refine JL.val (.bool check23) (some 177) (gives_pickT h151) ?_
     refine JL.mv (.bool check23) ?_
     rcases ite_cases H0 with ⟨h152, H0⟩ | ⟨h152, H0⟩
     · refine JL.on 6 178 h152 ?_
       refine JL.mv (.int .i64 t28.2) ?_
       refine JL.on 6 178 h152 ?_
       refine JL.pur (.bool (decide (t28.2 = 4))) (some 180) ?_
       refine JL.val (.bool (decide (t28.2 = 4))) (some 181) (gives_pickT h152) ?_
       refine JL.mv (.bool (decide (t28.2 = 4))) ?_
       rcases ite_cases H0 with ⟨h153, H0⟩ | ⟨h153, H0⟩
       · refine JL.on 10 182 h153 ?_
         refine JL.mv (.int .i64 t34.2) ?_
         refine JL.on 10 182 h153 ?_
         refine JL.pur (.bool (decide (t34.2 = 8))) (some 184) ?_
         refine JL.val (.bool (decide (t34.2 = 8))) (some 185) (gives_pickT h153) ?_
         refine JL.mv (.bool (decide (t34.2 = 8))) ?_
         rcases ite_cases H0 with ⟨h154, H0⟩ | ⟨h154, H0⟩
         · refine JL.on 14 186 h154 ?_
           refine JL.mv (.int .i64 t44.2) ?_
           refine JL.on 14 186 h154 ?_
           refine JL.pur (.bool (decide (t44.2 = 2))) (some 188) ?_
           refine JL.val (.bool (decide (t44.2 = 2))) (some 189) (gives_pickT h154) ?_
           refine JL.mv (.bool (decide (t44.2 = 2))) ?_
           rcases ite_cases H0 with ⟨h155, H0⟩ | ⟨h155, H0⟩
           · refine JL.on 18 190 h155 ?_
             refine JL.mv (.int .i64 t54.2) ?_
             refine JL.on 18 190 h155 ?_
             refine JL.pur (.bool (decide (t54.2 = 2))) (some 192) ?_
             refine JL.val (.bool (decide (t54.2 = 2))) (some 193) (gives_pickT h155) ?_
             refine JL.mv (.bool (decide (t54.2 = 2))) ?_
             rcases ite_cases H0 with ⟨h156, H0⟩ | ⟨h156, H0⟩
             · refine JL.on 22 194 h156 ?_
               refine JL.mv (.int .i64 t64.2) ?_
               refine JL.on 22 194 h156 ?_
               refine JL.pur (.bool (decide (t64.2 = 8))) (some 196) ?_
               refine JL.val (.bool (decide (t64.2 = 8))) (some 197) (gives_pickT h156) ?_
               refine JL.mv (.bool (decide (t64.2 = 8))) ?_
               rcases ite_cases H0 with ⟨h157, H0⟩ | ⟨h157, H0⟩
               · refine JL.on 26 198 h157 ?_
                 refine JL.mv (.int .i64 t71.2) ?_
                 refine JL.on 26 198 h157 ?_
                 refine JL.pur (.bool (decide (t71.2 = 8))) (some 200) ?_
                 refine JL.val (.bool (decide (t71.2 = 8))) (some 201) (gives_pickT h157) ?_
                 refine JL.mv (.bool (decide (t71.2 = 8))) ?_
                 rcases ite_cases H0 with ⟨h158, H0⟩ | ⟨h158, H0⟩
                 · refine JL.on 30 202 h158 ?_
                   refine JL.mv (.int .i64 t78.2) ?_
                   refine JL.on 30 202 h158 ?_
                   refine JL.pur (.bool (decide (t78.2 = 8))) (some 204) ?_
                   refine JL.val (.bool (decide (t78.2 = 8))) (some 205) (gives_pickT h158) ?_
                   refine JL.mv (.bool (decide (t78.2 = 8))) ?_
                   rcases ite_cases H0 with ⟨h159, H0⟩ | ⟨h159, H0⟩
                   · refine JL.on 34 206 h159 ?_
                     refine JL.mv (.int .i64 t81.2) ?_
                     refine JL.on 34 206 h159 ?_
                     refine JL.pur (.bool (decide (t81.2 = 6))) (some 208) ?_
                     refine JL.val (.bool (decide (t81.2 = 6))) (some 209) (gives_pickT h159) ?_
                     refine JL.mv (.bool (decide (t81.2 = 6))) ?_
                     rcases ite_cases H0 with ⟨h160, H0⟩ | ⟨h160, H0⟩
                     · refine JL.on 38 210 h160 ?_
                       refine JL.mv (.int .i64 t84.2) ?_
                       refine JL.on 38 210 h160 ?_
                       refine JL.pur (.bool (decide (t84.2 = 0))) (some 212) ?_
                       refine JL.val (.bool (decide (t84.2 = 0))) (some 213) (gives_pickT h160) ?_
                       refine JL.mv (.bool (decide (t84.2 = 0))) ?_
                       rcases ite_cases H0 with ⟨h161, H0⟩ | ⟨h161, H0⟩
                       · refine JL.on 42 214 h161 ?_
                         refine JL.mv (.int .i64 t84.1) ?_
                         refine JL.on 42 214 h161 ?_
                         refine JL.pur (.bool (decide (t84.1 = 1000000))) (some 216) ?_
                         refine JL.val (.bool (decide (t84.1 = 1000000))) (some 217) (gives_pickT h161) ?_
                         refine JL.mv (.bool (decide (t84.1 = 1000000))) ?_
                         rcases ite_cases H0 with ⟨h162, H0⟩ | ⟨h162, H0⟩
                         · refine JL.on 46 218 h162 ?_
                           refine JL.mv (.int .i64 t91.2) ?_
                           refine JL.on 46 218 h162 ?_
                           refine JL.pur (.bool (decide (t91.2 = 0))) (some 220) ?_
                           refine JL.val (.bool (decide (t91.2 = 0))) (some 221) (gives_pickT h162) ?_
                           refine JL.mv (.bool (decide (t91.2 = 0))) ?_
                           rcases ite_cases H0 with ⟨h163, H0⟩ | ⟨h163, H0⟩
                           · refine JL.on 50 222 h163 ?_
                             refine JL.mv (.int .i64 t91.1) ?_
                             refine JL.on 50 222 h163 ?_
                             refine JL.pur (.bool (decide (t91.1 = 1))) (some 224) ?_
                             refine JL.val (.bool (decide (t91.1 = 1))) (some 225) (gives_pickT h163) ?_
                             refine JL.mv (.bool (decide (t91.1 = 1))) ?_
                             rcases ite_cases H0 with ⟨h164, H0⟩ | ⟨h164, H0⟩
                             · refine JL.on 54 226 h164 ?_
                               refine JL.mv (.int .i64 t93.2) ?_
                               refine JL.on 54 226 h164 ?_
                               refine JL.pur (.bool (decide (t93.2 = 0))) (some 228) ?_
                               refine JL.val (.bool (decide (t93.2 = 0))) (some 229) (gives_pickT h164) ?_
                               refine JL.mv (.bool (decide (t93.2 = 0))) ?_
                               rcases ite_cases H0 with ⟨h165, H0⟩ | ⟨h165, H0⟩
                               · refine JL.on 58 230 h165 ?_
                                 refine JL.mv (.int .i64 t93.1) ?_
                                 refine JL.on 58 230 h165 ?_
                                 refine JL.pur (.bool (decide (t93.1 = 1))) (some 232) ?_
                                 refine JL.val (.bool (decide (t93.1 = 1))) (some 233) (gives_pickT h165) ?_
                                 refine JL.mv (.bool (decide (t93.1 = 1))) ?_
                                 rcases ite_cases H0 with ⟨h166, H0⟩ | ⟨h166, H0⟩
                                 · refine JL.on 62 234 h166 ?_
                                   refine JL.mv (.int .i64 t95.2) ?_
                                   refine JL.on 62 234 h166 ?_
                                   refine JL.pur (.bool (decide (t95.2 = 2))) (some 236) ?_
                                   refine JL.val (.bool (decide (t95.2 = 2))) (some 237) (gives_pickT h166) ?_
                                   refine JL.mv (.bool (decide (t95.2 = 2))) ?_
                                   rcases ite_cases H0 with ⟨h167, H0⟩ | ⟨h167, H0⟩
                                   · refine JL.on 66 238 h167 ?_
                                     refine JL.mv (.int .i64 t100.2) ?_
                                     refine JL.on 66 238 h167 ?_
                                     refine JL.pur (.bool (decide (t100.2 = 2))) (some 240) ?_
                                     refine JL.val (.bool (decide (t100.2 = 2))) (some 241) (gives_pickT h167) ?_
                                     refine JL.mv (.bool (decide (t100.2 = 2))) ?_
                                     rcases ite_cases H0 with ⟨h168, H0⟩ | ⟨h168, H0⟩
                                     · refine JL.on 70 242 h168 ?_
                                       refine JL.mv (.int .i64 t106.2) ?_
                                       refine JL.on 70 242 h168 ?_
                                       refine JL.pur (.bool (decide (t106.2 = 12))) (some 244) ?_
                                       refine JL.val (.bool (decide (t106.2 = 12))) (some 245) (gives_pickT h168) ?_
                                       refine JL.mv (.bool (decide (t106.2 = 12))) ?_
                                       rcases ite_cases H0 with ⟨h169, H0⟩ | ⟨h169, H0⟩
                                       · refine JL.on 74 246 h169 ?_
                                         refine JL.mv (.int .i64 t112.2) ?_
                                         refine JL.on 74 246 h169 ?_
                                         refine JL.pur (.bool (decide (t112.2 = 12))) (some 248) ?_
                                         refine JL.val (.bool (decide (t112.2 = 12))) (some 249) (gives_pickT h169) ?_
                                         refine JL.mv (.bool (decide (t112.2 = 12))) ?_
                                         rcases ite_cases H0 with ⟨h170, H0⟩ | ⟨h170, H0⟩
                                         · refine JL.on 78 250 h170 ?_
                                           refine JL.mv (.int .i64 t118.2) ?_
                                           refine JL.on 78 250 h170 ?_
                                           refine JL.pur (.bool (decide (t118.2 = 12))) (some 252) ?_
                                           refine JL.val (.bool (decide (t118.2 = 12))) (some 253) (gives_pickT h170) ?_
                                           refine JL.mv (.bool (decide (t118.2 = 12))) ?_
                                           rcases ite_cases H0 with ⟨h171, H0⟩ | ⟨h171, H0⟩
                                           · refine JL.on 82 254 h171 ?_
                                             refine JL.mv (.int .i64 t124.2) ?_
                                             refine JL.on 82 254 h171 ?_
                                             refine JL.pur (.bool (decide (t124.2 = 0))) (some 256) ?_
                                             refine JL.val (.bool (decide (t124.2 = 0))) (some 257) (gives_pickT h171) ?_
                                             refine JL.mv (.bool (decide (t124.2 = 0))) ?_
                                             rcases ite_cases H0 with ⟨h172, H0⟩ | ⟨h172, H0⟩
                                             · refine JL.on 86 258 h172 ?_
                                               refine JL.mv (.slice Aa126 t124.1.length c127) ?_
                                               refine JL.on 86 258 h172 ?_
                                               refine JL.buildSl 3 ((flInt .i64).kd) (([3, 3, 3, (-3)] : List Int) : List Int) [.int .i64 3, .int .i64 3, .int .i64 3, .int .i64 (-3)] false (closes_fl rfl) fun b173 => ?_
                                               refine JL.on 86 258 h172 ?_
                                               obtain ⟨t174, hc175, H0⟩ := bind_some H0
                                               refine JL.call [] [] [] (ref13_Same.ok t124.1 Aa126 c127 ([3, 3, 3, (-3)] : List Int) (some ⟨b173, 0, none⟩) 4 _ hc175) ⟨pre_any 0 (view_rd Aa126 c127 ((flInt .i64).kd) t124.1 true true), ⟨pre_view 3 (view_row (some ⟨b173, 0, none⟩) 4 3 ((flInt .i64).kd) ([3, 3, 3, (-3)] : List Int) false true), trivial⟩⟩ ?_
                                               rintro _ _ ⟨rfl, rfl⟩
                                               refine JL.val (.bool t174) (some 262) (gives_pickT h172) ?_
                                               refine JL.mv (.bool t174) ?_
                                               rcases ite_cases H0 with ⟨h176, H0⟩ | ⟨h176, H0⟩
                                               · refine JL.on 91 263 h176 ?_
                                                 refine JL.mv (.int .i64 t129.2) ?_
                                                 refine JL.on 91 263 h176 ?_
                                                 refine JL.pur (.bool (decide (t129.2 = 0))) (some 265) ?_
                                                 refine JL.val (.bool (decide (t129.2 = 0))) (some 266) (gives_pickT h176) ?_
                                                 refine JL.mv (.bool (decide (t129.2 = 0))) ?_
                                                 rcases ite_cases H0 with ⟨h177, H0⟩ | ⟨h177, H0⟩
                                                 · refine JL.on 95 267 h177 ?_
                                                   refine JL.mv (.slice Aa131 t129.1.length c132) ?_
                                                   refine JL.on 95 267 h177 ?_
                                                   refine JL.pur (.int .i64 (t129.1.length : Int)) (some 269) ?_
                                                   refine JL.on 95 267 h177 ?_
                                                   refine JL.pur (.bool (decide ((t129.1.length : Int) = 0))) (some 270) ?_
                                                   refine JL.val (.bool (decide ((t129.1.length : Int) = 0))) (some 271) (gives_pickT h177) ?_
                                                   refine JL.mv (.bool (decide ((t129.1.length : Int) = 0))) ?_
                                                   rcases ite_cases H0 with ⟨h178, H0⟩ | ⟨h178, H0⟩
                                                   · refine JL.on 100 272 h178 ?_
                                                     refine JL.mv (.int .i64 t135.2) ?_
                                                     refine JL.on 100 272 h178 ?_
                                                     refine JL.pur (.bool (decide (t135.2 = 0))) (some 274) ?_
                                                     refine JL.val (.bool (decide (t135.2 = 0))) (some 275) (gives_pickT h178) ?_
                                                     refine JL.mv (.bool (decide (t135.2 = 0))) ?_
                                                     rcases ite_cases H0 with ⟨h179, H0⟩ | ⟨h179, H0⟩
                                                     · refine JL.on 104 276 h179 ?_
                                                       refine JL.mv (.slice Aa137 t135.1.length c138) ?_
                                                       refine JL.on 104 276 h179 ?_
                                                       refine JL.buildSl 3 ((flInt .i64).kd) (([(-3), 3, (-1)] : List Int) : List Int) [.int .i64 (-3), .int .i64 3, .int .i64 (-1)] false (closes_fl rfl) fun b180 => ?_
                                                       refine JL.on 104 276 h179 ?_
                                                       obtain ⟨t181, hc182, H0⟩ := bind_some H0
                                                       refine JL.call [] [] [] (ref13_Same.ok t135.1 Aa137 c138 ([(-3), 3, (-1)] : List Int) (some ⟨b180, 0, none⟩) 3 _ hc182) ⟨pre_view 2 (view_row Aa137 c138 3 ((flInt .i64).kd) t135.1 false true), ⟨pre_view 4 (view_row (some ⟨b180, 0, none⟩) 3 3 ((flInt .i64).kd) ([(-3), 3, (-1)] : List Int) false true), trivial⟩⟩ ?_
                                                       rintro _ _ ⟨rfl, rfl⟩
                                                       refine JL.val (.bool t181) (some 280) (gives_pickT h179) ?_
                                                       refine JL.mv (.bool t181) ?_
                                                       rcases ite_cases H0 with ⟨h183, H0⟩ | ⟨h183, H0⟩
                                                       · refine JL.on 109 281 h183 ?_
                                                         refine JL.mv (.int .i64 t141.2) ?_
                                                         refine JL.on 109 281 h183 ?_
                                                         refine JL.pur (.bool (decide (t141.2 = 0))) (some 283) ?_
                                                         refine JL.val (.bool (decide (t141.2 = 0))) (some 284) (gives_pickT h183) ?_
                                                         refine JL.mv (.bool (decide (t141.2 = 0))) ?_
                                                         rcases ite_cases H0 with ⟨h184, H0⟩ | ⟨h184, H0⟩
                                                         · refine JL.on 113 285 h184 ?_
                                                           refine JL.mv (.int .i64 t141.1) ?_
                                                           refine JL.on 113 285 h184 ?_
                                                           refine JL.pur (.bool (decide (t141.1 = 1))) (some 287) ?_
                                                           refine JL.val (.bool (decide (t141.1 = 1))) (some 288) (gives_pickT h184) ?_
                                                           refine JL.mv (.bool (decide (t141.1 = 1))) ?_
                                                           rcases ite_cases H0 with ⟨h185, H0⟩ | ⟨h185, H0⟩
                                                           · refine JL.on 117 289 h185 ?_
                                                             refine JL.mv (.int .i64 t144.2) ?_
                                                             refine JL.on 117 289 h185 ?_
                                                             refine JL.pur (.bool (decide (t144.2 = 8))) (some 291) ?_
                                                             refine JL.val (.bool (decide (t144.2 = 8))) (some 292) (gives_pickT h185) ?_
                                                             refine JL.as (.bool (decide (t144.2 = 8))) ?_
                                                             refine JL.end_ ?_
                                                             refine JQ.then_normal ?_
                                                             refine JQ.sub [(0, .bool (decide (t144.2 = 8)))] ?_
                                                             refine JQ.mask [] [false, false, false, false, false] ?_
                                                             refine J.ret ?_
                                                             obtain rfl := Option.some.inj H0
                                                             exact JQ.done' (rs := [.tmp 0]) (vs := [.bool (decide (t144.2 = 8))]) [] (.inr rfl) ⟨by kernel_rfl, trivial⟩ (fun _ h => Heap.to h) ⟨rfl, rfl⟩
                                                           · refine JL.off 117 289 true (some 290) h185 ?_
                                                             refine JL.off 117 289 true (some 291) h185 ?_
                                                             refine JL.val (.bool false) (some 292) (gives_pickF h185) ?_
                                                             refine JL.as (.bool false) ?_
                                                             refine JL.end_ ?_
                                                             refine JQ.then_normal ?_
                                                             refine JQ.sub [(0, .bool false)] ?_
                                                             refine JQ.mask [] [false, false, false, false, false] ?_
                                                             refine J.ret ?_
                                                             obtain rfl := Option.some.inj H0
                                                             exact JQ.done' (rs := [.tmp 0]) (vs := [.bool false]) [] (.inr rfl) ⟨by kernel_rfl, trivial⟩ (fun _ h => Heap.to h) ⟨rfl, rfl⟩
                                                         · refine JL.off 113 285 true (some 286) h184 ?_
                                                           refine JL.off 113 285 true (some 287) h184 ?_
                                                           refine JL.val (.bool false) (some 288) (gives_pickF h184) ?_
                                                           refine JL.mv (.bool false) ?_
                                                           refine JL.off 117 289 true (some 290) rfl ?_
                                                           refine JL.off 117 289 true (some 291) rfl ?_
                                                           refine JL.val (.bool false) (some 292) (gives_pickF rfl) ?_
                                                           refine JL.as (.bool false) ?_
                                                           refine JL.end_ ?_
                                                           refine JQ.then_normal ?_
                                                           refine JQ.sub [(0, .bool false)] ?_
                                                           refine JQ.mask [] [false, false, false, false, false] ?_
                                                           refine J.ret ?_
                                                           obtain rfl := Option.some.inj H0
                                                           exact JQ.done' (rs := [.tmp 0]) (vs := [.bool false]) [] (.inr rfl) ⟨by kernel_rfl, trivial⟩ (fun _ h => Heap.to h) ⟨rfl, rfl⟩
                                                       · refine JL.off 109 281 true (some 282) h183 ?_
                                                         refine JL.off 109 281 true (some 283) h183 ?_
                                                         refine JL.val (.bool false) (some 284) (gives_pickF h183) ?_
                                                         refine JL.mv (.bool false) ?_
                                                         refine JL.off 113 285 true (some 286) rfl ?_
                                                         refine JL.off 113 285 true (some 287) rfl ?_
                                                         refine JL.val (.bool false) (some 288) (gives_pickF rfl) ?_
                                                         refine JL.mv (.bool false) ?_
                                                         refine JL.off 117 289 true (some 290) rfl ?_
                                                         refine JL.off 117 289 true (some 291) rfl ?_
                                                         refine JL.val (.bool false) (some 292) (gives_pickF rfl) ?_
                                                         refine JL.as (.bool false) ?_
                                                         refine JL.end_ ?_
                                                         refine JQ.then_normal ?_
                                                         refine JQ.sub [(0, .bool false)] ?_
                                                         refine JQ.mask [] [false, false, false, false, false] ?_
                                                         refine J.ret ?_
                                                         obtain rfl := Option.some.inj H0
                                                         exact JQ.done' (rs := [.tmp 0]) (vs := [.bool false]) [] (.inr rfl) ⟨by kernel_rfl, trivial⟩ (fun _ h => Heap.to h) ⟨rfl, rfl⟩
                                                     · refine JL.off 104 276 true (some 277) h179 ?_
                                                       refine JL.off 104 276 true (some 278) h179 ?_
                                                       refine JL.off 104 276 true (some 279) h179 ?_
                                                       refine JL.val (.bool false) (some 280) (gives_pickF h179) ?_
                                                       refine JL.mv (.bool false) ?_
                                                       refine JL.off 109 281 true (some 282) rfl ?_
                                                       refine JL.off 109 281 true (some 283) rfl ?_
                                                       refine JL.val (.bool false) (some 284) (gives_pickF rfl) ?_
                                                       refine JL.mv (.bool false) ?_
                                                       refine JL.off 113 285 true (some 286) rfl ?_
                                                       refine JL.off 113 285 true (some 287) rfl ?_
                                                       refine JL.val (.bool false) (some 288) (gives_pickF rfl) ?_
                                                       refine JL.mv (.bool false) ?_
                                                       refine JL.off 117 289 true (some 290) rfl ?_
                                                       refine JL.off 117 289 true (some 291) rfl ?_
                                                       refine JL.val (.bool false) (some 292) (gives_pickF rfl) ?_
                                                       refine JL.as (.bool false) ?_
                                                       refine JL.end_ ?_
                                                       refine JQ.then_normal ?_
                                                       refine JQ.sub [(0, .bool false)] ?_
                                                       refine JQ.mask [] [false, false, false, false] ?_
                                                       refine J.ret ?_
                                                       obtain rfl := Option.some.inj H0
                                                       exact JQ.done' (rs := [.tmp 0]) (vs := [.bool false]) [] (.inr rfl) ⟨by kernel_rfl, trivial⟩ (fun _ h => Heap.to h) ⟨rfl, rfl⟩
                                                   · refine JL.off 100 272 true (some 273) h178 ?_
                                                     refine JL.off 100 272 true (some 274) h178 ?_
                                                     refine JL.val (.bool false) (some 275) (gives_pickF h178) ?_
                                                     refine JL.mv (.bool false) ?_
                                                     refine JL.off 104 276 true (some 277) rfl ?_
                                                     refine JL.off 104 276 true (some 278) rfl ?_
                                                     refine JL.off 104 276 true (some 279) rfl ?_
                                                     refine JL.val (.bool false) (some 280) (gives_pickF rfl) ?_
                                                     refine JL.mv (.bool false) ?_
                                                     refine JL.off 109 281 true (some 282) rfl ?_
                                                     refine JL.off 109 281 true (some 283) rfl ?_
                                                     refine JL.val (.bool false) (some 284) (gives_pickF rfl) ?_
                                                     refine JL.mv (.bool false) ?_
                                                     refine JL.off 113 285 true (some 286) rfl ?_
                                                     refine JL.off 113 285 true (some 287) rfl ?_
                                                     refine JL.val (.bool false) (some 288) (gives_pickF rfl) ?_
                                                     refine JL.mv (.bool false) ?_
                                                     refine JL.off 117 289 true (some 290) rfl ?_
                                                     refine JL.off 117 289 true (some 291) rfl ?_
                                                     refine JL.val (.bool false) (some 292) (gives_pickF rfl) ?_
                                                     refine JL.as (.bool false) ?_
                                                     refine JL.end_ ?_
                                                     refine JQ.then_normal ?_
                                                     refine JQ.sub [(0, .bool false)] ?_
                                                     refine JQ.mask [] [false, false, false, false] ?_
                                                     refine J.ret ?_
                                                     obtain rfl := Option.some.inj H0
                                                     exact JQ.done' (rs := [.tmp 0]) (vs := [.bool false]) [] (.inr rfl) ⟨by kernel_rfl, trivial⟩ (fun _ h => Heap.to h) ⟨rfl, rfl⟩
                                                 · refine JL.off 95 267 true (some 268) h177 ?_
                                                   refine JL.off 95 267 true (some 269) h177 ?_
                                                   refine JL.off 95 267 true (some 270) h177 ?_
                                                   refine JL.val (.bool false) (some 271) (gives_pickF h177) ?_
                                                   refine JL.mv (.bool false) ?_
                                                   refine JL.off 100 272 true (some 273) rfl ?_
                                                   refine JL.off 100 272 true (some 274) rfl ?_
                                                   refine JL.val (.bool false) (some 275) (gives_pickF rfl) ?_
                                                   refine JL.mv (.bool false) ?_
                                                   refine JL.off 104 276 true (some 277) rfl ?_
                                                   refine JL.off 104 276 true (some 278) rfl ?_
                                                   refine JL.off 104 276 true (some 279) rfl ?_
                                                   refine JL.val (.bool false) (some 280) (gives_pickF rfl) ?_
                                                   refine JL.mv (.bool false) ?_
                                                   refine JL.off 109 281 true (some 282) rfl ?_
                                                   refine JL.off 109 281 true (some 283) rfl ?_
                                                   refine JL.val (.bool false) (some 284) (gives_pickF rfl) ?_
                                                   refine JL.mv (.bool false) ?_
                                                   refine JL.off 113 285 true (some 286) rfl ?_
                                                   refine JL.off 113 285 true (some 287) rfl ?_
                                                   refine JL.val (.bool false) (some 288) (gives_pickF rfl) ?_
                                                   refine JL.mv (.bool false) ?_
                                                   refine JL.off 117 289 true (some 290) rfl ?_
                                                   refine JL.off 117 289 true (some 291) rfl ?_
                                                   refine JL.val (.bool false) (some 292) (gives_pickF rfl) ?_
                                                   refine JL.as (.bool false) ?_
                                                   refine JL.end_ ?_
                                                   refine JQ.then_normal ?_
                                                   refine JQ.sub [(0, .bool false)] ?_
                                                   refine JQ.mask [] [false, false, false, false] ?_
                                                   refine J.ret ?_
                                                   obtain rfl := Option.some.inj H0
                                                   exact JQ.done' (rs := [.tmp 0]) (vs := [.bool false]) [] (.inr rfl) ⟨by kernel_rfl, trivial⟩ (fun _ h => Heap.to h) ⟨rfl, rfl⟩
                                               · refine JL.off 91 263 true (some 264) h176 ?_
                                                 refine JL.off 91 263 true (some 265) h176 ?_
                                                 refine JL.val (.bool false) (some 266) (gives_pickF h176) ?_
                                                 refine JL.mv (.bool false) ?_
                                                 refine JL.off 95 267 true (some 268) rfl ?_
                                                 refine JL.off 95 267 true (some 269) rfl ?_
                                                 refine JL.off 95 267 true (some 270) rfl ?_
                                                 refine JL.val (.bool false) (some 271) (gives_pickF rfl) ?_
                                                 refine JL.mv (.bool false) ?_
                                                 refine JL.off 100 272 true (some 273) rfl ?_
                                                 refine JL.off 100 272 true (some 274) rfl ?_
                                                 refine JL.val (.bool false) (some 275) (gives_pickF rfl) ?_
                                                 refine JL.mv (.bool false) ?_
                                                 refine JL.off 104 276 true (some 277) rfl ?_
                                                 refine JL.off 104 276 true (some 278) rfl ?_
                                                 refine JL.off 104 276 true (some 279) rfl ?_
                                                 refine JL.val (.bool false) (some 280) (gives_pickF rfl) ?_
                                                 refine JL.mv (.bool false) ?_
                                                 refine JL.off 109 281 true (some 282) rfl ?_
                                                 refine JL.off 109 281 true (some 283) rfl ?_
                                                 refine JL.val (.bool false) (some 284) (gives_pickF rfl) ?_
                                                 refine JL.mv (.bool false) ?_
                                                 refine JL.off 113 285 true (some 286) rfl ?_
                                                 refine JL.off 113 285 true (some 287) rfl ?_
                                                 refine JL.val (.bool false) (some 288) (gives_pickF rfl) ?_
                                                 refine JL.mv (.bool false) ?_
                                                 refine JL.off 117 289 true (some 290) rfl ?_
                                                 refine JL.off 117 289 true (some 291) rfl ?_
                                                 refine JL.val (.bool false) (some 292) (gives_pickF rfl) ?_
                                                 refine JL.as (.bool false) ?_
                                                 refine JL.end_ ?_
                                                 refine JQ.then_normal ?_
                                                 refine JQ.sub [(0, .bool false)] ?_
                                                 refine JQ.mask [] [false, false, false, false] ?_
                                                 refine J.ret ?_
                                                 obtain rfl := Option.some.inj H0
                                                 exact JQ.done' (rs := [.tmp 0]) (vs := [.bool false]) [] (.inr rfl) ⟨by kernel_rfl, trivial⟩ (fun _ h => Heap.to h) ⟨rfl, rfl⟩
                                             · refine JL.off 86 258 true (some 259) h172 ?_
                                               refine JL.off 86 258 true (some 260) h172 ?_
                                               refine JL.off 86 258 true (some 261) h172 ?_
                                               refine JL.val (.bool false) (some 262) (gives_pickF h172) ?_
                                               refine JL.mv (.bool false) ?_
                                               refine JL.off 91 263 true (some 264) rfl ?_
                                               refine JL.off 91 263 true (some 265) rfl ?_
                                               refine JL.val (.bool false) (some 266) (gives_pickF rfl) ?_
                                               refine JL.mv (.bool false) ?_
                                               refine JL.off 95 267 true (some 268) rfl ?_
                                               refine JL.off 95 267 true (some 269) rfl ?_
                                               refine JL.off 95 267 true (some 270) rfl ?_
                                               refine JL.val (.bool false) (some 271) (gives_pickF rfl) ?_
                                               refine JL.mv (.bool false) ?_
                                               refine JL.off 100 272 true (some 273) rfl ?_
                                               refine JL.off 100 272 true (some 274) rfl ?_
                                               refine JL.val (.bool false) (some 275) (gives_pickF rfl) ?_
                                               refine JL.mv (.bool false) ?_
                                               refine JL.off 104 276 true (some 277) rfl ?_
                                               refine JL.off 104 276 true (some 278) rfl ?_
                                               refine JL.off 104 276 true (some 279) rfl ?_
                                               refine JL.val (.bool false) (some 280) (gives_pickF rfl) ?_
                                               refine JL.mv (.bool false) ?_
                                               refine JL.off 109 281 true (some 282) rfl ?_
                                               refine JL.off 109 281 true (some 283) rfl ?_
                                               refine JL.val (.bool false) (some 284) (gives_pickF rfl) ?_
                                               refine JL.mv (.bool false) ?_
                                               refine JL.off 113 285 true (some 286) rfl ?_
                                               refine JL.off 113 285 true (some 287) rfl ?_
                                               refine JL.val (.bool false) (some 288) (gives_pickF rfl) ?_
                                               refine JL.mv (.bool false) ?_
                                               refine JL.off 117 289 true (some 290) rfl ?_
                                               refine JL.off 117 289 true (some 291) rfl ?_
                                               refine JL.val (.bool false) (some 292) (gives_pickF rfl) ?_
                                               refine JL.as (.bool false) ?_
                                               refine JL.end_ ?_
                                               refine JQ.then_normal ?_
                                               refine JQ.sub [(0, .bool false)] ?_
                                               refine JQ.mask [] [false, false, false] ?_
                                               refine J.ret ?_
                                               obtain rfl := Option.some.inj H0
                                               exact JQ.done' (rs := [.tmp 0]) (vs := [.bool false]) [] (.inr rfl) ⟨by kernel_rfl, trivial⟩ (fun _ h => Heap.to h) ⟨rfl, rfl⟩
                                           · refine JL.off 82 254 true (some 255) h171 ?_
                                             refine JL.off 82 254 true (some 256) h171 ?_
                                             refine JL.val (.bool false) (some 257) (gives_pickF h171) ?_
                                             refine JL.mv (.bool false) ?_
                                             refine JL.off 86 258 true (some 259) rfl ?_
                                             refine JL.off 86 258 true (some 260) rfl ?_
                                             refine JL.off 86 258 true (some 261) rfl ?_
                                             refine JL.val (.bool false) (some 262) (gives_pickF rfl) ?_
                                             refine JL.mv (.bool false) ?_
                                             refine JL.off 91 263 true (some 264) rfl ?_
                                             refine JL.off 91 263 true (some 265) rfl ?_
                                             refine JL.val (.bool false) (some 266) (gives_pickF rfl) ?_
                                             refine JL.mv (.bool false) ?_
                                             refine JL.off 95 267 true (some 268) rfl ?_
                                             refine JL.off 95 267 true (some 269) rfl ?_
                                             refine JL.off 95 267 true (some 270) rfl ?_
                                             refine JL.val (.bool false) (some 271) (gives_pickF rfl) ?_
                                             refine JL.mv (.bool false) ?_
                                             refine JL.off 100 272 true (some 273) rfl ?_
                                             refine JL.off 100 272 true (some 274) rfl ?_
                                             refine JL.val (.bool false) (some 275) (gives_pickF rfl) ?_
                                             refine JL.mv (.bool false) ?_
                                             refine JL.off 104 276 true (some 277) rfl ?_
                                             refine JL.off 104 276 true (some 278) rfl ?_
                                             refine JL.off 104 276 true (some 279) rfl ?_
                                             refine JL.val (.bool false) (some 280) (gives_pickF rfl) ?_
                                             refine JL.mv (.bool false) ?_
                                             refine JL.off 109 281 true (some 282) rfl ?_
                                             refine JL.off 109 281 true (some 283) rfl ?_
                                             refine JL.val (.bool false) (some 284) (gives_pickF rfl) ?_
                                             refine JL.mv (.bool false) ?_
                                             refine JL.off 113 285 true (some 286) rfl ?_
                                             refine JL.off 113 285 true (some 287) rfl ?_
                                             refine JL.val (.bool false) (some 288) (gives_pickF rfl) ?_
                                             refine JL.mv (.bool false) ?_
                                             refine JL.off 117 289 true (some 290) rfl ?_
                                             refine JL.off 117 289 true (some 291) rfl ?_
                                             refine JL.val (.bool false) (some 292) (gives_pickF rfl) ?_
                                             refine JL.as (.bool false) ?_
                                             refine JL.end_ ?_
                                             refine JQ.then_normal ?_
                                             refine JQ.sub [(0, .bool false)] ?_
                                             refine JQ.mask [] [false, false, false] ?_
                                             refine J.ret ?_
                                             obtain rfl := Option.some.inj H0
                                             exact JQ.done' (rs := [.tmp 0]) (vs := [.bool false]) [] (.inr rfl) ⟨by kernel_rfl, trivial⟩ (fun _ h => Heap.to h) ⟨rfl, rfl⟩
                                         · refine JL.off 78 250 true (some 251) h170 ?_
                                           refine JL.off 78 250 true (some 252) h170 ?_
                                           refine JL.val (.bool false) (some 253) (gives_pickF h170) ?_
                                           refine JL.mv (.bool false) ?_
                                           refine JL.off 82 254 true (some 255) rfl ?_
                                           refine JL.off 82 254 true (some 256) rfl ?_
                                           refine JL.val (.bool false) (some 257) (gives_pickF rfl) ?_
                                           refine JL.mv (.bool false) ?_
                                           refine JL.off 86 258 true (some 259) rfl ?_
                                           refine JL.off 86 258 true (some 260) rfl ?_
                                           refine JL.off 86 258 true (some 261) rfl ?_
                                           refine JL.val (.bool false) (some 262) (gives_pickF rfl) ?_
                                           refine JL.mv (.bool false) ?_
                                           refine JL.off 91 263 true (some 264) rfl ?_
                                           refine JL.off 91 263 true (some 265) rfl ?_
                                           refine JL.val (.bool false) (some 266) (gives_pickF rfl) ?_
                                           refine JL.mv (.bool false) ?_
                                           refine JL.off 95 267 true (some 268) rfl ?_
                                           refine JL.off 95 267 true (some 269) rfl ?_
                                           refine JL.off 95 267 true (some 270) rfl ?_
                                           refine JL.val (.bool false) (some 271) (gives_pickF rfl) ?_
                                           refine JL.mv (.bool false) ?_
                                           refine JL.off 100 272 true (some 273) rfl ?_
                                           refine JL.off 100 272 true (some 274) rfl ?_
                                           refine JL.val (.bool false) (some 275) (gives_pickF rfl) ?_
                                           refine JL.mv (.bool false) ?_
                                           refine JL.off 104 276 true (some 277) rfl ?_
                                           refine JL.off 104 276 true (some 278) rfl ?_
                                           refine JL.off 104 276 true (some 279) rfl ?_
                                           refine JL.val (.bool false) (some 280) (gives_pickF rfl) ?_
                                           refine JL.mv (.bool false) ?_
                                           refine JL.off 109 281 true (some 282) rfl ?_
                                           refine JL.off 109 281 true (some 283) rfl ?_
                                           refine JL.val (.bool false) (some 284) (gives_pickF rfl) ?_
                                           refine JL.mv (.bool false) ?_
                                           refine JL.off 113 285 true (some 286) rfl ?_
                                           refine JL.off 113 285 true (some 287) rfl ?_
                                           refine JL.val (.bool false) (some 288) (gives_pickF rfl) ?_
                                           refine JL.mv (.bool false) ?_
                                           refine JL.off 117 289 true (some 290) rfl ?_
                                           refine JL.off 117 289 true (some 291) rfl ?_
                                           refine JL.val (.bool false) (some 292) (gives_pickF rfl) ?_
                                           refine JL.as (.bool false) ?_
                                           refine JL.end_ ?_
                                           refine JQ.then_normal ?_
                                           refine JQ.sub [(0, .bool false)] ?_
                                           refine JQ.mask [] [false, false, false] ?_
                                           refine J.ret ?_
                                           obtain rfl := Option.some.inj H0
                                           exact JQ.done' (rs := [.tmp 0]) (vs := [.bool false]) [] (.inr rfl) ⟨by kernel_rfl, trivial⟩ (fun _ h => Heap.to h) ⟨rfl, rfl⟩
                                       · refine JL.off 74 246 true (some 247) h169 ?_
                                         refine JL.off 74 246 true (some 248) h169 ?_
                                         refine JL.val (.bool false) (some 249) (gives_pickF h169) ?_
                                         refine JL.mv (.bool false) ?_
                                         refine JL.off 78 250 true (some 251) rfl ?_
                                         refine JL.off 78 250 true (some 252) rfl ?_
                                         refine JL.val (.bool false) (some 253) (gives_pickF rfl) ?_
                                         refine JL.mv (.bool false) ?_
                                         refine JL.off 82 254 true (some 255) rfl ?_
                                         refine JL.off 82 254 true (some 256) rfl ?_
                                         refine JL.val (.bool false) (some 257) (gives_pickF rfl) ?_
                                         refine JL.mv (.bool false) ?_
                                         refine JL.off 86 258 true (some 259) rfl ?_
                                         refine JL.off 86 258 true (some 260) rfl ?_
                                         refine JL.off 86 258 true (some 261) rfl ?_
                                         refine JL.val (.bool false) (some 262) (gives_pickF rfl) ?_
                                         refine JL.mv (.bool false) ?_
                                         refine JL.off 91 263 true (some 264) rfl ?_
                                         refine JL.off 91 263 true (some 265) rfl ?_
                                         refine JL.val (.bool false) (some 266) (gives_pickF rfl) ?_
                                         refine JL.mv (.bool false) ?_
                                         refine JL.off 95 267 true (some 268) rfl ?_
                                         refine JL.off 95 267 true (some 269) rfl ?_
                                         refine JL.off 95 267 true (some 270) rfl ?_
                                         refine JL.val (.bool false) (some 271) (gives_pickF rfl) ?_
                                         refine JL.mv (.bool false) ?_
                                         refine JL.off 100 272 true (some 273) rfl ?_
                                         refine JL.off 100 272 true (some 274) rfl ?_
                                         refine JL.val (.bool false) (some 275) (gives_pickF rfl) ?_
                                         refine JL.mv (.bool false) ?_
                                         refine JL.off 104 276 true (some 277) rfl ?_
                                         refine JL.off 104 276 true (some 278) rfl ?_
                                         refine JL.off 104 276 true (some 279) rfl ?_
                                         refine JL.val (.bool false) (some 280) (gives_pickF rfl) ?_
                                         refine JL.mv (.bool false) ?_
                                         refine JL.off 109 281 true (some 282) rfl ?_
                                         refine JL.off 109 281 true (some 283) rfl ?_
                                         refine JL.val (.bool false) (some 284) (gives_pickF rfl) ?_
                                         refine JL.mv (.bool false) ?_
                                         refine JL.off 113 285 true (some 286) rfl ?_
                                         refine JL.off 113 285 true (some 287) rfl ?_
                                         refine JL.val (.bool false) (some 288) (gives_pickF rfl) ?_
                                         refine JL.mv (.bool false) ?_
                                         refine JL.off 117 289 true (some 290) rfl ?_
                                         refine JL.off 117 289 true (some 291) rfl ?_
                                         refine JL.val (.bool false) (some 292) (gives_pickF rfl) ?_
                                         refine JL.as (.bool false) ?_
                                         refine JL.end_ ?_
                                         refine JQ.then_normal ?_
                                         refine JQ.sub [(0, .bool false)] ?_
                                         refine JQ.mask [] [false, false, false] ?_
                                         refine J.ret ?_
                                         obtain rfl := Option.some.inj H0
                                         exact JQ.done' (rs := [.tmp 0]) (vs := [.bool false]) [] (.inr rfl) ⟨by kernel_rfl, trivial⟩ (fun _ h => Heap.to h) ⟨rfl, rfl⟩
                                     · refine JL.off 70 242 true (some 243) h168 ?_
                                       refine JL.off 70 242 true (some 244) h168 ?_
                                       refine JL.val (.bool false) (some 245) (gives_pickF h168) ?_
                                       refine JL.mv (.bool false) ?_
                                       refine JL.off 74 246 true (some 247) rfl ?_
                                       refine JL.off 74 246 true (some 248) rfl ?_
                                       refine JL.val (.bool false) (some 249) (gives_pickF rfl) ?_
                                       refine JL.mv (.bool false) ?_
                                       refine JL.off 78 250 true (some 251) rfl ?_
                                       refine JL.off 78 250 true (some 252) rfl ?_
                                       refine JL.val (.bool false) (some 253) (gives_pickF rfl) ?_
                                       refine JL.mv (.bool false) ?_
                                       refine JL.off 82 254 true (some 255) rfl ?_
                                       refine JL.off 82 254 true (some 256) rfl ?_
                                       refine JL.val (.bool false) (some 257) (gives_pickF rfl) ?_
                                       refine JL.mv (.bool false) ?_
                                       refine JL.off 86 258 true (some 259) rfl ?_
                                       refine JL.off 86 258 true (some 260) rfl ?_
                                       refine JL.off 86 258 true (some 261) rfl ?_
                                       refine JL.val (.bool false) (some 262) (gives_pickF rfl) ?_
                                       refine JL.mv (.bool false) ?_
                                       refine JL.off 91 263 true (some 264) rfl ?_
                                       refine JL.off 91 263 true (some 265) rfl ?_
                                       refine JL.val (.bool false) (some 266) (gives_pickF rfl) ?_
                                       refine JL.mv (.bool false) ?_
                                       refine JL.off 95 267 true (some 268) rfl ?_
                                       refine JL.off 95 267 true (some 269) rfl ?_
                                       refine JL.off 95 267 true (some 270) rfl ?_
                                       refine JL.val (.bool false) (some 271) (gives_pickF rfl) ?_
                                       refine JL.mv (.bool false) ?_
                                       refine JL.off 100 272 true (some 273) rfl ?_
                                       refine JL.off 100 272 true (some 274) rfl ?_
                                       refine JL.val (.bool false) (some 275) (gives_pickF rfl) ?_
                                       refine JL.mv (.bool false) ?_
                                       refine JL.off 104 276 true (some 277) rfl ?_
                                       refine JL.off 104 276 true (some 278) rfl ?_
                                       refine JL.off 104 276 true (some 279) rfl ?_
                                       refine JL.val (.bool false) (some 280) (gives_pickF rfl) ?_
                                       refine JL.mv (.bool false) ?_
                                       refine JL.off 109 281 true (some 282) rfl ?_
                                       refine JL.off 109 281 true (some 283) rfl ?_
                                       refine JL.val (.bool false) (some 284) (gives_pickF rfl) ?_
                                       refine JL.mv (.bool false) ?_
                                       refine JL.off 113 285 true (some 286) rfl ?_
                                       refine JL.off 113 285 true (some 287) rfl ?_
                                       refine JL.val (.bool false) (some 288) (gives_pickF rfl) ?_
                                       refine JL.mv (.bool false) ?_
                                       refine JL.off 117 289 true (some 290) rfl ?_
                                       refine JL.off 117 289 true (some 291) rfl ?_
                                       refine JL.val (.bool false) (some 292) (gives_pickF rfl) ?_
                                       refine JL.as (.bool false) ?_
                                       refine JL.end_ ?_
                                       refine JQ.then_normal ?_
                                       refine JQ.sub [(0, .bool false)] ?_
                                       refine JQ.mask [] [false, false, false] ?_
                                       refine J.ret ?_
                                       obtain rfl := Option.some.inj H0
                                       exact JQ.done' (rs := [.tmp 0]) (vs := [.bool false]) [] (.inr rfl) ⟨by kernel_rfl, trivial⟩ (fun _ h => Heap.to h) ⟨rfl, rfl⟩
                                   · refine JL.off 66 238 true (some 239) h167 ?_
                                     refine JL.off 66 238 true (some 240) h167 ?_
                                     refine JL.val (.bool false) (some 241) (gives_pickF h167) ?_
                                     refine JL.mv (.bool false) ?_
                                     refine JL.off 70 242 true (some 243) rfl ?_
                                     refine JL.off 70 242 true (some 244) rfl ?_
                                     refine JL.val (.bool false) (some 245) (gives_pickF rfl) ?_
                                     refine JL.mv (.bool false) ?_
                                     refine JL.off 74 246 true (some 247) rfl ?_
                                     refine JL.off 74 246 true (some 248) rfl ?_
                                     refine JL.val (.bool false) (some 249) (gives_pickF rfl) ?_
                                     refine JL.mv (.bool false) ?_
                                     refine JL.off 78 250 true (some 251) rfl ?_
                                     refine JL.off 78 250 true (some 252) rfl ?_
                                     refine JL.val (.bool false) (some 253) (gives_pickF rfl) ?_
                                     refine JL.mv (.bool false) ?_
                                     refine JL.off 82 254 true (some 255) rfl ?_
                                     refine JL.off 82 254 true (some 256) rfl ?_
                                     refine JL.val (.bool false) (some 257) (gives_pickF rfl) ?_
                                     refine JL.mv (.bool false) ?_
                                     refine JL.off 86 258 true (some 259) rfl ?_
                                     refine JL.off 86 258 true (some 260) rfl ?_
                                     refine JL.off 86 258 true (some 261) rfl ?_
                                     refine JL.val (.bool false) (some 262) (gives_pickF rfl) ?_
                                     refine JL.mv (.bool false) ?_
                                     refine JL.off 91 263 true (some 264) rfl ?_
                                     refine JL.off 91 263 true (some 265) rfl ?_
                                     refine JL.val (.bool false) (some 266) (gives_pickF rfl) ?_
                                     refine JL.mv (.bool false) ?_
                                     refine JL.off 95 267 true (some 268) rfl ?_
                                     refine JL.off 95 267 true (some 269) rfl ?_
                                     refine JL.off 95 267 true (some 270) rfl ?_
                                     refine JL.val (.bool false) (some 271) (gives_pickF rfl) ?_
                                     refine JL.mv (.bool false) ?_
                                     refine JL.off 100 272 true (some 273) rfl ?_
                                     refine JL.off 100 272 true (some 274) rfl ?_
                                     refine JL.val (.bool false) (some 275) (gives_pickF rfl) ?_
                                     refine JL.mv (.bool false) ?_
                                     refine JL.off 104 276 true (some 277) rfl ?_
                                     refine JL.off 104 276 true (some 278) rfl ?_
                                     refine JL.off 104 276 true (some 279) rfl ?_
                                     refine JL.val (.bool false) (some 280) (gives_pickF rfl) ?_
                                     refine JL.mv (.bool false) ?_
                                     refine JL.off 109 281 true (some 282) rfl ?_
                                     refine JL.off 109 281 true (some 283) rfl ?_
                                     refine JL.val (.bool false) (some 284) (gives_pickF rfl) ?_
                                     refine JL.mv (.bool false) ?_
                                     refine JL.off 113 285 true (some 286) rfl ?_
                                     refine JL.off 113 285 true (some 287) rfl ?_
                                     refine JL.val (.bool false) (some 288) (gives_pickF rfl) ?_
                                     refine JL.mv (.bool false) ?_
                                     refine JL.off 117 289 true (some 290) rfl ?_
                                     refine JL.off 117 289 true (some 291) rfl ?_
                                     refine JL.val (.bool false) (some 292) (gives_pickF rfl) ?_
                                     refine JL.as (.bool false) ?_
                                     refine JL.end_ ?_
                                     refine JQ.then_normal ?_
                                     refine JQ.sub [(0, .bool false)] ?_
                                     refine JQ.mask [] [false, false, false] ?_
                                     refine J.ret ?_
                                     obtain rfl := Option.some.inj H0
                                     exact JQ.done' (rs := [.tmp 0]) (vs := [.bool false]) [] (.inr rfl) ⟨by kernel_rfl, trivial⟩ (fun _ h => Heap.to h) ⟨rfl, rfl⟩
                                 · refine JL.off 62 234 true (some 235) h166 ?_
                                   refine JL.off 62 234 true (some 236) h166 ?_
                                   refine JL.val (.bool false) (some 237) (gives_pickF h166) ?_
                                   refine JL.mv (.bool false) ?_
                                   refine JL.off 66 238 true (some 239) rfl ?_
                                   refine JL.off 66 238 true (some 240) rfl ?_
                                   refine JL.val (.bool false) (some 241) (gives_pickF rfl) ?_
                                   refine JL.mv (.bool false) ?_
                                   refine JL.off 70 242 true (some 243) rfl ?_
                                   refine JL.off 70 242 true (some 244) rfl ?_
                                   refine JL.val (.bool false) (some 245) (gives_pickF rfl) ?_
                                   refine JL.mv (.bool false) ?_
                                   refine JL.off 74 246 true (some 247) rfl ?_
                                   refine JL.off 74 246 true (some 248) rfl ?_
                                   refine JL.val (.bool false) (some 249) (gives_pickF rfl) ?_
                                   refine JL.mv (.bool false) ?_
                                   refine JL.off 78 250 true (some 251) rfl ?_
                                   refine JL.off 78 250 true (some 252) rfl ?_
                                   refine JL.val (.bool false) (some 253) (gives_pickF rfl) ?_
                                   refine JL.mv (.bool false) ?_
                                   refine JL.off 82 254 true (some 255) rfl ?_
                                   refine JL.off 82 254 true (some 256) rfl ?_
                                   refine JL.val (.bool false) (some 257) (gives_pickF rfl) ?_
                                   refine JL.mv (.bool false) ?_
                                   refine JL.off 86 258 true (some 259) rfl ?_
                                   refine JL.off 86 258 true (some 260) rfl ?_
                                   refine JL.off 86 258 true (some 261) rfl ?_
                                   refine JL.val (.bool false) (some 262) (gives_pickF rfl) ?_
                                   refine JL.mv (.bool false) ?_
                                   refine JL.off 91 263 true (some 264) rfl ?_
                                   refine JL.off 91 263 true (some 265) rfl ?_
                                   refine JL.val (.bool false) (some 266) (gives_pickF rfl) ?_
                                   refine JL.mv (.bool false) ?_
                                   refine JL.off 95 267 true (some 268) rfl ?_
                                   refine JL.off 95 267 true (some 269) rfl ?_
                                   refine JL.off 95 267 true (some 270) rfl ?_
                                   refine JL.val (.bool false) (some 271) (gives_pickF rfl) ?_
                                   refine JL.mv (.bool false) ?_
                                   refine JL.off 100 272 true (some 273) rfl ?_
                                   refine JL.off 100 272 true (some 274) rfl ?_
                                   refine JL.val (.bool false) (some 275) (gives_pickF rfl) ?_
                                   refine JL.mv (.bool false) ?_
                                   refine JL.off 104 276 true (some 277) rfl ?_
                                   refine JL.off 104 276 true (some 278) rfl ?_
                                   refine JL.off 104 276 true (some 279) rfl ?_
                                   refine JL.val (.bool false) (some 280) (gives_pickF rfl) ?_
                                   refine JL.mv (.bool false) ?_
                                   refine JL.off 109 281 true (some 282) rfl ?_
                                   refine JL.off 109 281 true (some 283) rfl ?_
                                   refine JL.val (.bool false) (some 284) (gives_pickF rfl) ?_
                                   refine JL.mv (.bool false) ?_
                                   refine JL.off 113 285 true (some 286) rfl ?_
                                   refine JL.off 113 285 true (some 287) rfl ?_
                                   refine JL.val (.bool false) (some 288) (gives_pickF rfl) ?_
                                   refine JL.mv (.bool false) ?_
                                   refine JL.off 117 289 true (some 290) rfl ?_
                                   refine JL.off 117 289 true (some 291) rfl ?_
                                   refine JL.val (.bool false) (some 292) (gives_pickF rfl) ?_
                                   refine JL.as (.bool false) ?_
                                   refine JL.end_ ?_
                                   refine JQ.then_normal ?_
                                   refine JQ.sub [(0, .bool false)] ?_
                                   refine JQ.mask [] [false, false, false] ?_
                                   refine J.ret ?_
                                   obtain rfl := Option.some.inj H0
                                   exact JQ.done' (rs := [.tmp 0]) (vs := [.bool false]) [] (.inr rfl) ⟨by kernel_rfl, trivial⟩ (fun _ h => Heap.to h) ⟨rfl, rfl⟩
                               · refine JL.off 58 230 true (some 231) h165 ?_
                                 refine JL.off 58 230 true (some 232) h165 ?_
                                 refine JL.val (.bool false) (some 233) (gives_pickF h165) ?_
                                 refine JL.mv (.bool false) ?_
                                 refine JL.off 62 234 true (some 235) rfl ?_
                                 refine JL.off 62 234 true (some 236) rfl ?_
                                 refine JL.val (.bool false) (some 237) (gives_pickF rfl) ?_
                                 refine JL.mv (.bool false) ?_
                                 refine JL.off 66 238 true (some 239) rfl ?_
                                 refine JL.off 66 238 true (some 240) rfl ?_
                                 refine JL.val (.bool false) (some 241) (gives_pickF rfl) ?_
                                 refine JL.mv (.bool false) ?_
                                 refine JL.off 70 242 true (some 243) rfl ?_
                                 refine JL.off 70 242 true (some 244) rfl ?_
                                 refine JL.val (.bool false) (some 245) (gives_pickF rfl) ?_
                                 refine JL.mv (.bool false) ?_
                                 refine JL.off 74 246 true (some 247) rfl ?_
                                 refine JL.off 74 246 true (some 248) rfl ?_
                                 refine JL.val (.bool false) (some 249) (gives_pickF rfl) ?_
                                 refine JL.mv (.bool false) ?_
                                 refine JL.off 78 250 true (some 251) rfl ?_
                                 refine JL.off 78 250 true (some 252) rfl ?_
                                 refine JL.val (.bool false) (some 253) (gives_pickF rfl) ?_
                                 refine JL.mv (.bool false) ?_
                                 refine JL.off 82 254 true (some 255) rfl ?_
                                 refine JL.off 82 254 true (some 256) rfl ?_
                                 refine JL.val (.bool false) (some 257) (gives_pickF rfl) ?_
                                 refine JL.mv (.bool false) ?_
                                 refine JL.off 86 258 true (some 259) rfl ?_
                                 refine JL.off 86 258 true (some 260) rfl ?_
                                 refine JL.off 86 258 true (some 261) rfl ?_
                                 refine JL.val (.bool false) (some 262) (gives_pickF rfl) ?_
                                 refine JL.mv (.bool false) ?_
                                 refine JL.off 91 263 true (some 264) rfl ?_
                                 refine JL.off 91 263 true (some 265) rfl ?_
                                 refine JL.val (.bool false) (some 266) (gives_pickF rfl) ?_
                                 refine JL.mv (.bool false) ?_
                                 refine JL.off 95 267 true (some 268) rfl ?_
                                 refine JL.off 95 267 true (some 269) rfl ?_
                                 refine JL.off 95 267 true (some 270) rfl ?_
                                 refine JL.val (.bool false) (some 271) (gives_pickF rfl) ?_
                                 refine JL.mv (.bool false) ?_
                                 refine JL.off 100 272 true (some 273) rfl ?_
                                 refine JL.off 100 272 true (some 274) rfl ?_
                                 refine JL.val (.bool false) (some 275) (gives_pickF rfl) ?_
                                 refine JL.mv (.bool false) ?_
                                 refine JL.off 104 276 true (some 277) rfl ?_
                                 refine JL.off 104 276 true (some 278) rfl ?_
                                 refine JL.off 104 276 true (some 279) rfl ?_
                                 refine JL.val (.bool false) (some 280) (gives_pickF rfl) ?_
                                 refine JL.mv (.bool false) ?_
                                 refine JL.off 109 281 true (some 282) rfl ?_
                                 refine JL.off 109 281 true (some 283) rfl ?_
                                 refine JL.val (.bool false) (some 284) (gives_pickF rfl) ?_
                                 refine JL.mv (.bool false) ?_
                                 refine JL.off 113 285 true (some 286) rfl ?_
                                 refine JL.off 113 285 true (some 287) rfl ?_
                                 refine JL.val (.bool false) (some 288) (gives_pickF rfl) ?_
                                 refine JL.mv (.bool false) ?_
                                 refine JL.off 117 289 true (some 290) rfl ?_
                                 refine JL.off 117 289 true (some 291) rfl ?_
                                 refine JL.val (.bool false) (some 292) (gives_pickF rfl) ?_
                                 refine JL.as (.bool false) ?_
                                 refine JL.end_ ?_
                                 refine JQ.then_normal ?_
                                 refine JQ.sub [(0, .bool false)] ?_
                                 refine JQ.mask [] [false, false, false] ?_
                                 refine J.ret ?_
                                 obtain rfl := Option.some.inj H0
                                 exact JQ.done' (rs := [.tmp 0]) (vs := [.bool false]) [] (.inr rfl) ⟨by kernel_rfl, trivial⟩ (fun _ h => Heap.to h) ⟨rfl, rfl⟩
                             · refine JL.off 54 226 true (some 227) h164 ?_
                               refine JL.off 54 226 true (some 228) h164 ?_
                               refine JL.val (.bool false) (some 229) (gives_pickF h164) ?_
                               refine JL.mv (.bool false) ?_
                               refine JL.off 58 230 true (some 231) rfl ?_
                               refine JL.off 58 230 true (some 232) rfl ?_
                               refine JL.val (.bool false) (some 233) (gives_pickF rfl) ?_
                               refine JL.mv (.bool false) ?_
                               refine JL.off 62 234 true (some 235) rfl ?_
                               refine JL.off 62 234 true (some 236) rfl ?_
                               refine JL.val (.bool false) (some 237) (gives_pickF rfl) ?_
                               refine JL.mv (.bool false) ?_
                               refine JL.off 66 238 true (some 239) rfl ?_
                               refine JL.off 66 238 true (some 240) rfl ?_
                               refine JL.val (.bool false) (some 241) (gives_pickF rfl) ?_
                               refine JL.mv (.bool false) ?_
                               refine JL.off 70 242 true (some 243) rfl ?_
                               refine JL.off 70 242 true (some 244) rfl ?_
                               refine JL.val (.bool false) (some 245) (gives_pickF rfl) ?_
                               refine JL.mv (.bool false) ?_
                               refine JL.off 74 246 true (some 247) rfl ?_
                               refine JL.off 74 246 true (some 248) rfl ?_
                               refine JL.val (.bool false) (some 249) (gives_pickF rfl) ?_
                               refine JL.mv (.bool false) ?_
                               refine JL.off 78 250 true (some 251) rfl ?_
                               refine JL.off 78 250 true (some 252) rfl ?_
                               refine JL.val (.bool false) (some 253) (gives_pickF rfl) ?_
                               refine JL.mv (.bool false) ?_
                               refine JL.off 82 254 true (some 255) rfl ?_
                               refine JL.off 82 254 true (some 256) rfl ?_
                               refine JL.val (.bool false) (some 257) (gives_pickF rfl) ?_
                               refine JL.mv (.bool false) ?_
                               refine JL.off 86 258 true (some 259) rfl ?_
                               refine JL.off 86 258 true (some 260) rfl ?_
                               refine JL.off 86 258 true (some 261) rfl ?_
                               refine JL.val (.bool false) (some 262) (gives_pickF rfl) ?_
                               refine JL.mv (.bool false) ?_
                               refine JL.off 91 263 true (some 264) rfl ?_
                               refine JL.off 91 263 true (some 265) rfl ?_
                               refine JL.val (.bool false) (some 266) (gives_pickF rfl) ?_
                               refine JL.mv (.bool false) ?_
                               refine JL.off 95 267 true (some 268) rfl ?_
                               refine JL.off 95 267 true (some 269) rfl ?_
                               refine JL.off 95 267 true (some 270) rfl ?_
                               refine JL.val (.bool false) (some 271) (gives_pickF rfl) ?_
                               refine JL.mv (.bool false) ?_
                               refine JL.off 100 272 true (some 273) rfl ?_
                               refine JL.off 100 272 true (some 274) rfl ?_
                               refine JL.val (.bool false) (some 275) (gives_pickF rfl) ?_
                               refine JL.mv (.bool false) ?_
                               refine JL.off 104 276 true (some 277) rfl ?_
                               refine JL.off 104 276 true (some 278) rfl ?_
                               refine JL.off 104 276 true (some 279) rfl ?_
                               refine JL.val (.bool false) (some 280) (gives_pickF rfl) ?_
                               refine JL.mv (.bool false) ?_
                               refine JL.off 109 281 true (some 282) rfl ?_
                               refine JL.off 109 281 true (some 283) rfl ?_
                               refine JL.val (.bool false) (some 284) (gives_pickF rfl) ?_
                               refine JL.mv (.bool false) ?_
                               refine JL.off 113 285 true (some 286) rfl ?_
                               refine JL.off 113 285 true (some 287) rfl ?_
                               refine JL.val (.bool false) (some 288) (gives_pickF rfl) ?_
                               refine JL.mv (.bool false) ?_
                               refine JL.off 117 289 true (some 290) rfl ?_
                               refine JL.off 117 289 true (some 291) rfl ?_
                               refine JL.val (.bool false) (some 292) (gives_pickF rfl) ?_
                               refine JL.as (.bool false) ?_
                               refine JL.end_ ?_
                               refine JQ.then_normal ?_
                               refine JQ.sub [(0, .bool false)] ?_
                               refine JQ.mask [] [false, false, false] ?_
                               refine J.ret ?_
                               obtain rfl := Option.some.inj H0
                               exact JQ.done' (rs := [.tmp 0]) (vs := [.bool false]) [] (.inr rfl) ⟨by kernel_rfl, trivial⟩ (fun _ h => Heap.to h) ⟨rfl, rfl⟩
                           · refine JL.off 50 222 true (some 223) h163 ?_
                             refine JL.off 50 222 true (some 224) h163 ?_
                             refine JL.val (.bool false) (some 225) (gives_pickF h163) ?_
                             refine JL.mv (.bool false) ?_
                             refine JL.off 54 226 true (some 227) rfl ?_
                             refine JL.off 54 226 true (some 228) rfl ?_
                             refine JL.val (.bool false) (some 229) (gives_pickF rfl) ?_
                             refine JL.mv (.bool false) ?_
                             refine JL.off 58 230 true (some 231) rfl ?_
                             refine JL.off 58 230 true (some 232) rfl ?_
                             refine JL.val (.bool false) (some 233) (gives_pickF rfl) ?_
                             refine JL.mv (.bool false) ?_
                             refine JL.off 62 234 true (some 235) rfl ?_
                             refine JL.off 62 234 true (some 236) rfl ?_
                             refine JL.val (.bool false) (some 237) (gives_pickF rfl) ?_
                             refine JL.mv (.bool false) ?_
                             refine JL.off 66 238 true (some 239) rfl ?_
                             refine JL.off 66 238 true (some 240) rfl ?_
                             refine JL.val (.bool false) (some 241) (gives_pickF rfl) ?_
                             refine JL.mv (.bool false) ?_
                             refine JL.off 70 242 true (some 243) rfl ?_
                             refine JL.off 70 242 true (some 244) rfl ?_
                             refine JL.val (.bool false) (some 245) (gives_pickF rfl) ?_
                             refine JL.mv (.bool false) ?_
                             refine JL.off 74 246 true (some 247) rfl ?_
                             refine JL.off 74 246 true (some 248) rfl ?_
                             refine JL.val (.bool false) (some 249) (gives_pickF rfl) ?_
                             refine JL.mv (.bool false) ?_
                             refine JL.off 78 250 true (some 251) rfl ?_
                             refine JL.off 78 250 true (some 252) rfl ?_
                             refine JL.val (.bool false) (some 253) (gives_pickF rfl) ?_
                             refine JL.mv (.bool false) ?_
                             refine JL.off 82 254 true (some 255) rfl ?_
                             refine JL.off 82 254 true (some 256) rfl ?_
                             refine JL.val (.bool false) (some 257) (gives_pickF rfl) ?_
                             refine JL.mv (.bool false) ?_
                             refine JL.off 86 258 true (some 259) rfl ?_
                             refine JL.off 86 258 true (some 260) rfl ?_
                             refine JL.off 86 258 true (some 261) rfl ?_
                             refine JL.val (.bool false) (some 262) (gives_pickF rfl) ?_
                             refine JL.mv (.bool false) ?_
                             refine JL.off 91 263 true (some 264) rfl ?_
                             refine JL.off 91 263 true (some 265) rfl ?_
                             refine JL.val (.bool false) (some 266) (gives_pickF rfl) ?_
                             refine JL.mv (.bool false) ?_
                             refine JL.off 95 267 true (some 268) rfl ?_
                             refine JL.off 95 267 true (some 269) rfl ?_
                             refine JL.off 95 267 true (some 270) rfl ?_
                             refine JL.val (.bool false) (some 271) (gives_pickF rfl) ?_
                             refine JL.mv (.bool false) ?_
                             refine JL.off 100 272 true (some 273) rfl ?_
                             refine JL.off 100 272 true (some 274) rfl ?_
                             refine JL.val (.bool false) (some 275) (gives_pickF rfl) ?_
                             refine JL.mv (.bool false) ?_
                             refine JL.off 104 276 true (some 277) rfl ?_
                             refine JL.off 104 276 true (some 278) rfl ?_
                             refine JL.off 104 276 true (some 279) rfl ?_
                             refine JL.val (.bool false) (some 280) (gives_pickF rfl) ?_
                             refine JL.mv (.bool false) ?_
                             refine JL.off 109 281 true (some 282) rfl ?_
                             refine JL.off 109 281 true (some 283) rfl ?_
                             refine JL.val (.bool false) (some 284) (gives_pickF rfl) ?_
                             refine JL.mv (.bool false) ?_
                             refine JL.off 113 285 true (some 286) rfl ?_
                             refine JL.off 113 285 true (some 287) rfl ?_
                             refine JL.val (.bool false) (some 288) (gives_pickF rfl) ?_
                             refine JL.mv (.bool false) ?_
                             refine JL.off 117 289 true (some 290) rfl ?_
                             refine JL.off 117 289 true (some 291) rfl ?_
                             refine JL.val (.bool false) (some 292) (gives_pickF rfl) ?_
                             refine JL.as (.bool false) ?_
                             refine JL.end_ ?_
                             refine JQ.then_normal ?_
                             refine JQ.sub [(0, .bool false)] ?_
                             refine JQ.mask [] [false, false, false] ?_
                             refine J.ret ?_
                             obtain rfl := Option.some.inj H0
                             exact JQ.done' (rs := [.tmp 0]) (vs := [.bool false]) [] (.inr rfl) ⟨by kernel_rfl, trivial⟩ (fun _ h => Heap.to h) ⟨rfl, rfl⟩
                         · refine JL.off 46 218 true (some 219) h162 ?_
                           refine JL.off 46 218 true (some 220) h162 ?_
                           refine JL.val (.bool false) (some 221) (gives_pickF h162) ?_
                           refine JL.mv (.bool false) ?_
                           refine JL.off 50 222 true (some 223) rfl ?_
                           refine JL.off 50 222 true (some 224) rfl ?_
                           refine JL.val (.bool false) (some 225) (gives_pickF rfl) ?_
                           refine JL.mv (.bool false) ?_
                           refine JL.off 54 226 true (some 227) rfl ?_
                           refine JL.off 54 226 true (some 228) rfl ?_
                           refine JL.val (.bool false) (some 229) (gives_pickF rfl) ?_
                           refine JL.mv (.bool false) ?_
                           refine JL.off 58 230 true (some 231) rfl ?_
                           refine JL.off 58 230 true (some 232) rfl ?_
                           refine JL.val (.bool false) (some 233) (gives_pickF rfl) ?_
                           refine JL.mv (.bool false) ?_
                           refine JL.off 62 234 true (some 235) rfl ?_
                           refine JL.off 62 234 true (some 236) rfl ?_
                           refine JL.val (.bool false) (some 237) (gives_pickF rfl) ?_
                           refine JL.mv (.bool false) ?_
                           refine JL.off 66 238 true (some 239) rfl ?_
                           refine JL.off 66 238 true (some 240) rfl ?_
                           refine JL.val (.bool false) (some 241) (gives_pickF rfl) ?_
                           refine JL.mv (.bool false) ?_
                           refine JL.off 70 242 true (some 243) rfl ?_
                           refine JL.off 70 242 true (some 244) rfl ?_
                           refine JL.val (.bool false) (some 245) (gives_pickF rfl) ?_
                           refine JL.mv (.bool false) ?_
                           refine JL.off 74 246 true (some 247) rfl ?_
                           refine JL.off 74 246 true (some 248) rfl ?_
                           refine JL.val (.bool false) (some 249) (gives_pickF rfl) ?_
                           refine JL.mv (.bool false) ?_
                           refine JL.off 78 250 true (some 251) rfl ?_
                           refine JL.off 78 250 true (some 252) rfl ?_
                           refine JL.val (.bool false) (some 253) (gives_pickF rfl) ?_
                           refine JL.mv (.bool false) ?_
                           refine JL.off 82 254 true (some 255) rfl ?_
                           refine JL.off 82 254 true (some 256) rfl ?_
                           refine JL.val (.bool false) (some 257) (gives_pickF rfl) ?_
                           refine JL.mv (.bool false) ?_
                           refine JL.off 86 258 true (some 259) rfl ?_
                           refine JL.off 86 258 true (some 260) rfl ?_
                           refine JL.off 86 258 true (some 261) rfl ?_
                           refine JL.val (.bool false) (some 262) (gives_pickF rfl) ?_
                           refine JL.mv (.bool false) ?_
                           refine JL.off 91 263 true (some 264) rfl ?_
                           refine JL.off 91 263 true (some 265) rfl ?_
                           refine JL.val (.bool false) (some 266) (gives_pickF rfl) ?_
                           refine JL.mv (.bool false) ?_
                           refine JL.off 95 267 true (some 268) rfl ?_
                           refine JL.off 95 267 true (some 269) rfl ?_
                           refine JL.off 95 267 true (some 270) rfl ?_
                           refine JL.val (.bool false) (some 271) (gives_pickF rfl) ?_
                           refine JL.mv (.bool false) ?_
                           refine JL.off 100 272 true (some 273) rfl ?_
                           refine JL.off 100 272 true (some 274) rfl ?_
                           refine JL.val (.bool false) (some 275) (gives_pickF rfl) ?_
                           refine JL.mv (.bool false) ?_
                           refine JL.off 104 276 true (some 277) rfl ?_
                           refine JL.off 104 276 true (some 278) rfl ?_
                           refine JL.off 104 276 true (some 279) rfl ?_
                           refine JL.val (.bool false) (some 280) (gives_pickF rfl) ?_
                           refine JL.mv (.bool false) ?_
                           refine JL.off 109 281 true (some 282) rfl ?_
                           refine JL.off 109 281 true (some 283) rfl ?_
                           refine JL.val (.bool false) (some 284) (gives_pickF rfl) ?_
                           refine JL.mv (.bool false) ?_
                           refine JL.off 113 285 true (some 286) rfl ?_
                           refine JL.off 113 285 true (some 287) rfl ?_
                           refine JL.val (.bool false) (some 288) (gives_pickF rfl) ?_
                           refine JL.mv (.bool false) ?_
                           refine JL.off 117 289 true (some 290) rfl ?_
                           refine JL.off 117 289 true (some 291) rfl ?_
                           refine JL.val (.bool false) (some 292) (gives_pickF rfl) ?_
                           refine JL.as (.bool false) ?_
                           refine JL.end_ ?_
                           refine JQ.then_normal ?_
                           refine JQ.sub [(0, .bool false)] ?_
                           refine JQ.mask [] [false, false, false] ?_
                           refine J.ret ?_
                           obtain rfl := Option.some.inj H0
                           exact JQ.done' (rs := [.tmp 0]) (vs := [.bool false]) [] (.inr rfl) ⟨by kernel_rfl, trivial⟩ (fun _ h => Heap.to h) ⟨rfl, rfl⟩
                       · refine JL.off 42 214 true (some 215) h161 ?_
                         refine JL.off 42 214 true (some 216) h161 ?_
                         refine JL.val (.bool false) (some 217) (gives_pickF h161) ?_
                         refine JL.mv (.bool false) ?_
                         refine JL.off 46 218 true (some 219) rfl ?_
                         refine JL.off 46 218 true (some 220) rfl ?_
                         refine JL.val (.bool false) (some 221) (gives_pickF rfl) ?_
                         refine JL.mv (.bool false) ?_
                         refine JL.off 50 222 true (some 223) rfl ?_
                         refine JL.off 50 222 true (some 224) rfl ?_
                         refine JL.val (.bool false) (some 225) (gives_pickF rfl) ?_
                         refine JL.mv (.bool false) ?_
                         refine JL.off 54 226 true (some 227) rfl ?_
                         refine JL.off 54 226 true (some 228) rfl ?_
                         refine JL.val (.bool false) (some 229) (gives_pickF rfl) ?_
                         refine JL.mv (.bool false) ?_
                         refine JL.off 58 230 true (some 231) rfl ?_
                         refine JL.off 58 230 true (some 232) rfl ?_
                         refine JL.val (.bool false) (some 233) (gives_pickF rfl) ?_
                         refine JL.mv (.bool false) ?_
                         refine JL.off 62 234 true (some 235) rfl ?_
                         refine JL.off 62 234 true (some 236) rfl ?_
                         refine JL.val (.bool false) (some 237) (gives_pickF rfl) ?_
                         refine JL.mv (.bool false) ?_
                         refine JL.off 66 238 true (some 239) rfl ?_
                         refine JL.off 66 238 true (some 240) rfl ?_
                         refine JL.val (.bool false) (some 241) (gives_pickF rfl) ?_
                         refine JL.mv (.bool false) ?_
                         refine JL.off 70 242 true (some 243) rfl ?_
                         refine JL.off 70 242 true (some 244) rfl ?_
                         refine JL.val (.bool false) (some 245) (gives_pickF rfl) ?_
                         refine JL.mv (.bool false) ?_
                         refine JL.off 74 246 true (some 247) rfl ?_
                         refine JL.off 74 246 true (some 248) rfl ?_
                         refine JL.val (.bool false) (some 249) (gives_pickF rfl) ?_
                         refine JL.mv (.bool false) ?_
                         refine JL.off 78 250 true (some 251) rfl ?_
                         refine JL.off 78 250 true (some 252) rfl ?_
                         refine JL.val (.bool false) (some 253) (gives_pickF rfl) ?_
                         refine JL.mv (.bool false) ?_
                         refine JL.off 82 254 true (some 255) rfl ?_
                         refine JL.off 82 254 true (some 256) rfl ?_
                         refine JL.val (.bool false) (some 257) (gives_pickF rfl) ?_
                         refine JL.mv (.bool false) ?_
                         refine JL.off 86 258 true (some 259) rfl ?_
                         refine JL.off 86 258 true (some 260) rfl ?_
                         refine JL.off 86 258 true (some 261) rfl ?_
                         refine JL.val (.bool false) (some 262) (gives_pickF rfl) ?_
                         refine JL.mv (.bool false) ?_
                         refine JL.off 91 263 true (some 264) rfl ?_
                         refine JL.off 91 263 true (some 265) rfl ?_
                         refine JL.val (.bool false) (some 266) (gives_pickF rfl) ?_
                         refine JL.mv (.bool false) ?_
                         refine JL.off 95 267 true (some 268) rfl ?_
                         refine JL.off 95 267 true (some 269) rfl ?_
                         refine JL.off 95 267 true (some 270) rfl ?_
                         refine JL.val (.bool false) (some 271) (gives_pickF rfl) ?_
                         refine JL.mv (.bool false) ?_
                         refine JL.off 100 272 true (some 273) rfl ?_
                         refine JL.off 100 272 true (some 274) rfl ?_
                         refine JL.val (.bool false) (some 275) (gives_pickF rfl) ?_
                         refine JL.mv (.bool false) ?_
                         refine JL.off 104 276 true (some 277) rfl ?_
                         refine JL.off 104 276 true (some 278) rfl ?_
                         refine JL.off 104 276 true (some 279) rfl ?_
                         refine JL.val (.bool false) (some 280) (gives_pickF rfl) ?_
                         refine JL.mv (.bool false) ?_
                         refine JL.off 109 281 true (some 282) rfl ?_
                         refine JL.off 109 281 true (some 283) rfl ?_
                         refine JL.val (.bool false) (some 284) (gives_pickF rfl) ?_
                         refine JL.mv (.bool false) ?_
                         refine JL.off 113 285 true (some 286) rfl ?_
                         refine JL.off 113 285 true (some 287) rfl ?_
                         refine JL.val (.bool false) (some 288) (gives_pickF rfl) ?_
                         refine JL.mv (.bool false) ?_
                         refine JL.off 117 289 true (some 290) rfl ?_
                         refine JL.off 117 289 true (some 291) rfl ?_
                         refine JL.val (.bool false) (some 292) (gives_pickF rfl) ?_
                         refine JL.as (.bool false) ?_
                         refine JL.end_ ?_
                         refine JQ.then_normal ?_
                         refine JQ.sub [(0, .bool false)] ?_
                         refine JQ.mask [] [false, false, false] ?_
                         refine J.ret ?_
                         obtain rfl := Option.some.inj H0
                         exact JQ.done' (rs := [.tmp 0]) (vs := [.bool false]) [] (.inr rfl) ⟨by kernel_rfl, trivial⟩ (fun _ h => Heap.to h) ⟨rfl, rfl⟩
                     · refine JL.off 38 210 true (some 211) h160 ?_
                       refine JL.off 38 210 true (some 212) h160 ?_
                       refine JL.val (.bool false) (some 213) (gives_pickF h160) ?_
                       refine JL.mv (.bool false) ?_
                       refine JL.off 42 214 true (some 215) rfl ?_
                       refine JL.off 42 214 true (some 216) rfl ?_
                       refine JL.val (.bool false) (some 217) (gives_pickF rfl) ?_
                       refine JL.mv (.bool false) ?_
                       refine JL.off 46 218 true (some 219) rfl ?_
                       refine JL.off 46 218 true (some 220) rfl ?_
                       refine JL.val (.bool false) (some 221) (gives_pickF rfl) ?_
                       refine JL.mv (.bool false) ?_
                       refine JL.off 50 222 true (some 223) rfl ?_
                       refine JL.off 50 222 true (some 224) rfl ?_
                       refine JL.val (.bool false) (some 225) (gives_pickF rfl) ?_
                       refine JL.mv (.bool false) ?_
                       refine JL.off 54 226 true (some 227) rfl ?_
                       refine JL.off 54 226 true (some 228) rfl ?_
                       refine JL.val (.bool false) (some 229) (gives_pickF rfl) ?_
                       refine JL.mv (.bool false) ?_
                       refine JL.off 58 230 true (some 231) rfl ?_
                       refine JL.off 58 230 true (some 232) rfl ?_
                       refine JL.val (.bool false) (some 233) (gives_pickF rfl) ?_
                       refine JL.mv (.bool false) ?_
                       refine JL.off 62 234 true (some 235) rfl ?_
                       refine JL.off 62 234 true (some 236) rfl ?_
                       refine JL.val (.bool false) (some 237) (gives_pickF rfl) ?_
                       refine JL.mv (.bool false) ?_
                       refine JL.off 66 238 true (some 239) rfl ?_
                       refine JL.off 66 238 true (some 240) rfl ?_
                       refine JL.val (.bool false) (some 241) (gives_pickF rfl) ?_
                       refine JL.mv (.bool false) ?_
                       refine JL.off 70 242 true (some 243) rfl ?_
                       refine JL.off 70 242 true (some 244) rfl ?_
                       refine JL.val (.bool false) (some 245) (gives_pickF rfl) ?_
                       refine JL.mv (.bool false) ?_
                       refine JL.off 74 246 true (some 247) rfl ?_
                       refine JL.off 74 246 true (some 248) rfl ?_
                       refine JL.val (.bool false) (some 249) (gives_pickF rfl) ?_
                       refine JL.mv (.bool false) ?_
                       refine JL.off 78 250 true (some 251) rfl ?_
                       refine JL.off 78 250 true (some 252) rfl ?_
                       refine JL.val (.bool false) (some 253) (gives_pickF rfl) ?_
                       refine JL.mv (.bool false) ?_
                       refine JL.off 82 254 true (some 255) rfl ?_
                       refine JL.off 82 254 true (some 256) rfl ?_
                       refine JL.val (.bool false) (some 257) (gives_pickF rfl) ?_
                       refine JL.mv (.bool false) ?_
                       refine JL.off 86 258 true (some 259) rfl ?_
                       refine JL.off 86 258 true (some 260) rfl ?_
                       refine JL.off 86 258 true (some 261) rfl ?_
                       refine JL.val (.bool false) (some 262) (gives_pickF rfl) ?_
                       refine JL.mv (.bool false) ?_
                       refine JL.off 91 263 true (some 264) rfl ?_
                       refine JL.off 91 263 true (some 265) rfl ?_
                       refine JL.val (.bool false) (some 266) (gives_pickF rfl) ?_
                       refine JL.mv (.bool false) ?_
                       refine JL.off 95 267 true (some 268) rfl ?_
                       refine JL.off 95 267 true (some 269) rfl ?_
                       refine JL.off 95 267 true (some 270) rfl ?_
                       refine JL.val (.bool false) (some 271) (gives_pickF rfl) ?_
                       refine JL.mv (.bool false) ?_
                       refine JL.off 100 272 true (some 273) rfl ?_
                       refine JL.off 100 272 true (some 274) rfl ?_
                       refine JL.val (.bool false) (some 275) (gives_pickF rfl) ?_
                       refine JL.mv (.bool false) ?_
                       refine JL.off 104 276 true (some 277) rfl ?_
                       refine JL.off 104 276 true (some 278) rfl ?_
                       refine JL.off 104 276 true (some 279) rfl ?_
                       refine JL.val (.bool false) (some 280) (gives_pickF rfl) ?_
                       refine JL.mv (.bool false) ?_
                       refine JL.off 109 281 true (some 282) rfl ?_
                       refine JL.off 109 281 true (some 283) rfl ?_
                       refine JL.val (.bool false) (some 284) (gives_pickF rfl) ?_
                       refine JL.mv (.bool false) ?_
                       refine JL.off 113 285 true (some 286) rfl ?_
                       refine JL.off 113 285 true (some 287) rfl ?_
                       refine JL.val (.bool false) (some 288) (gives_pickF rfl) ?_
                       refine JL.mv (.bool false) ?_
                       refine JL.off 117 289 true (some 290) rfl ?_
                       refine JL.off 117 289 true (some 291) rfl ?_
                       refine JL.val (.bool false) (some 292) (gives_pickF rfl) ?_
                       refine JL.as (.bool false) ?_
                       refine JL.end_ ?_
                       refine JQ.then_normal ?_
                       refine JQ.sub [(0, .bool false)] ?_
                       refine JQ.mask [] [false, false, false] ?_
                       refine J.ret ?_
                       obtain rfl := Option.some.inj H0
                       exact JQ.done' (rs := [.tmp 0]) (vs := [.bool false]) [] (.inr rfl) ⟨by kernel_rfl, trivial⟩ (fun _ h => Heap.to h) ⟨rfl, rfl⟩
                   · refine JL.off 34 206 true (some 207) h159 ?_
                     refine JL.off 34 206 true (some 208) h159 ?_
                     refine JL.val (.bool false) (some 209) (gives_pickF h159) ?_
                     refine JL.mv (.bool false) ?_
                     refine JL.off 38 210 true (some 211) rfl ?_
                     refine JL.off 38 210 true (some 212) rfl ?_
                     refine JL.val (.bool false) (some 213) (gives_pickF rfl) ?_
                     refine JL.mv (.bool false) ?_
                     refine JL.off 42 214 true (some 215) rfl ?_
                     refine JL.off 42 214 true (some 216) rfl ?_
                     refine JL.val (.bool false) (some 217) (gives_pickF rfl) ?_
                     refine JL.mv (.bool false) ?_
                     refine JL.off 46 218 true (some 219) rfl ?_
                     refine JL.off 46 218 true (some 220) rfl ?_
                     refine JL.val (.bool false) (some 221) (gives_pickF rfl) ?_
                     refine JL.mv (.bool false) ?_
                     refine JL.off 50 222 true (some 223) rfl ?_
                     refine JL.off 50 222 true (some 224) rfl ?_
                     refine JL.val (.bool false) (some 225) (gives_pickF rfl) ?_
                     refine JL.mv (.bool false) ?_
                     refine JL.off 54 226 true (some 227) rfl ?_
                     refine JL.off 54 226 true (some 228) rfl ?_
                     refine JL.val (.bool false) (some 229) (gives_pickF rfl) ?_
                     refine JL.mv (.bool false) ?_
                     refine JL.off 58 230 true (some 231) rfl ?_
                     refine JL.off 58 230 true (some 232) rfl ?_
                     refine JL.val (.bool false) (some 233) (gives_pickF rfl) ?_
                     refine JL.mv (.bool false) ?_
                     refine JL.off 62 234 true (some 235) rfl ?_
                     refine JL.off 62 234 true (some 236) rfl ?_
                     refine JL.val (.bool false) (some 237) (gives_pickF rfl) ?_
                     refine JL.mv (.bool false) ?_
                     refine JL.off 66 238 true (some 239) rfl ?_
                     refine JL.off 66 238 true (some 240) rfl ?_
                     refine JL.val (.bool false) (some 241) (gives_pickF rfl) ?_
                     refine JL.mv (.bool false) ?_
                     refine JL.off 70 242 true (some 243) rfl ?_
                     refine JL.off 70 242 true (some 244) rfl ?_
                     refine JL.val (.bool false) (some 245) (gives_pickF rfl) ?_
                     refine JL.mv (.bool false) ?_
                     refine JL.off 74 246 true (some 247) rfl ?_
                     refine JL.off 74 246 true (some 248) rfl ?_
                     refine JL.val (.bool false) (some 249) (gives_pickF rfl) ?_
                     refine JL.mv (.bool false) ?_
                     refine JL.off 78 250 true (some 251) rfl ?_
                     refine JL.off 78 250 true (some 252) rfl ?_
                     refine JL.val (.bool false) (some 253) (gives_pickF rfl) ?_
                     refine JL.mv (.bool false) ?_
                     refine JL.off 82 254 true (some 255) rfl ?_
                     refine JL.off 82 254 true (some 256) rfl ?_
                     refine JL.val (.bool false) (some 257) (gives_pickF rfl) ?_
                     refine JL.mv (.bool false) ?_
                     refine JL.off 86 258 true (some 259) rfl ?_
                     refine JL.off 86 258 true (some 260) rfl ?_
                     refine JL.off 86 258 true (some 261) rfl ?_
                     refine JL.val (.bool false) (some 262) (gives_pickF rfl) ?_
                     refine JL.mv (.bool false) ?_
                     refine JL.off 91 263 true (some 264) rfl ?_
                     refine JL.off 91 263 true (some 265) rfl ?_
                     refine JL.val (.bool false) (some 266) (gives_pickF rfl) ?_
                     refine JL.mv (.bool false) ?_
                     refine JL.off 95 267 true (some 268) rfl ?_
                     refine JL.off 95 267 true (some 269) rfl ?_
                     refine JL.off 95 267 true (some 270) rfl ?_
                     refine JL.val (.bool false) (some 271) (gives_pickF rfl) ?_
                     refine JL.mv (.bool false) ?_
                     refine JL.off 100 272 true (some 273) rfl ?_
                     refine JL.off 100 272 true (some 274) rfl ?_
                     refine JL.val (.bool false) (some 275) (gives_pickF rfl) ?_
                     refine JL.mv (.bool false) ?_
                     refine JL.off 104 276 true (some 277) rfl ?_
                     refine JL.off 104 276 true (some 278) rfl ?_
                     refine JL.off 104 276 true (some 279) rfl ?_
                     refine JL.val (.bool false) (some 280) (gives_pickF rfl) ?_
                     refine JL.mv (.bool false) ?_
                     refine JL.off 109 281 true (some 282) rfl ?_
                     refine JL.off 109 281 true (some 283) rfl ?_
                     refine JL.val (.bool false) (some 284) (gives_pickF rfl) ?_
                     refine JL.mv (.bool false) ?_
                     refine JL.off 113 285 true (some 286) rfl ?_
                     refine JL.off 113 285 true (some 287) rfl ?_
                     refine JL.val (.bool false) (some 288) (gives_pickF rfl) ?_
                     refine JL.mv (.bool false) ?_
                     refine JL.off 117 289 true (some 290) rfl ?_
                     refine JL.off 117 289 true (some 291) rfl ?_
                     refine JL.val (.bool false) (some 292) (gives_pickF rfl) ?_
                     refine JL.as (.bool false) ?_
                     refine JL.end_ ?_
                     refine JQ.then_normal ?_
                     refine JQ.sub [(0, .bool false)] ?_
                     refine JQ.mask [] [false, false, false] ?_
                     refine J.ret ?_
                     obtain rfl := Option.some.inj H0
                     exact JQ.done' (rs := [.tmp 0]) (vs := [.bool false]) [] (.inr rfl) ⟨by kernel_rfl, trivial⟩ (fun _ h => Heap.to h) ⟨rfl, rfl⟩
                 · refine JL.off 30 202 true (some 203) h158 ?_
                   refine JL.off 30 202 true (some 204) h158 ?_
                   refine JL.val (.bool false) (some 205) (gives_pickF h158) ?_
                   refine JL.mv (.bool false) ?_
                   refine JL.off 34 206 true (some 207) rfl ?_
                   refine JL.off 34 206 true (some 208) rfl ?_
                   refine JL.val (.bool false) (some 209) (gives_pickF rfl) ?_
                   refine JL.mv (.bool false) ?_
                   refine JL.off 38 210 true (some 211) rfl ?_
                   refine JL.off 38 210 true (some 212) rfl ?_
                   refine JL.val (.bool false) (some 213) (gives_pickF rfl) ?_
                   refine JL.mv (.bool false) ?_
                   refine JL.off 42 214 true (some 215) rfl ?_
                   refine JL.off 42 214 true (some 216) rfl ?_
                   refine JL.val (.bool false) (some 217) (gives_pickF rfl) ?_
                   refine JL.mv (.bool false) ?_
                   refine JL.off 46 218 true (some 219) rfl ?_
                   refine JL.off 46 218 true (some 220) rfl ?_
                   refine JL.val (.bool false) (some 221) (gives_pickF rfl) ?_
                   refine JL.mv (.bool false) ?_
                   refine JL.off 50 222 true (some 223) rfl ?_
                   refine JL.off 50 222 true (some 224) rfl ?_
                   refine JL.val (.bool false) (some 225) (gives_pickF rfl) ?_
                   refine JL.mv (.bool false) ?_
                   refine JL.off 54 226 true (some 227) rfl ?_
                   refine JL.off 54 226 true (some 228) rfl ?_
                   refine JL.val (.bool false) (some 229) (gives_pickF rfl) ?_
                   refine JL.mv (.bool false) ?_
                   refine JL.off 58 230 true (some 231) rfl ?_
                   refine JL.off 58 230 true (some 232) rfl ?_
                   refine JL.val (.bool false) (some 233) (gives_pickF rfl) ?_
                   refine JL.mv (.bool false) ?_
                   refine JL.off 62 234 true (some 235) rfl ?_
                   refine JL.off 62 234 true (some 236) rfl ?_
                   refine JL.val (.bool false) (some 237) (gives_pickF rfl) ?_
                   refine JL.mv (.bool false) ?_
                   refine JL.off 66 238 true (some 239) rfl ?_
                   refine JL.off 66 238 true (some 240) rfl ?_
                   refine JL.val (.bool false) (some 241) (gives_pickF rfl) ?_
                   refine JL.mv (.bool false) ?_
                   refine JL.off 70 242 true (some 243) rfl ?_
                   refine JL.off 70 242 true (some 244) rfl ?_
                   refine JL.val (.bool false) (some 245) (gives_pickF rfl) ?_
                   refine JL.mv (.bool false) ?_
                   refine JL.off 74 246 true (some 247) rfl ?_
                   refine JL.off 74 246 true (some 248) rfl ?_
                   refine JL.val (.bool false) (some 249) (gives_pickF rfl) ?_
                   refine JL.mv (.bool false) ?_
                   refine JL.off 78 250 true (some 251) rfl ?_
                   refine JL.off 78 250 true (some 252) rfl ?_
                   refine JL.val (.bool false) (some 253) (gives_pickF rfl) ?_
                   refine JL.mv (.bool false) ?_
                   refine JL.off 82 254 true (some 255) rfl ?_
                   refine JL.off 82 254 true (some 256) rfl ?_
                   refine JL.val (.bool false) (some 257) (gives_pickF rfl) ?_
                   refine JL.mv (.bool false) ?_
                   refine JL.off 86 258 true (some 259) rfl ?_
                   refine JL.off 86 258 true (some 260) rfl ?_
                   refine JL.off 86 258 true (some 261) rfl ?_
                   refine JL.val (.bool false) (some 262) (gives_pickF rfl) ?_
                   refine JL.mv (.bool false) ?_
                   refine JL.off 91 263 true (some 264) rfl ?_
                   refine JL.off 91 263 true (some 265) rfl ?_
                   refine JL.val (.bool false) (some 266) (gives_pickF rfl) ?_
                   refine JL.mv (.bool false) ?_
                   refine JL.off 95 267 true (some 268) rfl ?_
                   refine JL.off 95 267 true (some 269) rfl ?_
                   refine JL.off 95 267 true (some 270) rfl ?_
                   refine JL.val (.bool false) (some 271) (gives_pickF rfl) ?_
                   refine JL.mv (.bool false) ?_
                   refine JL.off 100 272 true (some 273) rfl ?_
                   refine JL.off 100 272 true (some 274) rfl ?_
                   refine JL.val (.bool false) (some 275) (gives_pickF rfl) ?_
                   refine JL.mv (.bool false) ?_
                   refine JL.off 104 276 true (some 277) rfl ?_
                   refine JL.off 104 276 true (some 278) rfl ?_
                   refine JL.off 104 276 true (some 279) rfl ?_
                   refine JL.val (.bool false) (some 280) (gives_pickF rfl) ?_
                   refine JL.mv (.bool false) ?_
                   refine JL.off 109 281 true (some 282) rfl ?_
                   refine JL.off 109 281 true (some 283) rfl ?_
                   refine JL.val (.bool false) (some 284) (gives_pickF rfl) ?_
                   refine JL.mv (.bool false) ?_
                   refine JL.off 113 285 true (some 286) rfl ?_
                   refine JL.off 113 285 true (some 287) rfl ?_
                   refine JL.val (.bool false) (some 288) (gives_pickF rfl) ?_
                   refine JL.mv (.bool false) ?_
                   refine JL.off 117 289 true (some 290) rfl ?_
                   refine JL.off 117 289 true (some 291) rfl ?_
                   refine JL.val (.bool false) (some 292) (gives_pickF rfl) ?_
                   refine JL.as (.bool false) ?_
                   refine JL.end_ ?_
                   refine JQ.then_normal ?_
                   refine JQ.sub [(0, .bool false)] ?_
                   refine JQ.mask [] [false, false, false] ?_
                   refine J.ret ?_
                   obtain rfl := Option.some.inj H0
                   exact JQ.done' (rs := [.tmp 0]) (vs := [.bool false]) [] (.inr rfl) ⟨by kernel_rfl, trivial⟩ (fun _ h => Heap.to h) ⟨rfl, rfl⟩
               · refine JL.off 26 198 true (some 199) h157 ?_
                 refine JL.off 26 198 true (some 200) h157 ?_
                 refine JL.val (.bool false) (some 201) (gives_pickF h157) ?_
                 refine JL.mv (.bool false) ?_
                 refine JL.off 30 202 true (some 203) rfl ?_
                 refine JL.off 30 202 true (some 204) rfl ?_
                 refine JL.val (.bool false) (some 205) (gives_pickF rfl) ?_
                 refine JL.mv (.bool false) ?_
                 refine JL.off 34 206 true (some 207) rfl ?_
                 refine JL.off 34 206 true (some 208) rfl ?_
                 refine JL.val (.bool false) (some 209) (gives_pickF rfl) ?_
                 refine JL.mv (.bool false) ?_
                 refine JL.off 38 210 true (some 211) rfl ?_
                 refine JL.off 38 210 true (some 212) rfl ?_
                 refine JL.val (.bool false) (some 213) (gives_pickF rfl) ?_
                 refine JL.mv (.bool false) ?_
                 refine JL.off 42 214 true (some 215) rfl ?_
                 refine JL.off 42 214 true (some 216) rfl ?_
                 refine JL.val (.bool false) (some 217) (gives_pickF rfl) ?_
                 refine JL.mv (.bool false) ?_
                 refine JL.off 46 218 true (some 219) rfl ?_
                 refine JL.off 46 218 true (some 220) rfl ?_
                 refine JL.val (.bool false) (some 221) (gives_pickF rfl) ?_
                 refine JL.mv (.bool false) ?_
                 refine JL.off 50 222 true (some 223) rfl ?_
                 refine JL.off 50 222 true (some 224) rfl ?_
                 refine JL.val (.bool false) (some 225) (gives_pickF rfl) ?_
                 refine JL.mv (.bool false) ?_
                 refine JL.off 54 226 true (some 227) rfl ?_
                 refine JL.off 54 226 true (some 228) rfl ?_
                 refine JL.val (.bool false) (some 229) (gives_pickF rfl) ?_
                 refine JL.mv (.bool false) ?_
                 refine JL.off 58 230 true (some 231) rfl ?_
                 refine JL.off 58 230 true (some 232) rfl ?_
                 refine JL.val (.bool false) (some 233) (gives_pickF rfl) ?_
                 refine JL.mv (.bool false) ?_
                 refine JL.off 62 234 true (some 235) rfl ?_
                 refine JL.off 62 234 true (some 236) rfl ?_
                 refine JL.val (.bool false) (some 237) (gives_pickF rfl) ?_
                 refine JL.mv (.bool false) ?_
                 refine JL.off 66 238 true (some 239) rfl ?_
                 refine JL.off 66 238 true (some 240) rfl ?_
                 refine JL.val (.bool false) (some 241) (gives_pickF rfl) ?_
                 refine JL.mv (.bool false) ?_
                 refine JL.off 70 242 true (some 243) rfl ?_
                 refine JL.off 70 242 true (some 244) rfl ?_
                 refine JL.val (.bool false) (some 245) (gives_pickF rfl) ?_
                 refine JL.mv (.bool false) ?_
                 refine JL.off 74 246 true (some 247) rfl ?_
                 refine JL.off 74 246 true (some 248) rfl ?_
                 refine JL.val (.bool false) (some 249) (gives_pickF rfl) ?_
                 refine JL.mv (.bool false) ?_
                 refine JL.off 78 250 true (some 251) rfl ?_
                 refine JL.off 78 250 true (some 252) rfl ?_
                 refine JL.val (.bool false) (some 253) (gives_pickF rfl) ?_
                 refine JL.mv (.bool false) ?_
                 refine JL.off 82 254 true (some 255) rfl ?_
                 refine JL.off 82 254 true (some 256) rfl ?_
                 refine JL.val (.bool false) (some 257) (gives_pickF rfl) ?_
                 refine JL.mv (.bool false) ?_
                 refine JL.off 86 258 true (some 259) rfl ?_
                 refine JL.off 86 258 true (some 260) rfl ?_
                 refine JL.off 86 258 true (some 261) rfl ?_
                 refine JL.val (.bool false) (some 262) (gives_pickF rfl) ?_
                 refine JL.mv (.bool false) ?_
                 refine JL.off 91 263 true (some 264) rfl ?_
                 refine JL.off 91 263 true (some 265) rfl ?_
                 refine JL.val (.bool false) (some 266) (gives_pickF rfl) ?_
                 refine JL.mv (.bool false) ?_
                 refine JL.off 95 267 true (some 268) rfl ?_
                 refine JL.off 95 267 true (some 269) rfl ?_
                 refine JL.off 95 267 true (some 270) rfl ?_
                 refine JL.val (.bool false) (some 271) (gives_pickF rfl) ?_
                 refine JL.mv (.bool false) ?_
                 refine JL.off 100 272 true (some 273) rfl ?_
                 refine JL.off 100 272 true (some 274) rfl ?_
                 refine JL.val (.bool false) (some 275) (gives_pickF rfl) ?_
                 refine JL.mv (.bool false) ?_
                 refine JL.off 104 276 true (some 277) rfl ?_
                 refine JL.off 104 276 true (some 278) rfl ?_
                 refine JL.off 104 276 true (some 279) rfl ?_
                 refine JL.val (.bool false) (some 280) (gives_pickF rfl) ?_
                 refine JL.mv (.bool false) ?_
                 refine JL.off 109 281 true (some 282) rfl ?_
                 refine JL.off 109 281 true (some 283) rfl ?_
                 refine JL.val (.bool false) (some 284) (gives_pickF rfl) ?_
                 refine JL.mv (.bool false) ?_
                 refine JL.off 113 285 true (some 286) rfl ?_
                 refine JL.off 113 285 true (some 287) rfl ?_
                 refine JL.val (.bool false) (some 288) (gives_pickF rfl) ?_
                 refine JL.mv (.bool false) ?_
                 refine JL.off 117 289 true (some 290) rfl ?_
                 refine JL.off 117 289 true (some 291) rfl ?_
                 refine JL.val (.bool false) (some 292) (gives_pickF rfl) ?_
                 refine JL.as (.bool false) ?_
                 refine JL.end_ ?_
                 refine JQ.then_normal ?_
                 refine JQ.sub [(0, .bool false)] ?_
                 refine JQ.mask [] [false, false, false] ?_
                 refine J.ret ?_
                 obtain rfl := Option.some.inj H0
                 exact JQ.done' (rs := [.tmp 0]) (vs := [.bool false]) [] (.inr rfl) ⟨by kernel_rfl, trivial⟩ (fun _ h => Heap.to h) ⟨rfl, rfl⟩
             · refine JL.off 22 194 true (some 195) h156 ?_
               refine JL.off 22 194 true (some 196) h156 ?_
               refine JL.val (.bool false) (some 197) (gives_pickF h156) ?_
               refine JL.mv (.bool false) ?_
               refine JL.off 26 198 true (some 199) rfl ?_
               refine JL.off 26 198 true (some 200) rfl ?_
               refine JL.val (.bool false) (some 201) (gives_pickF rfl) ?_
               refine JL.mv (.bool false) ?_
               refine JL.off 30 202 true (some 203) rfl ?_
               refine JL.off 30 202 true (some 204) rfl ?_
               refine JL.val (.bool false) (some 205) (gives_pickF rfl) ?_
               refine JL.mv (.bool false) ?_
               refine JL.off 34 206 true (some 207) rfl ?_
               refine JL.off 34 206 true (some 208) rfl ?_
               refine JL.val (.bool false) (some 209) (gives_pickF rfl) ?_
               refine JL.mv (.bool false) ?_
               refine JL.off 38 210 true (some 211) rfl ?_
               refine JL.off 38 210 true (some 212) rfl ?_
               refine JL.val (.bool false) (some 213) (gives_pickF rfl) ?_
               refine JL.mv (.bool false) ?_
               refine JL.off 42 214 true (some 215) rfl ?_
               refine JL.off 42 214 true (some 216) rfl ?_
               refine JL.val (.bool false) (some 217) (gives_pickF rfl) ?_
               refine JL.mv (.bool false) ?_
               refine JL.off 46 218 true (some 219) rfl ?_
               refine JL.off 46 218 true (some 220) rfl ?_
               refine JL.val (.bool false) (some 221) (gives_pickF rfl) ?_
               refine JL.mv (.bool false) ?_
               refine JL.off 50 222 true (some 223) rfl ?_
               refine JL.off 50 222 true (some 224) rfl ?_
               refine JL.val (.bool false) (some 225) (gives_pickF rfl) ?_
               refine JL.mv (.bool false) ?_
               refine JL.off 54 226 true (some 227) rfl ?_
               refine JL.off 54 226 true (some 228) rfl ?_
               refine JL.val (.bool false) (some 229) (gives_pickF rfl) ?_
               refine JL.mv (.bool false) ?_
               refine JL.off 58 230 true (some 231) rfl ?_
               refine JL.off 58 230 true (some 232) rfl ?_
               refine JL.val (.bool false) (some 233) (gives_pickF rfl) ?_
               refine JL.mv (.bool false) ?_
               refine JL.off 62 234 true (some 235) rfl ?_
               refine JL.off 62 234 true (some 236) rfl ?_
               refine JL.val (.bool false) (some 237) (gives_pickF rfl) ?_
               refine JL.mv (.bool false) ?_
               refine JL.off 66 238 true (some 239) rfl ?_
               refine JL.off 66 238 true (some 240) rfl ?_
               refine JL.val (.bool false) (some 241) (gives_pickF rfl) ?_
               refine JL.mv (.bool false) ?_
               refine JL.off 70 242 true (some 243) rfl ?_
               refine JL.off 70 242 true (some 244) rfl ?_
               refine JL.val (.bool false) (some 245) (gives_pickF rfl) ?_
               refine JL.mv (.bool false) ?_
               refine JL.off 74 246 true (some 247) rfl ?_
               refine JL.off 74 246 true (some 248) rfl ?_
               refine JL.val (.bool false) (some 249) (gives_pickF rfl) ?_
               refine JL.mv (.bool false) ?_
               refine JL.off 78 250 true (some 251) rfl ?_
               refine JL.off 78 250 true (some 252) rfl ?_
               refine JL.val (.bool false) (some 253) (gives_pickF rfl) ?_
               refine JL.mv (.bool false) ?_
               refine JL.off 82 254 true (some 255) rfl ?_
               refine JL.off 82 254 true (some 256) rfl ?_
               refine JL.val (.bool false) (some 257) (gives_pickF rfl) ?_
               refine JL.mv (.bool false) ?_
               refine JL.off 86 258 true (some 259) rfl ?_
               refine JL.off 86 258 true (some 260) rfl ?_
               refine JL.off 86 258 true (some 261) rfl ?_
               refine JL.val (.bool false) (some 262) (gives_pickF rfl) ?_
               refine JL.mv (.bool false) ?_
               refine JL.off 91 263 true (some 264) rfl ?_
               refine JL.off 91 263 true (some 265) rfl ?_
               refine JL.val (.bool false) (some 266) (gives_pickF rfl) ?_
               refine JL.mv (.bool false) ?_
               refine JL.off 95 267 true (some 268) rfl ?_
               refine JL.off 95 267 true (some 269) rfl ?_
               refine JL.off 95 267 true (some 270) rfl ?_
               refine JL.val (.bool false) (some 271) (gives_pickF rfl) ?_
               refine JL.mv (.bool false) ?_
               refine JL.off 100 272 true (some 273) rfl ?_
               refine JL.off 100 272 true (some 274) rfl ?_
               refine JL.val (.bool false) (some 275) (gives_pickF rfl) ?_
               refine JL.mv (.bool false) ?_
               refine JL.off 104 276 true (some 277) rfl ?_
               refine JL.off 104 276 true (some 278) rfl ?_
               refine JL.off 104 276 true (some 279) rfl ?_
               refine JL.val (.bool false) (some 280) (gives_pickF rfl) ?_
               refine JL.mv (.bool false) ?_
               refine JL.off 109 281 true (some 282) rfl ?_
               refine JL.off 109 281 true (some 283) rfl ?_
               refine JL.val (.bool false) (some 284) (gives_pickF rfl) ?_
               refine JL.mv (.bool false) ?_
               refine JL.off 113 285 true (some 286) rfl ?_
               refine JL.off 113 285 true (some 287) rfl ?_
               refine JL.val (.bool false) (some 288) (gives_pickF rfl) ?_
               refine JL.mv (.bool false) ?_
               refine JL.off 117 289 true (some 290) rfl ?_
               refine JL.off 117 289 true (some 291) rfl ?_
               refine JL.val (.bool false) (some 292) (gives_pickF rfl) ?_
               refine JL.as (.bool false) ?_
               refine JL.end_ ?_
               refine JQ.then_normal ?_
               refine JQ.sub [(0, .bool false)] ?_
               refine JQ.mask [] [false, false, false] ?_
               refine J.ret ?_
               obtain rfl := Option.some.inj H0
               exact JQ.done' (rs := [.tmp 0]) (vs := [.bool false]) [] (.inr rfl) ⟨by kernel_rfl, trivial⟩ (fun _ h => Heap.to h) ⟨rfl, rfl⟩
           · refine JL.off 18 190 true (some 191) h155 ?_
             refine JL.off 18 190 true (some 192) h155 ?_
             refine JL.val (.bool false) (some 193) (gives_pickF h155) ?_
             refine JL.mv (.bool false) ?_
             refine JL.off 22 194 true (some 195) rfl ?_
             refine JL.off 22 194 true (some 196) rfl ?_
             refine JL.val (.bool false) (some 197) (gives_pickF rfl) ?_
             refine JL.mv (.bool false) ?_
             refine JL.off 26 198 true (some 199) rfl ?_
             refine JL.off 26 198 true (some 200) rfl ?_
             refine JL.val (.bool false) (some 201) (gives_pickF rfl) ?_
             refine JL.mv (.bool false) ?_
             refine JL.off 30 202 true (some 203) rfl ?_
             refine JL.off 30 202 true (some 204) rfl ?_
             refine JL.val (.bool false) (some 205) (gives_pickF rfl) ?_
             refine JL.mv (.bool false) ?_
             refine JL.off 34 206 true (some 207) rfl ?_
             refine JL.off 34 206 true (some 208) rfl ?_
             refine JL.val (.bool false) (some 209) (gives_pickF rfl) ?_
             refine JL.mv (.bool false) ?_
             refine JL.off 38 210 true (some 211) rfl ?_
             refine JL.off 38 210 true (some 212) rfl ?_
             refine JL.val (.bool false) (some 213) (gives_pickF rfl) ?_
             refine JL.mv (.bool false) ?_
             refine JL.off 42 214 true (some 215) rfl ?_
             refine JL.off 42 214 true (some 216) rfl ?_
             refine JL.val (.bool false) (some 217) (gives_pickF rfl) ?_
             refine JL.mv (.bool false) ?_
             refine JL.off 46 218 true (some 219) rfl ?_
             refine JL.off 46 218 true (some 220) rfl ?_
             refine JL.val (.bool false) (some 221) (gives_pickF rfl) ?_
             refine JL.mv (.bool false) ?_
             refine JL.off 50 222 true (some 223) rfl ?_
             refine JL.off 50 222 true (some 224) rfl ?_
             refine JL.val (.bool false) (some 225) (gives_pickF rfl) ?_
             refine JL.mv (.bool false) ?_
             refine JL.off 54 226 true (some 227) rfl ?_
             refine JL.off 54 226 true (some 228) rfl ?_
             refine JL.val (.bool false) (some 229) (gives_pickF rfl) ?_
             refine JL.mv (.bool false) ?_
             refine JL.off 58 230 true (some 231) rfl ?_
             refine JL.off 58 230 true (some 232) rfl ?_
             refine JL.val (.bool false) (some 233) (gives_pickF rfl) ?_
             refine JL.mv (.bool false) ?_
             refine JL.off 62 234 true (some 235) rfl ?_
             refine JL.off 62 234 true (some 236) rfl ?_
             refine JL.val (.bool false) (some 237) (gives_pickF rfl) ?_
             refine JL.mv (.bool false) ?_
             refine JL.off 66 238 true (some 239) rfl ?_
             refine JL.off 66 238 true (some 240) rfl ?_
             refine JL.val (.bool false) (some 241) (gives_pickF rfl) ?_
             refine JL.mv (.bool false) ?_
             refine JL.off 70 242 true (some 243) rfl ?_
             refine JL.off 70 242 true (some 244) rfl ?_
             refine JL.val (.bool false) (some 245) (gives_pickF rfl) ?_
             refine JL.mv (.bool false) ?_
             refine JL.off 74 246 true (some 247) rfl ?_
             refine JL.off 74 246 true (some 248) rfl ?_
             refine JL.val (.bool false) (some 249) (gives_pickF rfl) ?_
             refine JL.mv (.bool false) ?_
             refine JL.off 78 250 true (some 251) rfl ?_
             refine JL.off 78 250 true (some 252) rfl ?_
             refine JL.val (.bool false) (some 253) (gives_pickF rfl) ?_
             refine JL.mv (.bool false) ?_
             refine JL.off 82 254 true (some 255) rfl ?_
             refine JL.off 82 254 true (some 256) rfl ?_
             refine JL.val (.bool false) (some 257) (gives_pickF rfl) ?_
             refine JL.mv (.bool false) ?_
             refine JL.off 86 258 true (some 259) rfl ?_
             refine JL.off 86 258 true (some 260) rfl ?_
             refine JL.off 86 258 true (some 261) rfl ?_
             refine JL.val (.bool false) (some 262) (gives_pickF rfl) ?_
             refine JL.mv (.bool false) ?_
             refine JL.off 91 263 true (some 264) rfl ?_
             refine JL.off 91 263 true (some 265) rfl ?_
             refine JL.val (.bool false) (some 266) (gives_pickF rfl) ?_
             refine JL.mv (.bool false) ?_
             refine JL.off 95 267 true (some 268) rfl ?_
             refine JL.off 95 267 true (some 269) rfl ?_
             refine JL.off 95 267 true (some 270) rfl ?_
             refine JL.val (.bool false) (some 271) (gives_pickF rfl) ?_
             refine JL.mv (.bool false) ?_
             refine JL.off 100 272 true (some 273) rfl ?_
             refine JL.off 100 272 true (some 274) rfl ?_
             refine JL.val (.bool false) (some 275) (gives_pickF rfl) ?_
             refine JL.mv (.bool false) ?_
             refine JL.off 104 276 true (some 277) rfl ?_
             refine JL.off 104 276 true (some 278) rfl ?_
             refine JL.off 104 276 true (some 279) rfl ?_
             refine JL.val (.bool false) (some 280) (gives_pickF rfl) ?_
             refine JL.mv (.bool false) ?_
             refine JL.off 109 281 true (some 282) rfl ?_
             refine JL.off 109 281 true (some 283) rfl ?_
             refine JL.val (.bool false) (some 284) (gives_pickF rfl) ?_
             refine JL.mv (.bool false) ?_
             refine JL.off 113 285 true (some 286) rfl ?_
             refine JL.off 113 285 true (some 287) rfl ?_
             refine JL.val (.bool false) (some 288) (gives_pickF rfl) ?_
             refine JL.mv (.bool false) ?_
             refine JL.off 117 289 true (some 290) rfl ?_
             refine JL.off 117 289 true (some 291) rfl ?_
             refine JL.val (.bool false) (some 292) (gives_pickF rfl) ?_
             refine JL.as (.bool false) ?_
             refine JL.end_ ?_
             refine JQ.then_normal ?_
             refine JQ.sub [(0, .bool false)] ?_
             refine JQ.mask [] [false, false, false] ?_
             refine J.ret ?_
             obtain rfl := Option.some.inj H0
             exact JQ.done' (rs := [.tmp 0]) (vs := [.bool false]) [] (.inr rfl) ⟨by kernel_rfl, trivial⟩ (fun _ h => Heap.to h) ⟨rfl, rfl⟩
         · refine JL.off 14 186 true (some 187) h154 ?_
           refine JL.off 14 186 true (some 188) h154 ?_
           refine JL.val (.bool false) (some 189) (gives_pickF h154) ?_
           refine JL.mv (.bool false) ?_
           refine JL.off 18 190 true (some 191) rfl ?_
           refine JL.off 18 190 true (some 192) rfl ?_
           refine JL.val (.bool false) (some 193) (gives_pickF rfl) ?_
           refine JL.mv (.bool false) ?_
           refine JL.off 22 194 true (some 195) rfl ?_
           refine JL.off 22 194 true (some 196) rfl ?_
           refine JL.val (.bool false) (some 197) (gives_pickF rfl) ?_
           refine JL.mv (.bool false) ?_
           refine JL.off 26 198 true (some 199) rfl ?_
           refine JL.off 26 198 true (some 200) rfl ?_
           refine JL.val (.bool false) (some 201) (gives_pickF rfl) ?_
           refine JL.mv (.bool false) ?_
           refine JL.off 30 202 true (some 203) rfl ?_
           refine JL.off 30 202 true (some 204) rfl ?_
           refine JL.val (.bool false) (some 205) (gives_pickF rfl) ?_
           refine JL.mv (.bool false) ?_
           refine JL.off 34 206 true (some 207) rfl ?_
           refine JL.off 34 206 true (some 208) rfl ?_
           refine JL.val (.bool false) (some 209) (gives_pickF rfl) ?_
           refine JL.mv (.bool false) ?_
           refine JL.off 38 210 true (some 211) rfl ?_
           refine JL.off 38 210 true (some 212) rfl ?_
           refine JL.val (.bool false) (some 213) (gives_pickF rfl) ?_
           refine JL.mv (.bool false) ?_
           refine JL.off 42 214 true (some 215) rfl ?_
           refine JL.off 42 214 true (some 216) rfl ?_
           refine JL.val (.bool false) (some 217) (gives_pickF rfl) ?_
           refine JL.mv (.bool false) ?_
           refine JL.off 46 218 true (some 219) rfl ?_
           refine JL.off 46 218 true (some 220) rfl ?_
           refine JL.val (.bool false) (some 221) (gives_pickF rfl) ?_
           refine JL.mv (.bool false) ?_
           refine JL.off 50 222 true (some 223) rfl ?_
           refine JL.off 50 222 true (some 224) rfl ?_
           refine JL.val (.bool false) (some 225) (gives_pickF rfl) ?_
           refine JL.mv (.bool false) ?_
           refine JL.off 54 226 true (some 227) rfl ?_
           refine JL.off 54 226 true (some 228) rfl ?_
           refine JL.val (.bool false) (some 229) (gives_pickF rfl) ?_
           refine JL.mv (.bool false) ?_
           refine JL.off 58 230 true (some 231) rfl ?_
           refine JL.off 58 230 true (some 232) rfl ?_
           refine JL.val (.bool false) (some 233) (gives_pickF rfl) ?_
           refine JL.mv (.bool false) ?_
           refine JL.off 62 234 true (some 235) rfl ?_
           refine JL.off 62 234 true (some 236) rfl ?_
           refine JL.val (.bool false) (some 237) (gives_pickF rfl) ?_
           refine JL.mv (.bool false) ?_
           refine JL.off 66 238 true (some 239) rfl ?_
           refine JL.off 66 238 true (some 240) rfl ?_
           refine JL.val (.bool false) (some 241) (gives_pickF rfl) ?_
           refine JL.mv (.bool false) ?_
           refine JL.off 70 242 true (some 243) rfl ?_
           refine JL.off 70 242 true (some 244) rfl ?_
           refine JL.val (.bool false) (some 245) (gives_pickF rfl) ?_
           refine JL.mv (.bool false) ?_
           refine JL.off 74 246 true (some 247) rfl ?_
           refine JL.off 74 246 true (some 248) rfl ?_
           refine JL.val (.bool false) (some 249) (gives_pickF rfl) ?_
           refine JL.mv (.bool false) ?_
           refine JL.off 78 250 true (some 251) rfl ?_
           refine JL.off 78 250 true (some 252) rfl ?_
           refine JL.val (.bool false) (some 253) (gives_pickF rfl) ?_
           refine JL.mv (.bool false) ?_
           refine JL.off 82 254 true (some 255) rfl ?_
           refine JL.off 82 254 true (some 256) rfl ?_
           refine JL.val (.bool false) (some 257) (gives_pickF rfl) ?_
           refine JL.mv (.bool false) ?_
           refine JL.off 86 258 true (some 259) rfl ?_
           refine JL.off 86 258 true (some 260) rfl ?_
           refine JL.off 86 258 true (some 261) rfl ?_
           refine JL.val (.bool false) (some 262) (gives_pickF rfl) ?_
           refine JL.mv (.bool false) ?_
           refine JL.off 91 263 true (some 264) rfl ?_
           refine JL.off 91 263 true (some 265) rfl ?_
           refine JL.val (.bool false) (some 266) (gives_pickF rfl) ?_
           refine JL.mv (.bool false) ?_
           refine JL.off 95 267 true (some 268) rfl ?_
           refine JL.off 95 267 true (some 269) rfl ?_
           refine JL.off 95 267 true (some 270) rfl ?_
           refine JL.val (.bool false) (some 271) (gives_pickF rfl) ?_
           refine JL.mv (.bool false) ?_
           refine JL.off 100 272 true (some 273) rfl ?_
           refine JL.off 100 272 true (some 274) rfl ?_
           refine JL.val (.bool false) (some 275) (gives_pickF rfl) ?_
           refine JL.mv (.bool false) ?_
           refine JL.off 104 276 true (some 277) rfl ?_
           refine JL.off 104 276 true (some 278) rfl ?_
           refine JL.off 104 276 true (some 279) rfl ?_
           refine JL.val (.bool false) (some 280) (gives_pickF rfl) ?_
           refine JL.mv (.bool false) ?_
           refine JL.off 109 281 true (some 282) rfl ?_
           refine JL.off 109 281 true (some 283) rfl ?_
           refine JL.val (.bool false) (some 284) (gives_pickF rfl) ?_
           refine JL.mv (.bool false) ?_
           refine JL.off 113 285 true (some 286) rfl ?_
           refine JL.off 113 285 true (some 287) rfl ?_
           refine JL.val (.bool false) (some 288) (gives_pickF rfl) ?_
           refine JL.mv (.bool false) ?_
           refine JL.off 117 289 true (some 290) rfl ?_
           refine JL.off 117 289 true (some 291) rfl ?_
           refine JL.val (.bool false) (some 292) (gives_pickF rfl) ?_
           refine JL.as (.bool false) ?_
           refine JL.end_ ?_
           refine JQ.then_normal ?_
           refine JQ.sub [(0, .bool false)] ?_
           refine JQ.mask [] [false, false, false] ?_
           refine J.ret ?_
           obtain rfl := Option.some.inj H0
           exact JQ.done' (rs := [.tmp 0]) (vs := [.bool false]) [] (.inr rfl) ⟨by kernel_rfl, trivial⟩ (fun _ h => Heap.to h) ⟨rfl, rfl⟩
       · refine JL.off 10 182 true (some 183) h153 ?_
         refine JL.off 10 182 true (some 184) h153 ?_
         refine JL.val (.bool false) (some 185) (gives_pickF h153) ?_
         refine JL.mv (.bool false) ?_
         refine JL.off 14 186 true (some 187) rfl ?_
         refine JL.off 14 186 true (some 188) rfl ?_
         refine JL.val (.bool false) (some 189) (gives_pickF rfl) ?_
         refine JL.mv (.bool false) ?_
         refine JL.off 18 190 true (some 191) rfl ?_
         refine JL.off 18 190 true (some 192) rfl ?_
         refine JL.val (.bool false) (some 193) (gives_pickF rfl) ?_
         refine JL.mv (.bool false) ?_
         refine JL.off 22 194 true (some 195) rfl ?_
         refine JL.off 22 194 true (some 196) rfl ?_
         refine JL.val (.bool false) (some 197) (gives_pickF rfl) ?_
         refine JL.mv (.bool false) ?_
         refine JL.off 26 198 true (some 199) rfl ?_
         refine JL.off 26 198 true (some 200) rfl ?_
         refine JL.val (.bool false) (some 201) (gives_pickF rfl) ?_
         refine JL.mv (.bool false) ?_
         refine JL.off 30 202 true (some 203) rfl ?_
         refine JL.off 30 202 true (some 204) rfl ?_
         refine JL.val (.bool false) (some 205) (gives_pickF rfl) ?_
         refine JL.mv (.bool false) ?_
         refine JL.off 34 206 true (some 207) rfl ?_
         refine JL.off 34 206 true (some 208) rfl ?_
         refine JL.val (.bool false) (some 209) (gives_pickF rfl) ?_
         refine JL.mv (.bool false) ?_
         refine JL.off 38 210 true (some 211) rfl ?_
         refine JL.off 38 210 true (some 212) rfl ?_
         refine JL.val (.bool false) (some 213) (gives_pickF rfl) ?_
         refine JL.mv (.bool false) ?_
         refine JL.off 42 214 true (some 215) rfl ?_
         refine JL.off 42 214 true (some 216) rfl ?_
         refine JL.val (.bool false) (some 217) (gives_pickF rfl) ?_
         refine JL.mv (.bool false) ?_
         refine JL.off 46 218 true (some 219) rfl ?_
         refine JL.off 46 218 true (some 220) rfl ?_
         refine JL.val (.bool false) (some 221) (gives_pickF rfl) ?_
         refine JL.mv (.bool false) ?_
         refine JL.off 50 222 true (some 223) rfl ?_
         refine JL.off 50 222 true (some 224) rfl ?_
         refine JL.val (.bool false) (some 225) (gives_pickF rfl) ?_
         refine JL.mv (.bool false) ?_
         refine JL.off 54 226 true (some 227) rfl ?_
         refine JL.off 54 226 true (some 228) rfl ?_
         refine JL.val (.bool false) (some 229) (gives_pickF rfl) ?_
         refine JL.mv (.bool false) ?_
         refine JL.off 58 230 true (some 231) rfl ?_
         refine JL.off 58 230 true (some 232) rfl ?_
         refine JL.val (.bool false) (some 233) (gives_pickF rfl) ?_
         refine JL.mv (.bool false) ?_
         refine JL.off 62 234 true (some 235) rfl ?_
         refine JL.off 62 234 true (some 236) rfl ?_
         refine JL.val (.bool false) (some 237) (gives_pickF rfl) ?_
         refine JL.mv (.bool false) ?_
         refine JL.off 66 238 true (some 239) rfl ?_
         refine JL.off 66 238 true (some 240) rfl ?_
         refine JL.val (.bool false) (some 241) (gives_pickF rfl) ?_
         refine JL.mv (.bool false) ?_
         refine JL.off 70 242 true (some 243) rfl ?_
         refine JL.off 70 242 true (some 244) rfl ?_
         refine JL.val (.bool false) (some 245) (gives_pickF rfl) ?_
         refine JL.mv (.bool false) ?_
         refine JL.off 74 246 true (some 247) rfl ?_
         refine JL.off 74 246 true (some 248) rfl ?_
         refine JL.val (.bool false) (some 249) (gives_pickF rfl) ?_
         refine JL.mv (.bool false) ?_
         refine JL.off 78 250 true (some 251) rfl ?_
         refine JL.off 78 250 true (some 252) rfl ?_
         refine JL.val (.bool false) (some 253) (gives_pickF rfl) ?_
         refine JL.mv (.bool false) ?_
         refine JL.off 82 254 true (some 255) rfl ?_
         refine JL.off 82 254 true (some 256) rfl ?_
         refine JL.val (.bool false) (some 257) (gives_pickF rfl) ?_
         refine JL.mv (.bool false) ?_
         refine JL.off 86 258 true (some 259) rfl ?_
         refine JL.off 86 258 true (some 260) rfl ?_
         refine JL.off 86 258 true (some 261) rfl ?_
         refine JL.val (.bool false) (some 262) (gives_pickF rfl) ?_
         refine JL.mv (.bool false) ?_
         refine JL.off 91 263 true (some 264) rfl ?_
         refine JL.off 91 263 true (some 265) rfl ?_
         refine JL.val (.bool false) (some 266) (gives_pickF rfl) ?_
         refine JL.mv (.bool false) ?_
         refine JL.off 95 267 true (some 268) rfl ?_
         refine JL.off 95 267 true (some 269) rfl ?_
         refine JL.off 95 267 true (some 270) rfl ?_
         refine JL.val (.bool false) (some 271) (gives_pickF rfl) ?_
         refine JL.mv (.bool false) ?_
         refine JL.off 100 272 true (some 273) rfl ?_
         refine JL.off 100 272 true (some 274) rfl ?_
         refine JL.val (.bool false) (some 275) (gives_pickF rfl) ?_
         refine JL.mv (.bool false) ?_
         refine JL.off 104 276 true (some 277) rfl ?_
         refine JL.off 104 276 true (some 278) rfl ?_
         refine JL.off 104 276 true (some 279) rfl ?_
         refine JL.val (.bool false) (some 280) (gives_pickF rfl) ?_
         refine JL.mv (.bool false) ?_
         refine JL.off 109 281 true (some 282) rfl ?_
         refine JL.off 109 281 true (some 283) rfl ?_
         refine JL.val (.bool false) (some 284) (gives_pickF rfl) ?_
         refine JL.mv (.bool false) ?_
         refine JL.off 113 285 true (some 286) rfl ?_
         refine JL.off 113 285 true (some 287) rfl ?_
         refine JL.val (.bool false) (some 288) (gives_pickF rfl) ?_
         refine JL.mv (.bool false) ?_
         refine JL.off 117 289 true (some 290) rfl ?_
         refine JL.off 117 289 true (some 291) rfl ?_
         refine JL.val (.bool false) (some 292) (gives_pickF rfl) ?_
         refine JL.as (.bool false) ?_
         refine JL.end_ ?_
         refine JQ.then_normal ?_
         refine JQ.sub [(0, .bool false)] ?_
         refine JQ.mask [] [false, false, false] ?_
         refine J.ret ?_
         obtain rfl := Option.some.inj H0
         exact JQ.done' (rs := [.tmp 0]) (vs := [.bool false]) [] (.inr rfl) ⟨by kernel_rfl, trivial⟩ (fun _ h => Heap.to h) ⟨rfl, rfl⟩
     · refine JL.off 6 178 true (some 179) h152 ?_
       refine JL.off 6 178 true (some 180) h152 ?_
       refine JL.val (.bool false) (some 181) (gives_pickF h152) ?_
       refine JL.mv (.bool false) ?_
       refine JL.off 10 182 true (some 183) rfl ?_
       refine JL.off 10 182 true (some 184) rfl ?_
       refine JL.val (.bool false) (some 185) (gives_pickF rfl) ?_
       refine JL.mv (.bool false) ?_
       refine JL.off 14 186 true (some 187) rfl ?_
       refine JL.off 14 186 true (some 188) rfl ?_
       refine JL.val (.bool false) (some 189) (gives_pickF rfl) ?_
       refine JL.mv (.bool false) ?_
       refine JL.off 18 190 true (some 191) rfl ?_
       refine JL.off 18 190 true (some 192) rfl ?_
       refine JL.val (.bool false) (some 193) (gives_pickF rfl) ?_
       refine JL.mv (.bool false) ?_
       refine JL.off 22 194 true (some 195) rfl ?_
       refine JL.off 22 194 true (some 196) rfl ?_
       refine JL.val (.bool false) (some 197) (gives_pickF rfl) ?_
       refine JL.mv (.bool false) ?_
       refine JL.off 26 198 true (some 199) rfl ?_
       refine JL.off 26 198 true (some 200) rfl ?_
       refine JL.val (.bool false) (some 201) (gives_pickF rfl) ?_
       refine JL.mv (.bool false) ?_
       refine JL.off 30 202 true (some 203) rfl ?_
       refine JL.off 30 202 true (some 204) rfl ?_
       refine JL.val (.bool false) (some 205) (gives_pickF rfl) ?_
       refine JL.mv (.bool false) ?_
       refine JL.off 34 206 true (some 207) rfl ?_
       refine JL.off 34 206 true (some 208) rfl ?_
       refine JL.val (.bool false) (some 209) (gives_pickF rfl) ?_
       refine JL.mv (.bool false) ?_
       refine JL.off 38 210 true (some 211) rfl ?_
       refine JL.off 38 210 true (some 212) rfl ?_
       refine JL.val (.bool false) (some 213) (gives_pickF rfl) ?_
       refine JL.mv (.bool false) ?_
       refine JL.off 42 214 true (some 215) rfl ?_
       refine JL.off 42 214 true (some 216) rfl ?_
       refine JL.val (.bool false) (some 217) (gives_pickF rfl) ?_
       refine JL.mv (.bool false) ?_
       refine JL.off 46 218 true (some 219) rfl ?_
       refine JL.off 46 218 true (some 220) rfl ?_
       refine JL.val (.bool false) (some 221) (gives_pickF rfl) ?_
       refine JL.mv (.bool false) ?_
       refine JL.off 50 222 true (some 223) rfl ?_
       refine JL.off 50 222 true (some 224) rfl ?_
       refine JL.val (.bool false) (some 225) (gives_pickF rfl) ?_
       refine JL.mv (.bool false) ?_
       refine JL.off 54 226 true (some 227) rfl ?_
       refine JL.off 54 226 true (some 228) rfl ?_
       refine JL.val (.bool false) (some 229) (gives_pickF rfl) ?_
       refine JL.mv (.bool false) ?_
       refine JL.off 58 230 true (some 231) rfl ?_
       refine JL.off 58 230 true (some 232) rfl ?_
       refine JL.val (.bool false) (some 233) (gives_pickF rfl) ?_
       refine JL.mv (.bool false) ?_
       refine JL.off 62 234 true (some 235) rfl ?_
       refine JL.off 62 234 true (some 236) rfl ?_
       refine JL.val (.bool false) (some 237) (gives_pickF rfl) ?_
       refine JL.mv (.bool false) ?_
       refine JL.off 66 238 true (some 239) rfl ?_
       refine JL.off 66 238 true (some 240) rfl ?_
       refine JL.val (.bool false) (some 241) (gives_pickF rfl) ?_
       refine JL.mv (.bool false) ?_
       refine JL.off 70 242 true (some 243) rfl ?_
       refine JL.off 70 242 true (some 244) rfl ?_
       refine JL.val (.bool false) (some 245) (gives_pickF rfl) ?_
       refine JL.mv (.bool false) ?_
       refine JL.off 74 246 true (some 247) rfl ?_
       refine JL.off 74 246 true (some 248) rfl ?_
       refine JL.val (.bool false) (some 249) (gives_pickF rfl) ?_
       refine JL.mv (.bool false) ?_
       refine JL.off 78 250 true (some 251) rfl ?_
       refine JL.off 78 250 true (some 252) rfl ?_
       refine JL.val (.bool false) (some 253) (gives_pickF rfl) ?_
       refine JL.mv (.bool false) ?_
       refine JL.off 82 254 true (some 255) rfl ?_
       refine JL.off 82 254 true (some 256) rfl ?_
       refine JL.val (.bool false) (some 257) (gives_pickF rfl) ?_
       refine JL.mv (.bool false) ?_
       refine JL.off 86 258 true (some 259) rfl ?_
       refine JL.off 86 258 true (some 260) rfl ?_
       refine JL.off 86 258 true (some 261) rfl ?_
       refine JL.val (.bool false) (some 262) (gives_pickF rfl) ?_
       refine JL.mv (.bool false) ?_
       refine JL.off 91 263 true (some 264) rfl ?_
       refine JL.off 91 263 true (some 265) rfl ?_
       refine JL.val (.bool false) (some 266) (gives_pickF rfl) ?_
       refine JL.mv (.bool false) ?_
       refine JL.off 95 267 true (some 268) rfl ?_
       refine JL.off 95 267 true (some 269) rfl ?_
       refine JL.off 95 267 true (some 270) rfl ?_
       refine JL.val (.bool false) (some 271) (gives_pickF rfl) ?_
       refine JL.mv (.bool false) ?_
       refine JL.off 100 272 true (some 273) rfl ?_
       refine JL.off 100 272 true (some 274) rfl ?_
       refine JL.val (.bool false) (some 275) (gives_pickF rfl) ?_
       refine JL.mv (.bool false) ?_
       refine JL.off 104 276 true (some 277) rfl ?_
       refine JL.off 104 276 true (some 278) rfl ?_
       refine JL.off 104 276 true (some 279) rfl ?_
       refine JL.val (.bool false) (some 280) (gives_pickF rfl) ?_
       refine JL.mv (.bool false) ?_
       refine JL.off 109 281 true (some 282) rfl ?_
       refine JL.off 109 281 true (some 283) rfl ?_
       refine JL.val (.bool false) (some 284) (gives_pickF rfl) ?_
       refine JL.mv (.bool false) ?_
       refine JL.off 113 285 true (some 286) rfl ?_
       refine JL.off 113 285 true (some 287) rfl ?_
       refine JL.val (.bool false) (some 288) (gives_pickF rfl) ?_
       refine JL.mv (.bool false) ?_
       refine JL.off 117 289 true (some 290) rfl ?_
       refine JL.off 117 289 true (some 291) rfl ?_
       refine JL.val (.bool false) (some 292) (gives_pickF rfl) ?_
       refine JL.as (.bool false) ?_
       refine JL.end_ ?_
       refine JQ.then_normal ?_
       refine JQ.sub [(0, .bool false)] ?_
       refine JQ.mask [] [false, false, false] ?_
       refine J.ret ?_
       obtain rfl := Option.some.inj H0
       exact JQ.done' (rs := [.tmp 0]) (vs := [.bool false]) [] (.inr rfl) ⟨by kernel_rfl, trivial⟩ (fun _ h => Heap.to h) ⟨rfl, rfl⟩
   · refine JL.off 3 175 true (some 176) h151 ?_
     refine JL.val (.bool false) (some 177) (gives_pickF h151) ?_
     refine JL.mv (.bool false) ?_
     refine JL.off 6 178 true (some 179) rfl ?_
     refine JL.off 6 178 true (some 180) rfl ?_
     refine JL.val (.bool false) (some 181) (gives_pickF rfl) ?_
     refine JL.mv (.bool false) ?_
     refine JL.off 10 182 true (some 183) rfl ?_
     refine JL.off 10 182 true (some 184) rfl ?_
     refine JL.val (.bool false) (some 185) (gives_pickF rfl) ?_
     refine JL.mv (.bool false) ?_
     refine JL.off 14 186 true (some 187) rfl ?_
     refine JL.off 14 186 true (some 188) rfl ?_
     refine JL.val (.bool false) (some 189) (gives_pickF rfl) ?_
     refine JL.mv (.bool false) ?_
     refine JL.off 18 190 true (some 191) rfl ?_
     refine JL.off 18 190 true (some 192) rfl ?_
     refine JL.val (.bool false) (some 193) (gives_pickF rfl) ?_
     refine JL.mv (.bool false) ?_
     refine JL.off 22 194 true (some 195) rfl ?_
     refine JL.off 22 194 true (some 196) rfl ?_
     refine JL.val (.bool false) (some 197) (gives_pickF rfl) ?_
     refine JL.mv (.bool false) ?_
     refine JL.off 26 198 true (some 199) rfl ?_
     refine JL.off 26 198 true (some 200) rfl ?_
     refine JL.val (.bool false) (some 201) (gives_pickF rfl) ?_
     refine JL.mv (.bool false) ?_
     refine JL.off 30 202 true (some 203) rfl ?_
     refine JL.off 30 202 true (some 204) rfl ?_
     refine JL.val (.bool false) (some 205) (gives_pickF rfl) ?_
     refine JL.mv (.bool false) ?_
     refine JL.off 34 206 true (some 207) rfl ?_
     refine JL.off 34 206 true (some 208) rfl ?_
     refine JL.val (.bool false) (some 209) (gives_pickF rfl) ?_
     refine JL.mv (.bool false) ?_
     refine JL.off 38 210 true (some 211) rfl ?_
     refine JL.off 38 210 true (some 212) rfl ?_
     refine JL.val (.bool false) (some 213) (gives_pickF rfl) ?_
     refine JL.mv (.bool false) ?_
     refine JL.off 42 214 true (some 215) rfl ?_
     refine JL.off 42 214 true (some 216) rfl ?_
     refine JL.val (.bool false) (some 217) (gives_pickF rfl) ?_
     refine JL.mv (.bool false) ?_
     refine JL.off 46 218 true (some 219) rfl ?_
     refine JL.off 46 218 true (some 220) rfl ?_
     refine JL.val (.bool false) (some 221) (gives_pickF rfl) ?_
     refine JL.mv (.bool false) ?_
     refine JL.off 50 222 true (some 223) rfl ?_
     refine JL.off 50 222 true (some 224) rfl ?_
     refine JL.val (.bool false) (some 225) (gives_pickF rfl) ?_
     refine JL.mv (.bool false) ?_
     refine JL.off 54 226 true (some 227) rfl ?_
     refine JL.off 54 226 true (some 228) rfl ?_
     refine JL.val (.bool false) (some 229) (gives_pickF rfl) ?_
     refine JL.mv (.bool false) ?_
     refine JL.off 58 230 true (some 231) rfl ?_
     refine JL.off 58 230 true (some 232) rfl ?_
     refine JL.val (.bool false) (some 233) (gives_pickF rfl) ?_
     refine JL.mv (.bool false) ?_
     refine JL.off 62 234 true (some 235) rfl ?_
     refine JL.off 62 234 true (some 236) rfl ?_
     refine JL.val (.bool false) (some 237) (gives_pickF rfl) ?_
     refine JL.mv (.bool false) ?_
     refine JL.off 66 238 true (some 239) rfl ?_
     refine JL.off 66 238 true (some 240) rfl ?_
     refine JL.val (.bool false) (some 241) (gives_pickF rfl) ?_
     refine JL.mv (.bool false) ?_
     refine JL.off 70 242 true (some 243) rfl ?_
     refine JL.off 70 242 true (some 244) rfl ?_
     refine JL.val (.bool false) (some 245) (gives_pickF rfl) ?_
     refine JL.mv (.bool false) ?_
     refine JL.off 74 246 true (some 247) rfl ?_
     refine JL.off 74 246 true (some 248) rfl ?_
     refine JL.val (.bool false) (some 249) (gives_pickF rfl) ?_
     refine JL.mv (.bool false) ?_
     refine JL.off 78 250 true (some 251) rfl ?_
     refine JL.off 78 250 true (some 252) rfl ?_
     refine JL.val (.bool false) (some 253) (gives_pickF rfl) ?_
     refine JL.mv (.bool false) ?_
     refine JL.off 82 254 true (some 255) rfl ?_
     refine JL.off 82 254 true (some 256) rfl ?_
     refine JL.val (.bool false) (some 257) (gives_pickF rfl) ?_
     refine JL.mv (.bool false) ?_
     refine JL.off 86 258 true (some 259) rfl ?_
     refine JL.off 86 258 true (some 260) rfl ?_
     refine JL.off 86 258 true (some 261) rfl ?_
     refine JL.val (.bool false) (some 262) (gives_pickF rfl) ?_
     refine JL.mv (.bool false) ?_
     refine JL.off 91 263 true (some 264) rfl ?_
     refine JL.off 91 263 true (some 265) rfl ?_
     refine JL.val (.bool false) (some 266) (gives_pickF rfl) ?_
     refine JL.mv (.bool false) ?_
     refine JL.off 95 267 true (some 268) rfl ?_
     refine JL.off 95 267 true (some 269) rfl ?_
     refine JL.off 95 267 true (some 270) rfl ?_
     refine JL.val (.bool false) (some 271) (gives_pickF rfl) ?_
     refine JL.mv (.bool false) ?_
     refine JL.off 100 272 true (some 273) rfl ?_
     refine JL.off 100 272 true (some 274) rfl ?_
     refine JL.val (.bool false) (some 275) (gives_pickF rfl) ?_
     refine JL.mv (.bool false) ?_
     refine JL.off 104 276 true (some 277) rfl ?_
     refine JL.off 104 276 true (some 278) rfl ?_
     refine JL.off 104 276 true (some 279) rfl ?_
     refine JL.val (.bool false) (some 280) (gives_pickF rfl) ?_
     refine JL.mv (.bool false) ?_
     refine JL.off 109 281 true (some 282) rfl ?_
     refine JL.off 109 281 true (some 283) rfl ?_
     refine JL.val (.bool false) (some 284) (gives_pickF rfl) ?_
     refine JL.mv (.bool false) ?_
     refine JL.off 113 285 true (some 286) rfl ?_
     refine JL.off 113 285 true (some 287) rfl ?_
     refine JL.val (.bool false) (some 288) (gives_pickF rfl) ?_
     refine JL.mv (.bool false) ?_
     refine JL.off 117 289 true (some 290) rfl ?_
     refine JL.off 117 289 true (some 291) rfl ?_
     refine JL.val (.bool false) (some 292) (gives_pickF rfl) ?_
     refine JL.as (.bool false) ?_
     refine JL.end_ ?_
     refine JQ.then_normal ?_
     refine JQ.sub [(0, .bool false)] ?_
     refine JQ.mask [] [false, false, false] ?_
     refine J.ret ?_
     obtain rfl := Option.some.inj H0
     exact JQ.done' (rs := [.tmp 0]) (vs := [.bool false]) [] (.inr rfl) ⟨by kernel_rfl, trivial⟩ (fun _ h => Heap.to h) ⟨rfl, rfl⟩


end Go.Proofs.Ytlemaejpllhjnaa.M
