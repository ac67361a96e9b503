import Derived.Test.YtifpegepdgmmbaaW1
set_option linter.unusedVariables false
set_option linter.unusedSimpArgs false
set_option maxRecDepth 100000
set_option maxHeartbeats 8000000
namespace Go.Proofs.Ytifpegepdgmmbaa.M
open Go.GW Go.Proofs

theorem corrupt_fours__corrupt_alike_2.ok (l1 : (List Int)) (Aa2 : Option Addr) (c3 : Nat) (v5 : (List Vis)) (b6 : Nat) (Aa7 : Option Addr) (c8 : Nat) (v10 : (List Vis)) (b11 : Nat) (Aa12 : Option Addr) (c13 : Nat) (b15 : Nat) (r : Bool) (H0 : corrupt_fours__corrupt_alike_2.f l1 v5 v10 = some r) :
    Does Try.prog 59 [.slice Aa2 l1.length c3, .func (.func 61) #[] #[.pointer (some ⟨b15, 0, none⟩)]].toArray [At.rd Aa2 c3 ((flInt .i64).kd) l1 true, At.rd Aa7 c8 fl_Vis.kd v5 true, At.rd Aa12 c13 fl_Vis.kd v10 true] [At.box b6 48 [.slice Aa7 v5.length c8], At.box b11 48 [.slice Aa12 v10.length c13], At.box b15 95 [.func (.func 57) #[] #[.pointer (some ⟨b6, 0, none⟩), .pointer (some ⟨b11, 0, none⟩)]]] false (fun v Δ => v = .bool r ∧ Δ = [At.box b6 48 [.slice Aa7 v5.length c8], At.box b11 48 [.slice Aa12 v10.length c13], At.box b15 95 [.func (.func 57) #[] #[.pointer (some ⟨b6, 0, none⟩), .pointer (some ⟨b11, 0, none⟩)]]]) := by
 refine Does.body (vs := [.slice Aa2 l1.length c3, .func (.func 61) #[] #[.pointer (some ⟨b15, 0, none⟩)]]) Try.func59 rfl ⟨.inl rfl, .inl rfl, .inl rfl, trivial⟩ ⟨.inr (fun _ _ _ h => h), .inr (fun _ _ _ h => h), .inr (fun _ _ _ h => h), trivial⟩ fun w S => ?_
 unfold corrupt_fours__corrupt_alike_2.f at H0
 refine J.sr ?_
 refine JL.as (.bool false) ?_
 refine JL.es [(0, .slice Aa2 l1.length c3), (1, .func (.func 61) #[] #[.pointer (some ⟨b15, 0, none⟩)])] ?_
 refine J.seq ?_
 refine J.sr ?_
 refine JL.mv (.slice Aa2 l1.length c3) ?_
 refine JL.pur (.int .i64 (l1.length : Int)) (some 14) ?_
 refine JL.mv (.int .i64 0) ?_
 refine JL.en ?_
 obtain ⟨o1, hit, H0⟩ := bind_some H0
 refine J.loop (σ := Int) (τ := Unit) (G := ((Option Addr) × Nat)) (G' := Unit) _ o1 (fun s g => [(0, .slice g.1 l1.length g.2), (1, .func (.func 61) #[] #[.pointer (some ⟨b15, 0, none⟩)]), (13, .slice g.1 l1.length g.2), (14, .int .i64 (l1.length : Int)), (15, .int .i64 s)]) (fun s g => [At.rd g.1 g.2 ((flInt .i64).kd) l1 true, At.box b15 95 [.func (.func 57) #[] #[.pointer (some ⟨b6, 0, none⟩), .pointer (some ⟨b11, 0, none⟩)]], At.box b6 48 [.slice Aa7 v5.length c8], At.rd Aa7 c8 fl_Vis.kd v5 true, At.box b11 48 [.slice Aa12 v10.length c13], At.rd Aa12 c13 fl_Vis.kd v10 true]) (fun t => corrupt_fours__corrupt_alike_2.k128 = some r) (fun t g => []) (fun t g => [At.box b6 48 [.slice Aa7 v5.length c8], At.rd Aa7 c8 fl_Vis.kd v5 true, At.box b11 48 [.slice Aa12 v10.length c13], At.rd Aa12 c13 fl_Vis.kd v10 true, At.box b15 95 [.func (.func 57) #[] #[.pointer (some ⟨b6, 0, none⟩), .pointer (some ⟨b11, 0, none⟩)]]]) 0 (Aa2, c3) hit (fun _ h => Heap.to (Heap.pick [0, 5, 3, 1, 4, 2] (by decide) h)) ?_ ?_
 · clear hit
   rintro x1894 ⟨Aa1891, c1892⟩ st1 H1 hb1 hr1
   replace H1 : corrupt_fours__corrupt_alike_2.s127 l1 v5 v10 x1894 = some st1 := H1
   unfold corrupt_fours__corrupt_alike_2.s127 at H1
   refine JQ.sub [(0, .slice Aa1891 l1.length c1892), (1, .func (.func 61) #[] #[.pointer (some ⟨b15, 0, none⟩)]), (13, .slice Aa1891 l1.length c1892), (14, .int .i64 (l1.length : Int)), (15, .int .i64 x1894)] ?_
   refine JQ.turn (Δ' := [At.rd Aa1891 c1892 ((flInt .i64).kd) l1 true, At.box b15 95 [.func (.func 57) #[] #[.pointer (some ⟨b6, 0, none⟩), .pointer (some ⟨b11, 0, none⟩)]], At.box b6 48 [.slice Aa7 v5.length c8], At.rd Aa7 c8 fl_Vis.kd v5 true, At.box b11 48 [.slice Aa12 v10.length c13], At.rd Aa12 c13 fl_Vis.kd v10 true]) (fun _ h => h.to) ?_
   refine J.sr ?_
   refine JL.pur (.bool (decide (x1894 < (l1.length : Int)))) (some 16) ?_
   refine JL.en ?_
   refine J.seq ?_
   rcases ite_cases H1 with ⟨h2829, H1⟩ | ⟨h2829, H1⟩
   · refine J.cond_true h2829 ?_
     refine J.skip ?_
     refine JQ.ts [(0, .slice Aa1891 l1.length c1892), (1, .func (.func 61) #[] #[.pointer (some ⟨b15, 0, none⟩)]), (13, .slice Aa1891 l1.length c1892), (14, .int .i64 (l1.length : Int)), (15, .int .i64 x1894)] ?_
     refine J.seq ?_
     refine J.block ?_
     refine J.sr ?_
     refine JL.mv (.int .i64 x1894) ?_
     obtain ⟨⟨h2830, h2831⟩, H1⟩ := ite_must H1
     refine JL.ixAddr 0 1 c1892 .i64 (elems_rd Aa1891 c1892 ((flInt .i64).kd) l1 true) Try.underlying90 tySize_3 h2830 h2831 fun g2832 o2833 hA => ?_
     subst hA
     refine JL.val (.int .i64 (ix l1 x1894)) (some 19) (gives_loadEl (f := (flInt .i64)) 0 0 x1894 (elems_rd (some ⟨g2832, o2833, none⟩) c1892 ((flInt .i64).kd) l1 true) h2830 h2831 tySize_3 (.inr ⟨tyAgg_3, rfl, rfl⟩)) ?_
     refine JL.as (.int .i64 x1894) ?_
     refine JL.as (.int .i64 (ix l1 x1894)) ?_
     refine JL.es [(0, .slice (some ⟨g2832, o2833, none⟩) l1.length c1892), (1, .func (.func 61) #[] #[.pointer (some ⟨b15, 0, none⟩)]), (5, .int .i64 x1894), (6, .int .i64 (ix l1 x1894)), (13, .slice (some ⟨g2832, o2833, none⟩) l1.length c1892), (14, .int .i64 (l1.length : Int)), (15, .int .i64 x1894)] ?_
     refine J.sr ?_
     refine JL.mv (.slice (some ⟨g2832, o2833, none⟩) l1.length c1892) ?_
     refine JL.mv (.int .i64 x1894) ?_
     obtain ⟨⟨h2838, h2839⟩, H1⟩ := ite_must H1
     refine JQ.capLe 0 (some ⟨g2832, o2833, none⟩) c1892 ((flInt .i64).kd) l1 true fun h2837 => ?_
     refine JL.cut 0 x1894.toNat c1892 0 (some ⟨g2832, o2833, none⟩) c1892 ((flInt .i64).kd) l1 true Try.underlying90 tySize_3 (.inl ⟨rfl, rfl⟩) (.inr ⟨.i64, x1894, by kernel_rfl, h2838, rfl⟩) (.inl ⟨rfl, rfl⟩) (.inl rfl) (by omega) (by omega) (by omega) (.inl (by omega)) fun Aa2834 c2835 => ?_
     refine JL.pur (.int .i64 (((l1.take x1894.toNat).drop 0).length : Int)) (some 23) ?_
     refine JL.mv (.int .i64 0) ?_
     refine JL.es [(0, .slice (some ⟨g2832, o2833, none⟩) l1.length c1892), (1, .func (.func 61) #[] #[.pointer (some ⟨b15, 0, none⟩)]), (6, .int .i64 (ix l1 x1894)), (13, .slice (some ⟨g2832, o2833, none⟩) l1.length c1892), (14, .int .i64 (l1.length : Int)), (15, .int .i64 x1894), (22, .slice Aa2834 ((l1.take x1894.toNat).drop 0).length c2835), (23, .int .i64 (((l1.take x1894.toNat).drop 0).length : Int)), (24, .int .i64 0)] ?_
     obtain ⟨o2, hit, H1⟩ := bind_some H1
     refine J.loop (σ := Int) (τ := Unit) (G := ((Option Addr) × Nat)) (G' := Unit) _ o2 (fun s g => [(0, .slice (some ⟨g2832, o2833, none⟩) l1.length c1892), (1, .func (.func 61) #[] #[.pointer (some ⟨b15, 0, none⟩)]), (6, .int .i64 (ix l1 x1894)), (13, .slice (some ⟨g2832, o2833, none⟩) l1.length c1892), (14, .int .i64 (l1.length : Int)), (15, .int .i64 x1894), (22, .slice g.1 ((l1.take x1894.toNat).drop 0).length g.2), (23, .int .i64 (((l1.take x1894.toNat).drop 0).length : Int)), (24, .int .i64 s)]) (fun s g => [At.rd (some ⟨g2832, o2833, none⟩) c1892 ((flInt .i64).kd) l1 true, At.box b15 95 [.func (.func 57) #[] #[.pointer (some ⟨b6, 0, none⟩), .pointer (some ⟨b11, 0, none⟩)]], At.box b6 48 [.slice Aa7 v5.length c8], At.rd Aa7 c8 fl_Vis.kd v5 true, At.box b11 48 [.slice Aa12 v10.length c13], At.rd Aa12 c13 fl_Vis.kd v10 true, At.rd g.1 g.2 ((flInt .i64).kd) ((l1.take x1894.toNat).drop 0) true]) (fun t => corrupt_fours__corrupt_alike_2.k160 x1894 = some st1) (fun t g => [(0, .slice (some ⟨g2832, o2833, none⟩) l1.length c1892), (1, .func (.func 61) #[] #[.pointer (some ⟨b15, 0, none⟩)]), (13, .slice (some ⟨g2832, o2833, none⟩) l1.length c1892), (14, .int .i64 (l1.length : Int)), (15, .int .i64 x1894)]) (fun t g => [At.rd (some ⟨g2832, o2833, none⟩) c1892 ((flInt .i64).kd) l1 true, At.box b15 95 [.func (.func 57) #[] #[.pointer (some ⟨b6, 0, none⟩), .pointer (some ⟨b11, 0, none⟩)]], At.box b6 48 [.slice Aa7 v5.length c8], At.rd Aa7 c8 fl_Vis.kd v5 true, At.box b11 48 [.slice Aa12 v10.length c13], At.rd Aa12 c13 fl_Vis.kd v10 true]) 0 (Aa2834, c2835) hit (fun _ h => Heap.to h) ?_ ?_
     · clear hit
       rintro x3306 ⟨Aa3303, c3304⟩ st2 H2 hb2 hr2
       replace H2 : corrupt_fours__corrupt_alike_2.s159 l1 v5 v10 x1894 x3306 = some st2 := H2
       unfold corrupt_fours__corrupt_alike_2.s159 at H2
       refine JQ.sub [(0, .slice (some ⟨g2832, o2833, none⟩) l1.length c1892), (1, .func (.func 61) #[] #[.pointer (some ⟨b15, 0, none⟩)]), (6, .int .i64 (ix l1 x1894)), (13, .slice (some ⟨g2832, o2833, none⟩) l1.length c1892), (14, .int .i64 (l1.length : Int)), (15, .int .i64 x1894), (22, .slice Aa3303 ((l1.take x1894.toNat).drop 0).length c3304), (23, .int .i64 (((l1.take x1894.toNat).drop 0).length : Int)), (24, .int .i64 x3306)] ?_
       refine JQ.turn (Δ' := [At.rd (some ⟨g2832, o2833, none⟩) c1892 ((flInt .i64).kd) l1 true, At.box b15 95 [.func (.func 57) #[] #[.pointer (some ⟨b6, 0, none⟩), .pointer (some ⟨b11, 0, none⟩)]], At.box b6 48 [.slice Aa7 v5.length c8], At.rd Aa7 c8 fl_Vis.kd v5 true, At.box b11 48 [.slice Aa12 v10.length c13], At.rd Aa12 c13 fl_Vis.kd v10 true, At.rd Aa3303 c3304 ((flInt .i64).kd) ((l1.take x1894.toNat).drop 0) true]) (fun _ h => h.to) ?_
       refine J.sr ?_
       refine JL.pur (.bool (decide (x3306 < (((l1.take x1894.toNat).drop 0).length : Int)))) (some 25) ?_
       refine JL.en ?_
       refine J.seq ?_
       rcases ite_cases H2 with ⟨h3535, H2⟩ | ⟨h3535, H2⟩
       · refine J.cond_true h3535 ?_
         refine J.skip ?_
         refine JQ.ts [(0, .slice (some ⟨g2832, o2833, none⟩) l1.length c1892), (1, .func (.func 61) #[] #[.pointer (some ⟨b15, 0, none⟩)]), (6, .int .i64 (ix l1 x1894)), (13, .slice (some ⟨g2832, o2833, none⟩) l1.length c1892), (14, .int .i64 (l1.length : Int)), (15, .int .i64 x1894), (22, .slice Aa3303 ((l1.take x1894.toNat).drop 0).length c3304), (23, .int .i64 (((l1.take x1894.toNat).drop 0).length : Int)), (24, .int .i64 x3306)] ?_
         refine J.seq ?_
         refine J.block ?_
         refine J.sr ?_
         refine JL.mv (.int .i64 x3306) ?_
         obtain ⟨⟨h3536, h3537⟩, H2⟩ := ite_must H2
         refine JL.ixAddr 6 1 c3304 .i64 (elems_rd Aa3303 c3304 ((flInt .i64).kd) ((l1.take x1894.toNat).drop 0) true) Try.underlying90 tySize_3 h3536 h3537 fun g3538 o3539 hA => ?_
         subst hA
         refine JL.val (.int .i64 (ix ((l1.take x1894.toNat).drop 0) x3306)) (some 28) (gives_loadEl (f := (flInt .i64)) 6 0 x3306 (elems_rd (some ⟨g3538, o3539, none⟩) c3304 ((flInt .i64).kd) ((l1.take x1894.toNat).drop 0) true) h3536 h3537 tySize_3 (.inr ⟨tyAgg_3, rfl, rfl⟩)) ?_
         refine JL.as (.int .i64 x3306) ?_
         obtain ⟨b3540, eb3540, H2⟩ := lt_some H2
         refine JL.as' (k := .i64) b3540 eb3540 ?_
         refine JL.es [(0, .slice (some ⟨g2832, o2833, none⟩) l1.length c1892), (1, .func (.func 61) #[] #[.pointer (some ⟨b15, 0, none⟩)]), (6, .int .i64 (ix l1 x1894)), (7, .int .i64 x3306), (8, .int .i64 b3540), (13, .slice (some ⟨g2832, o2833, none⟩) l1.length c1892), (14, .int .i64 (l1.length : Int)), (15, .int .i64 x1894), (22, .slice (some ⟨g3538, o3539, none⟩) ((l1.take x1894.toNat).drop 0).length c3304), (23, .int .i64 (((l1.take x1894.toNat).drop 0).length : Int)), (24, .int .i64 x3306)] ?_
         refine J.sr ?_
         refine JL.mv (.slice (some ⟨g2832, o2833, none⟩) l1.length c1892) ?_
         refine JL.mv (.int .i64 x3306) ?_
         obtain ⟨⟨h3545, h3546⟩, H2⟩ := ite_must H2
         refine JQ.capLe 0 (some ⟨g2832, o2833, none⟩) c1892 ((flInt .i64).kd) l1 true fun h3544 => ?_
         refine JL.cut 0 x3306.toNat c1892 0 (some ⟨g2832, o2833, none⟩) c1892 ((flInt .i64).kd) l1 true Try.underlying90 tySize_3 (.inl ⟨rfl, rfl⟩) (.inr ⟨.i64, x3306, by kernel_rfl, h3545, rfl⟩) (.inl ⟨rfl, rfl⟩) (.inl rfl) (by omega) (by omega) (by omega) (.inl (by omega)) fun Aa3541 c3542 => ?_
         refine JL.pur (.int .i64 (((l1.take x3306.toNat).drop 0).length : Int)) (some 32) ?_
         refine JL.mv (.int .i64 0) ?_
         refine JL.es [(0, .slice (some ⟨g2832, o2833, none⟩) l1.length c1892), (1, .func (.func 61) #[] #[.pointer (some ⟨b15, 0, none⟩)]), (6, .int .i64 (ix l1 x1894)), (8, .int .i64 b3540), (13, .slice (some ⟨g2832, o2833, none⟩) l1.length c1892), (14, .int .i64 (l1.length : Int)), (15, .int .i64 x1894), (22, .slice (some ⟨g3538, o3539, none⟩) ((l1.take x1894.toNat).drop 0).length c3304), (23, .int .i64 (((l1.take x1894.toNat).drop 0).length : Int)), (24, .int .i64 x3306), (31, .slice Aa3541 ((l1.take x3306.toNat).drop 0).length c3542), (32, .int .i64 (((l1.take x3306.toNat).drop 0).length : Int)), (33, .int .i64 0)] ?_
         obtain ⟨o3, hit, H2⟩ := bind_some H2
         refine J.loop (σ := Int) (τ := Unit) (G := ((Option Addr) × Nat)) (G' := Unit) _ o3 (fun s g => [(0, .slice (some ⟨g2832, o2833, none⟩) l1.length c1892), (1, .func (.func 61) #[] #[.pointer (some ⟨b15, 0, none⟩)]), (6, .int .i64 (ix l1 x1894)), (8, .int .i64 b3540), (13, .slice (some ⟨g2832, o2833, none⟩) l1.length c1892), (14, .int .i64 (l1.length : Int)), (15, .int .i64 x1894), (22, .slice (some ⟨g3538, o3539, none⟩) ((l1.take x1894.toNat).drop 0).length c3304), (23, .int .i64 (((l1.take x1894.toNat).drop 0).length : Int)), (24, .int .i64 x3306), (31, .slice g.1 ((l1.take x3306.toNat).drop 0).length g.2), (32, .int .i64 (((l1.take x3306.toNat).drop 0).length : Int)), (33, .int .i64 s)]) (fun s g => [At.rd (some ⟨g2832, o2833, none⟩) c1892 ((flInt .i64).kd) l1 true, At.box b15 95 [.func (.func 57) #[] #[.pointer (some ⟨b6, 0, none⟩), .pointer (some ⟨b11, 0, none⟩)]], At.box b6 48 [.slice Aa7 v5.length c8], At.rd Aa7 c8 fl_Vis.kd v5 true, At.box b11 48 [.slice Aa12 v10.length c13], At.rd Aa12 c13 fl_Vis.kd v10 true, At.rd (some ⟨g3538, o3539, none⟩) c3304 ((flInt .i64).kd) ((l1.take x1894.toNat).drop 0) true, At.rd g.1 g.2 ((flInt .i64).kd) ((l1.take x3306.toNat).drop 0) true]) (fun t => corrupt_fours__corrupt_alike_2.k168 x3306 = some st2) (fun t g => [(0, .slice (some ⟨g2832, o2833, none⟩) l1.length c1892), (1, .func (.func 61) #[] #[.pointer (some ⟨b15, 0, none⟩)]), (6, .int .i64 (ix l1 x1894)), (13, .slice (some ⟨g2832, o2833, none⟩) l1.length c1892), (14, .int .i64 (l1.length : Int)), (15, .int .i64 x1894), (22, .slice (some ⟨g3538, o3539, none⟩) ((l1.take x1894.toNat).drop 0).length c3304), (23, .int .i64 (((l1.take x1894.toNat).drop 0).length : Int)), (24, .int .i64 x3306)]) (fun t g => [At.rd (some ⟨g2832, o2833, none⟩) c1892 ((flInt .i64).kd) l1 true, At.box b15 95 [.func (.func 57) #[] #[.pointer (some ⟨b6, 0, none⟩), .pointer (some ⟨b11, 0, none⟩)]], At.box b6 48 [.slice Aa7 v5.length c8], At.rd Aa7 c8 fl_Vis.kd v5 true, At.box b11 48 [.slice Aa12 v10.length c13], At.rd Aa12 c13 fl_Vis.kd v10 true, At.rd (some ⟨g3538, o3539, none⟩) c3304 ((flInt .i64).kd) ((l1.take x1894.toNat).drop 0) true]) 0 (Aa3541, c3542) hit (fun _ h => Heap.to h) ?_ ?_
         · clear hit
           rintro x3660 ⟨Aa3657, c3658⟩ st3 H3 hb3 hr3
           replace H3 : corrupt_fours__corrupt_alike_2.s167 l1 v5 v10 x1894 x3306 b3540 x3660 = some st3 := H3
           unfold corrupt_fours__corrupt_alike_2.s167 at H3
           refine JQ.sub [(0, .slice (some ⟨g2832, o2833, none⟩) l1.length c1892), (1, .func (.func 61) #[] #[.pointer (some ⟨b15, 0, none⟩)]), (6, .int .i64 (ix l1 x1894)), (8, .int .i64 b3540), (13, .slice (some ⟨g2832, o2833, none⟩) l1.length c1892), (14, .int .i64 (l1.length : Int)), (15, .int .i64 x1894), (22, .slice (some ⟨g3538, o3539, none⟩) ((l1.take x1894.toNat).drop 0).length c3304), (23, .int .i64 (((l1.take x1894.toNat).drop 0).length : Int)), (24, .int .i64 x3306), (31, .slice Aa3657 ((l1.take x3306.toNat).drop 0).length c3658), (32, .int .i64 (((l1.take x3306.toNat).drop 0).length : Int)), (33, .int .i64 x3660)] ?_
           refine JQ.turn (Δ' := [At.rd (some ⟨g2832, o2833, none⟩) c1892 ((flInt .i64).kd) l1 true, At.box b15 95 [.func (.func 57) #[] #[.pointer (some ⟨b6, 0, none⟩), .pointer (some ⟨b11, 0, none⟩)]], At.box b6 48 [.slice Aa7 v5.length c8], At.rd Aa7 c8 fl_Vis.kd v5 true, At.box b11 48 [.slice Aa12 v10.length c13], At.rd Aa12 c13 fl_Vis.kd v10 true, At.rd (some ⟨g3538, o3539, none⟩) c3304 ((flInt .i64).kd) ((l1.take x1894.toNat).drop 0) true, At.rd Aa3657 c3658 ((flInt .i64).kd) ((l1.take x3306.toNat).drop 0) true]) (fun _ h => h.to) ?_
           refine J.sr ?_
           refine JL.pur (.bool (decide (x3660 < (((l1.take x3306.toNat).drop 0).length : Int)))) (some 34) ?_
           refine JL.en ?_
           refine J.seq ?_
           rcases ite_cases H3 with ⟨h3712, H3⟩ | ⟨h3712, H3⟩
           · refine J.cond_true h3712 ?_
             refine J.skip ?_
             refine JQ.ts [(0, .slice (some ⟨g2832, o2833, none⟩) l1.length c1892), (1, .func (.func 61) #[] #[.pointer (some ⟨b15, 0, none⟩)]), (6, .int .i64 (ix l1 x1894)), (8, .int .i64 b3540), (13, .slice (some ⟨g2832, o2833, none⟩) l1.length c1892), (14, .int .i64 (l1.length : Int)), (15, .int .i64 x1894), (22, .slice (some ⟨g3538, o3539, none⟩) ((l1.take x1894.toNat).drop 0).length c3304), (23, .int .i64 (((l1.take x1894.toNat).drop 0).length : Int)), (24, .int .i64 x3306), (31, .slice Aa3657 ((l1.take x3306.toNat).drop 0).length c3658), (32, .int .i64 (((l1.take x3306.toNat).drop 0).length : Int)), (33, .int .i64 x3660)] ?_
             refine J.seq ?_
             refine J.block ?_
             refine J.sr ?_
             refine JL.mv (.int .i64 x3660) ?_
             obtain ⟨⟨h3713, h3714⟩, H3⟩ := ite_must H3
             refine JL.ixAddr 7 1 c3658 .i64 (elems_rd Aa3657 c3658 ((flInt .i64).kd) ((l1.take x3306.toNat).drop 0) true) Try.underlying90 tySize_3 h3713 h3714 fun g3715 o3716 hA => ?_
             subst hA
             refine JL.val (.int .i64 (ix ((l1.take x3306.toNat).drop 0) x3660)) (some 37) (gives_loadEl (f := (flInt .i64)) 7 0 x3660 (elems_rd (some ⟨g3715, o3716, none⟩) c3658 ((flInt .i64).kd) ((l1.take x3306.toNat).drop 0) true) h3713 h3714 tySize_3 (.inr ⟨tyAgg_3, rfl, rfl⟩)) ?_
             refine JL.as (.int .i64 x3660) ?_
             obtain ⟨c3717, ec3717, H3⟩ := lt_some H3
             refine JL.as' (k := .i64) c3717 ec3717 ?_
             refine JL.es [(0, .slice (some ⟨g2832, o2833, none⟩) l1.length c1892), (1, .func (.func 61) #[] #[.pointer (some ⟨b15, 0, none⟩)]), (6, .int .i64 (ix l1 x1894)), (8, .int .i64 b3540), (9, .int .i64 x3660), (10, .int .i64 c3717), (13, .slice (some ⟨g2832, o2833, none⟩) l1.length c1892), (14, .int .i64 (l1.length : Int)), (15, .int .i64 x1894), (22, .slice (some ⟨g3538, o3539, none⟩) ((l1.take x1894.toNat).drop 0).length c3304), (23, .int .i64 (((l1.take x1894.toNat).drop 0).length : Int)), (24, .int .i64 x3306), (31, .slice (some ⟨g3715, o3716, none⟩) ((l1.take x3306.toNat).drop 0).length c3658), (32, .int .i64 (((l1.take x3306.toNat).drop 0).length : Int)), (33, .int .i64 x3660)] ?_
             refine J.sr ?_
             refine JL.mv (.slice (some ⟨g2832, o2833, none⟩) l1.length c1892) ?_
             refine JL.mv (.int .i64 x3660) ?_
             obtain ⟨⟨h3722, h3723⟩, H3⟩ := ite_must H3
             refine JQ.capLe 0 (some ⟨g2832, o2833, none⟩) c1892 ((flInt .i64).kd) l1 true fun h3721 => ?_
             refine JL.cut 0 x3660.toNat c1892 0 (some ⟨g2832, o2833, none⟩) c1892 ((flInt .i64).kd) l1 true Try.underlying90 tySize_3 (.inl ⟨rfl, rfl⟩) (.inr ⟨.i64, x3660, by kernel_rfl, h3722, rfl⟩) (.inl ⟨rfl, rfl⟩) (.inl rfl) (by omega) (by omega) (by omega) (.inl (by omega)) fun Aa3718 c3719 => ?_
             refine JL.pur (.int .i64 (((l1.take x3660.toNat).drop 0).length : Int)) (some 41) ?_
             refine JL.mv (.int .i64 0) ?_
             refine JL.es [(0, .slice (some ⟨g2832, o2833, none⟩) l1.length c1892), (1, .func (.func 61) #[] #[.pointer (some ⟨b15, 0, none⟩)]), (6, .int .i64 (ix l1 x1894)), (8, .int .i64 b3540), (10, .int .i64 c3717), (13, .slice (some ⟨g2832, o2833, none⟩) l1.length c1892), (14, .int .i64 (l1.length : Int)), (15, .int .i64 x1894), (22, .slice (some ⟨g3538, o3539, none⟩) ((l1.take x1894.toNat).drop 0).length c3304), (23, .int .i64 (((l1.take x1894.toNat).drop 0).length : Int)), (24, .int .i64 x3306), (31, .slice (some ⟨g3715, o3716, none⟩) ((l1.take x3306.toNat).drop 0).length c3658), (32, .int .i64 (((l1.take x3306.toNat).drop 0).length : Int)), (33, .int .i64 x3660), (40, .slice Aa3718 ((l1.take x3660.toNat).drop 0).length c3719), (41, .int .i64 (((l1.take x3660.toNat).drop 0).length : Int)), (42, .int .i64 0)] ?_
             obtain ⟨o4, hit, H3⟩ := bind_some H3
             refine J.loop (σ := Int) (τ := Unit) (G := Unit) (G' := Unit) _ o4 (fun s g => [(0, .slice (some ⟨g2832, o2833, none⟩) l1.length c1892), (1, .func (.func 61) #[] #[.pointer (some ⟨b15, 0, none⟩)]), (6, .int .i64 (ix l1 x1894)), (8, .int .i64 b3540), (10, .int .i64 c3717), (13, .slice (some ⟨g2832, o2833, none⟩) l1.length c1892), (14, .int .i64 (l1.length : Int)), (15, .int .i64 x1894), (22, .slice (some ⟨g3538, o3539, none⟩) ((l1.take x1894.toNat).drop 0).length c3304), (23, .int .i64 (((l1.take x1894.toNat).drop 0).length : Int)), (24, .int .i64 x3306), (31, .slice (some ⟨g3715, o3716, none⟩) ((l1.take x3306.toNat).drop 0).length c3658), (32, .int .i64 (((l1.take x3306.toNat).drop 0).length : Int)), (33, .int .i64 x3660), (40, .slice Aa3718 ((l1.take x3660.toNat).drop 0).length c3719), (41, .int .i64 (((l1.take x3660.toNat).drop 0).length : Int)), (42, .int .i64 s)]) (fun s g => [At.rd (some ⟨g2832, o2833, none⟩) c1892 ((flInt .i64).kd) l1 true, At.box b15 95 [.func (.func 57) #[] #[.pointer (some ⟨b6, 0, none⟩), .pointer (some ⟨b11, 0, none⟩)]], At.box b6 48 [.slice Aa7 v5.length c8], At.rd Aa7 c8 fl_Vis.kd v5 true, At.box b11 48 [.slice Aa12 v10.length c13], At.rd Aa12 c13 fl_Vis.kd v10 true, At.rd (some ⟨g3538, o3539, none⟩) c3304 ((flInt .i64).kd) ((l1.take x1894.toNat).drop 0) true, At.rd (some ⟨g3715, o3716, none⟩) c3658 ((flInt .i64).kd) ((l1.take x3306.toNat).drop 0) true, At.rd Aa3718 c3719 ((flInt .i64).kd) ((l1.take x3660.toNat).drop 0) true]) (fun t => corrupt_fours__corrupt_alike_2.k170 x3660 = some st3) (fun t g => [(0, .slice (some ⟨g2832, o2833, none⟩) l1.length c1892), (1, .func (.func 61) #[] #[.pointer (some ⟨b15, 0, none⟩)]), (6, .int .i64 (ix l1 x1894)), (8, .int .i64 b3540), (13, .slice (some ⟨g2832, o2833, none⟩) l1.length c1892), (14, .int .i64 (l1.length : Int)), (15, .int .i64 x1894), (22, .slice (some ⟨g3538, o3539, none⟩) ((l1.take x1894.toNat).drop 0).length c3304), (23, .int .i64 (((l1.take x1894.toNat).drop 0).length : Int)), (24, .int .i64 x3306), (31, .slice (some ⟨g3715, o3716, none⟩) ((l1.take x3306.toNat).drop 0).length c3658), (32, .int .i64 (((l1.take x3306.toNat).drop 0).length : Int)), (33, .int .i64 x3660)]) (fun t g => [At.rd (some ⟨g2832, o2833, none⟩) c1892 ((flInt .i64).kd) l1 true, At.box b15 95 [.func (.func 57) #[] #[.pointer (some ⟨b6, 0, none⟩), .pointer (some ⟨b11, 0, none⟩)]], At.box b6 48 [.slice Aa7 v5.length c8], At.rd Aa7 c8 fl_Vis.kd v5 true, At.box b11 48 [.slice Aa12 v10.length c13], At.rd Aa12 c13 fl_Vis.kd v10 true, At.rd (some ⟨g3538, o3539, none⟩) c3304 ((flInt .i64).kd) ((l1.take x1894.toNat).drop 0) true, At.rd (some ⟨g3715, o3716, none⟩) c3658 ((flInt .i64).kd) ((l1.take x3306.toNat).drop 0) true]) 0 () hit (fun _ h => Heap.to h) ?_ ?_
             · clear hit
               rintro x3744 ⟨⟩ st4 H4 hb4 hr4
               replace H4 : corrupt_fours__corrupt_alike_2.s169 l1 v5 v10 x1894 b3540 x3660 c3717 x3744 = some st4 := H4
               unfold corrupt_fours__corrupt_alike_2.s169 at H4
               refine JQ.sub [(0, .slice (some ⟨g2832, o2833, none⟩) l1.length c1892), (1, .func (.func 61) #[] #[.pointer (some ⟨b15, 0, none⟩)]), (6, .int .i64 (ix l1 x1894)), (8, .int .i64 b3540), (10, .int .i64 c3717), (13, .slice (some ⟨g2832, o2833, none⟩) l1.length c1892), (14, .int .i64 (l1.length : Int)), (15, .int .i64 x1894), (22, .slice (some ⟨g3538, o3539, none⟩) ((l1.take x1894.toNat).drop 0).length c3304), (23, .int .i64 (((l1.take x1894.toNat).drop 0).length : Int)), (24, .int .i64 x3306), (31, .slice (some ⟨g3715, o3716, none⟩) ((l1.take x3306.toNat).drop 0).length c3658), (32, .int .i64 (((l1.take x3306.toNat).drop 0).length : Int)), (33, .int .i64 x3660), (40, .slice Aa3718 ((l1.take x3660.toNat).drop 0).length c3719), (41, .int .i64 (((l1.take x3660.toNat).drop 0).length : Int)), (42, .int .i64 x3744)] ?_
               refine JQ.turn (Δ' := [At.rd (some ⟨g2832, o2833, none⟩) c1892 ((flInt .i64).kd) l1 true, At.box b15 95 [.func (.func 57) #[] #[.pointer (some ⟨b6, 0, none⟩), .pointer (some ⟨b11, 0, none⟩)]], At.box b6 48 [.slice Aa7 v5.length c8], At.rd Aa7 c8 fl_Vis.kd v5 true, At.box b11 48 [.slice Aa12 v10.length c13], At.rd Aa12 c13 fl_Vis.kd v10 true, At.rd (some ⟨g3538, o3539, none⟩) c3304 ((flInt .i64).kd) ((l1.take x1894.toNat).drop 0) true, At.rd (some ⟨g3715, o3716, none⟩) c3658 ((flInt .i64).kd) ((l1.take x3306.toNat).drop 0) true, At.rd Aa3718 c3719 ((flInt .i64).kd) ((l1.take x3660.toNat).drop 0) true]) (fun _ h => h.to) ?_
               refine J.sr ?_
               refine JL.pur (.bool (decide (x3744 < (((l1.take x3660.toNat).drop 0).length : Int)))) (some 43) ?_
               refine JL.en ?_
               refine J.seq ?_
               rcases ite_cases H4 with ⟨h3754, H4⟩ | ⟨h3754, H4⟩
               · refine J.cond_true h3754 ?_
                 refine J.skip ?_
                 refine JQ.ts [(0, .slice (some ⟨g2832, o2833, none⟩) l1.length c1892), (1, .func (.func 61) #[] #[.pointer (some ⟨b15, 0, none⟩)]), (6, .int .i64 (ix l1 x1894)), (8, .int .i64 b3540), (10, .int .i64 c3717), (13, .slice (some ⟨g2832, o2833, none⟩) l1.length c1892), (14, .int .i64 (l1.length : Int)), (15, .int .i64 x1894), (22, .slice (some ⟨g3538, o3539, none⟩) ((l1.take x1894.toNat).drop 0).length c3304), (23, .int .i64 (((l1.take x1894.toNat).drop 0).length : Int)), (24, .int .i64 x3306), (31, .slice (some ⟨g3715, o3716, none⟩) ((l1.take x3306.toNat).drop 0).length c3658), (32, .int .i64 (((l1.take x3306.toNat).drop 0).length : Int)), (33, .int .i64 x3660), (40, .slice Aa3718 ((l1.take x3660.toNat).drop 0).length c3719), (41, .int .i64 (((l1.take x3660.toNat).drop 0).length : Int)), (42, .int .i64 x3744)] ?_
                 refine J.seq ?_
                 refine J.block ?_
                 refine J.sr ?_
                 obtain ⟨⟨h3755, h3756⟩, H4⟩ := ite_must H4
                 refine JL.ixAddr 8 1 c3719 .i64 (elems_rd Aa3718 c3719 ((flInt .i64).kd) ((l1.take x3660.toNat).drop 0) true) Try.underlying90 tySize_3 h3755 h3756 fun g3757 o3758 hA => ?_
                 subst hA
                 refine JL.val (.int .i64 (ix ((l1.take x3660.toNat).drop 0) x3744)) (some 45) (gives_loadEl (f := (flInt .i64)) 8 0 x3744 (elems_rd (some ⟨g3757, o3758, none⟩) c3719 ((flInt .i64).kd) ((l1.take x3660.toNat).drop 0) true) h3755 h3756 tySize_3 (.inr ⟨tyAgg_3, rfl, rfl⟩)) ?_
                 obtain ⟨d3759, ed3759, H4⟩ := lt_some H4
                 refine JL.as' (k := .i64) d3759 ed3759 ?_
                 refine JL.es [(0, .slice (some ⟨g2832, o2833, none⟩) l1.length c1892), (1, .func (.func 61) #[] #[.pointer (some ⟨b15, 0, none⟩)]), (6, .int .i64 (ix l1 x1894)), (8, .int .i64 b3540), (10, .int .i64 c3717), (12, .int .i64 d3759), (13, .slice (some ⟨g2832, o2833, none⟩) l1.length c1892), (14, .int .i64 (l1.length : Int)), (15, .int .i64 x1894), (22, .slice (some ⟨g3538, o3539, none⟩) ((l1.take x1894.toNat).drop 0).length c3304), (23, .int .i64 (((l1.take x1894.toNat).drop 0).length : Int)), (24, .int .i64 x3306), (31, .slice (some ⟨g3715, o3716, none⟩) ((l1.take x3306.toNat).drop 0).length c3658), (32, .int .i64 (((l1.take x3306.toNat).drop 0).length : Int)), (33, .int .i64 x3660), (40, .slice (some ⟨g3757, o3758, none⟩) ((l1.take x3660.toNat).drop 0).length c3719), (41, .int .i64 (((l1.take x3660.toNat).drop 0).length : Int)), (42, .int .i64 x3744)] ?_
                 refine J.sr ?_
                 refine JL.mv (.func (.func 61) #[] #[.pointer (some ⟨b15, 0, none⟩)]) ?_
                 refine JL.mv (.int .i64 d3759) ?_
                 refine JL.mv (.int .i64 c3717) ?_
                 refine JL.mv (.int .i64 b3540) ?_
                 refine JL.mv (.int .i64 (ix l1 x1894)) ?_
                 refine JQ.turn (fun _ h => h.pick [2, 4, 1, 0, 3, 5, 6, 7, 8] (by decide)) ?_
                 obtain ⟨t3760, hc3761, H4⟩ := bind_some H4
                 refine JL.call [] [.pointer (some ⟨b15, 0, none⟩)] [true, true, true] (corrupt_alike_2.ok d3759 c3717 b3540 (ix l1 x1894) v5 b6 Aa7 c8 v10 b11 Aa12 c13 b15 _ hc3761) ⟨pre_any 1 (view_rd Aa7 c8 fl_Vis.kd v5 true true), ⟨pre_any 2 (view_rd Aa12 c13 fl_Vis.kd v10 true true), trivial⟩⟩ ?_
                 rintro _ _ ⟨rfl, rfl⟩
                 refine JL.pur (.bool (!t3760)) (some 52) ?_
                 refine JL.es [(0, .slice (some ⟨g2832, o2833, none⟩) l1.length c1892), (1, .func (.func 61) #[] #[.pointer (some ⟨b15, 0, none⟩)]), (6, .int .i64 (ix l1 x1894)), (8, .int .i64 b3540), (10, .int .i64 c3717), (13, .slice (some ⟨g2832, o2833, none⟩) l1.length c1892), (14, .int .i64 (l1.length : Int)), (15, .int .i64 x1894), (22, .slice (some ⟨g3538, o3539, none⟩) ((l1.take x1894.toNat).drop 0).length c3304), (23, .int .i64 (((l1.take x1894.toNat).drop 0).length : Int)), (24, .int .i64 x3306), (31, .slice (some ⟨g3715, o3716, none⟩) ((l1.take x3306.toNat).drop 0).length c3658), (32, .int .i64 (((l1.take x3306.toNat).drop 0).length : Int)), (33, .int .i64 x3660), (40, .slice (some ⟨g3757, o3758, none⟩) ((l1.take x3660.toNat).drop 0).length c3719), (41, .int .i64 (((l1.take x3660.toNat).drop 0).length : Int)), (42, .int .i64 x3744), (52, .bool (!t3760))] ?_
                 rcases ite_cases H4 with ⟨h3762, H4⟩ | ⟨h3762, H4⟩
                 · refine J.cond_true h3762 ?_
                   refine J.sr ?_
                   refine JL.as (.bool false) ?_
                   refine JL.es [(4, .bool false)] ?_
                   refine JQ.mask [At.rd Aa7 c8 fl_Vis.kd v5 true, At.rd Aa12 c13 fl_Vis.kd v10 true, At.box b6 48 [.slice Aa7 v5.length c8], At.box b11 48 [.slice Aa12 v10.length c13], At.box b15 95 [.func (.func 57) #[] #[.pointer (some ⟨b6, 0, none⟩), .pointer (some ⟨b11, 0, none⟩)]]] [false, true, true, false, false, false, true, true, true] ?_
                   refine J.ret ?_
                   refine JQ.blk_ret ?_
                   refine JQ.then_ret ?_
                   refine JQ.then_ret ?_
                   refine JQ.blk_ret ?_
                   refine JQ.met_ret ?_
                   refine JQ.blk_ret ?_
                   refine JQ.then_ret ?_
                   refine JQ.then_ret ?_
                   refine JQ.blk_ret ?_
                   refine JQ.met_ret ?_
                   refine JQ.blk_ret ?_
                   refine JQ.then_ret ?_
                   refine JQ.then_ret ?_
                   refine JQ.blk_ret ?_
                   refine JQ.met_ret ?_
                   refine JQ.blk_ret ?_
                   refine JQ.then_ret ?_
                   refine JQ.then_ret ?_
                   refine JQ.blk_ret ?_
                   refine JQ.met_ret ?_
                   refine JQ.then_ret ?_
                   rw [hr4 _ (Option.some.inj H4).symm, fin_ret] at H3
                   rw [hr3 _ (Option.some.inj H3).symm, fin_ret] at H2
                   rw [hr2 _ (Option.some.inj H2).symm, fin_ret] at H1
                   rw [hr1 _ (Option.some.inj H1).symm, fin_ret] at H0
                   obtain rfl := Option.some.inj H0
                   exact JQ.done' (rs := [.tmp 4]) (vs := [.bool false]) [At.box b6 48 [.slice Aa7 v5.length c8], At.box b11 48 [.slice Aa12 v10.length c13], At.box b15 95 [.func (.func 57) #[] #[.pointer (some ⟨b6, 0, none⟩), .pointer (some ⟨b11, 0, none⟩)]]] (.inr rfl) ⟨by kernel_rfl, trivial⟩ (fun _ h => Heap.to (Heap.pick [2, 3, 4] (by decide) h)) ⟨rfl, rfl⟩
                 · refine J.cond_false h3762 ?_
                   refine J.skip ?_
                   refine JQ.blk_normal ?_
                   refine JQ.ts [(0, .slice (some ⟨g2832, o2833, none⟩) l1.length c1892), (1, .func (.func 61) #[] #[.pointer (some ⟨b15, 0, none⟩)]), (6, .int .i64 (ix l1 x1894)), (8, .int .i64 b3540), (10, .int .i64 c3717), (13, .slice (some ⟨g2832, o2833, none⟩) l1.length c1892), (14, .int .i64 (l1.length : Int)), (15, .int .i64 x1894), (22, .slice (some ⟨g3538, o3539, none⟩) ((l1.take x1894.toNat).drop 0).length c3304), (23, .int .i64 (((l1.take x1894.toNat).drop 0).length : Int)), (24, .int .i64 x3306), (31, .slice (some ⟨g3715, o3716, none⟩) ((l1.take x3306.toNat).drop 0).length c3658), (32, .int .i64 (((l1.take x3306.toNat).drop 0).length : Int)), (33, .int .i64 x3660), (40, .slice (some ⟨g3757, o3758, none⟩) ((l1.take x3660.toNat).drop 0).length c3719), (41, .int .i64 (((l1.take x3660.toNat).drop 0).length : Int)), (42, .int .i64 x3744)] ?_
                   refine J.region ?_
                   refine JL.pur (.int .i64 (w64 (x3744 + 1))) (some 53) ?_
                   refine JL.mv (.int .i64 (w64 (x3744 + 1))) ?_
                   refine JL.en ?_
                   exact JQ.again (w64 (x3744 + 1)) () (Option.some.inj H4).symm (fun _ h => Heap.to (Heap.pick [0, 8, 6, 1, 7, 2, 3, 4, 5] (by decide) h))
               · refine J.cond_false h3754 ?_
                 refine J.exit ?_
                 refine JQ.then_exit ?_
                 refine JQ.then_exit ?_
                 refine JQ.blk_exit ?_
                 rw [hb4 _ (Option.some.inj H4).symm, fin_brk] at H3
                 exact JQ.met () () H3 (fun _ h => Heap.to (Heap.pick [0, 1, 2, 3, 4, 5, 6, 7] (by decide) h))
             · clear hit H3
               rintro ⟨⟩ ⟨⟩ H3
               replace H3 : corrupt_fours__corrupt_alike_2.k170 x3660 = some st3 := H3
               unfold corrupt_fours__corrupt_alike_2.k170 at H3
               refine JQ.sub [(0, .slice (some ⟨g2832, o2833, none⟩) l1.length c1892), (1, .func (.func 61) #[] #[.pointer (some ⟨b15, 0, none⟩)]), (6, .int .i64 (ix l1 x1894)), (8, .int .i64 b3540), (13, .slice (some ⟨g2832, o2833, none⟩) l1.length c1892), (14, .int .i64 (l1.length : Int)), (15, .int .i64 x1894), (22, .slice (some ⟨g3538, o3539, none⟩) ((l1.take x1894.toNat).drop 0).length c3304), (23, .int .i64 (((l1.take x1894.toNat).drop 0).length : Int)), (24, .int .i64 x3306), (31, .slice (some ⟨g3715, o3716, none⟩) ((l1.take x3306.toNat).drop 0).length c3658), (32, .int .i64 (((l1.take x3306.toNat).drop 0).length : Int)), (33, .int .i64 x3660)] ?_
               refine JQ.turn (Δ' := [At.rd (some ⟨g2832, o2833, none⟩) c1892 ((flInt .i64).kd) l1 true, At.box b15 95 [.func (.func 57) #[] #[.pointer (some ⟨b6, 0, none⟩), .pointer (some ⟨b11, 0, none⟩)]], At.box b6 48 [.slice Aa7 v5.length c8], At.rd Aa7 c8 fl_Vis.kd v5 true, At.box b11 48 [.slice Aa12 v10.length c13], At.rd Aa12 c13 fl_Vis.kd v10 true, At.rd (some ⟨g3538, o3539, none⟩) c3304 ((flInt .i64).kd) ((l1.take x1894.toNat).drop 0) true, At.rd (some ⟨g3715, o3716, none⟩) c3658 ((flInt .i64).kd) ((l1.take x3306.toNat).drop 0) true]) (fun _ h => h.to) ?_
               refine JQ.blk_normal ?_
               refine JQ.then_normal ?_
               refine J.region ?_
               refine JL.pur (.int .i64 (w64 (x3660 + 1))) (some 54) ?_
               refine JL.mv (.int .i64 (w64 (x3660 + 1))) ?_
               refine JL.en ?_
               exact JQ.again (w64 (x3660 + 1)) ((some ⟨g3715, o3716, none⟩), c3658) (Option.some.inj H3).symm (fun _ h => Heap.to h)
           · refine J.cond_false h3712 ?_
             refine J.exit ?_
             refine JQ.then_exit ?_
             refine JQ.then_exit ?_
             refine JQ.blk_exit ?_
             rw [hb3 _ (Option.some.inj H3).symm, fin_brk] at H2
             exact JQ.met () () H2 (fun _ h => Heap.to (Heap.pick [0, 1, 2, 3, 4, 5, 6] (by decide) h))
         · clear hit H2
           rintro ⟨⟩ ⟨⟩ H2
           replace H2 : corrupt_fours__corrupt_alike_2.k168 x3306 = some st2 := H2
           unfold corrupt_fours__corrupt_alike_2.k168 at H2
           refine JQ.sub [(0, .slice (some ⟨g2832, o2833, none⟩) l1.length c1892), (1, .func (.func 61) #[] #[.pointer (some ⟨b15, 0, none⟩)]), (6, .int .i64 (ix l1 x1894)), (13, .slice (some ⟨g2832, o2833, none⟩) l1.length c1892), (14, .int .i64 (l1.length : Int)), (15, .int .i64 x1894), (22, .slice (some ⟨g3538, o3539, none⟩) ((l1.take x1894.toNat).drop 0).length c3304), (23, .int .i64 (((l1.take x1894.toNat).drop 0).length : Int)), (24, .int .i64 x3306)] ?_
           refine JQ.turn (Δ' := [At.rd (some ⟨g2832, o2833, none⟩) c1892 ((flInt .i64).kd) l1 true, At.box b15 95 [.func (.func 57) #[] #[.pointer (some ⟨b6, 0, none⟩), .pointer (some ⟨b11, 0, none⟩)]], At.box b6 48 [.slice Aa7 v5.length c8], At.rd Aa7 c8 fl_Vis.kd v5 true, At.box b11 48 [.slice Aa12 v10.length c13], At.rd Aa12 c13 fl_Vis.kd v10 true, At.rd (some ⟨g3538, o3539, none⟩) c3304 ((flInt .i64).kd) ((l1.take x1894.toNat).drop 0) true]) (fun _ h => h.to) ?_
           refine JQ.blk_normal ?_
           refine JQ.then_normal ?_
           refine J.region ?_
           refine JL.pur (.int .i64 (w64 (x3306 + 1))) (some 55) ?_
           refine JL.mv (.int .i64 (w64 (x3306 + 1))) ?_
           refine JL.en ?_
           exact JQ.again (w64 (x3306 + 1)) ((some ⟨g3538, o3539, none⟩), c3304) (Option.some.inj H2).symm (fun _ h => Heap.to h)
       · refine J.cond_false h3535 ?_
         refine J.exit ?_
         refine JQ.then_exit ?_
         refine JQ.then_exit ?_
         refine JQ.blk_exit ?_
         rw [hb2 _ (Option.some.inj H2).symm, fin_brk] at H1
         exact JQ.met () () H1 (fun _ h => Heap.to (Heap.pick [0, 1, 2, 3, 4, 5] (by decide) h))
     · clear hit H1
       rintro ⟨⟩ ⟨⟩ H1
       replace H1 : corrupt_fours__corrupt_alike_2.k160 x1894 = some st1 := H1
       unfold corrupt_fours__corrupt_alike_2.k160 at H1
       refine JQ.sub [(0, .slice (some ⟨g2832, o2833, none⟩) l1.length c1892), (1, .func (.func 61) #[] #[.pointer (some ⟨b15, 0, none⟩)]), (13, .slice (some ⟨g2832, o2833, none⟩) l1.length c1892), (14, .int .i64 (l1.length : Int)), (15, .int .i64 x1894)] ?_
       refine JQ.turn (Δ' := [At.rd (some ⟨g2832, o2833, none⟩) c1892 ((flInt .i64).kd) l1 true, At.box b15 95 [.func (.func 57) #[] #[.pointer (some ⟨b6, 0, none⟩), .pointer (some ⟨b11, 0, none⟩)]], At.box b6 48 [.slice Aa7 v5.length c8], At.rd Aa7 c8 fl_Vis.kd v5 true, At.box b11 48 [.slice Aa12 v10.length c13], At.rd Aa12 c13 fl_Vis.kd v10 true]) (fun _ h => h.to) ?_
       refine JQ.blk_normal ?_
       refine JQ.then_normal ?_
       refine J.region ?_
       refine JL.pur (.int .i64 (w64 (x1894 + 1))) (some 56) ?_
       refine JL.mv (.int .i64 (w64 (x1894 + 1))) ?_
       refine JL.en ?_
       exact JQ.again (w64 (x1894 + 1)) ((some ⟨g2832, o2833, none⟩), c1892) (Option.some.inj H1).symm (fun _ h => Heap.to h)
   · refine J.cond_false h2829 ?_
     refine J.exit ?_
     refine JQ.then_exit ?_
     refine JQ.then_exit ?_
     refine JQ.blk_exit ?_
     rw [hb1 _ (Option.some.inj H1).symm, fin_brk] at H0
     exact JQ.met () () H0 (fun _ h => Heap.to (Heap.pick [2, 3, 4, 5, 1] (by decide) h))
 · clear hit H0
   rintro ⟨⟩ ⟨⟩ H0
   replace H0 : corrupt_fours__corrupt_alike_2.k128 = some r := H0
   unfold corrupt_fours__corrupt_alike_2.k128 at H0
   refine JQ.sub [] ?_
   refine JQ.turn (Δ' := [At.box b6 48 [.slice Aa7 v5.length c8], At.rd Aa7 c8 fl_Vis.kd v5 true, At.box b11 48 [.slice Aa12 v10.length c13], At.rd Aa12 c13 fl_Vis.kd v10 true, At.box b15 95 [.func (.func 57) #[] #[.pointer (some ⟨b6, 0, none⟩), .pointer (some ⟨b11, 0, none⟩)]]]) (fun _ h => h.to) ?_
   refine JQ.then_normal ?_
   refine J.sr ?_
   refine JL.as (.bool true) ?_
   refine JL.en ?_
   refine J.ret ?_
   obtain rfl := Option.some.inj H0
   exact JQ.done' (rs := [.tmp 4]) (vs := [.bool true]) [At.box b6 48 [.slice Aa7 v5.length c8], At.box b11 48 [.slice Aa12 v10.length c13], At.box b15 95 [.func (.func 57) #[] #[.pointer (some ⟨b6, 0, none⟩), .pointer (some ⟨b11, 0, none⟩)]]] (.inr rfl) ⟨by kernel_rfl, trivial⟩ (fun _ h => Heap.to (Heap.pick [0, 2, 4] (by decide) h)) ⟨rfl, rfl⟩

theorem corrupt_alike.ok (a1 : (List Vis)) (Aa2 : Option Addr) (c3 : Nat) (b5 : (List Vis)) (Aa6 : Option Addr) (c7 : Nat) (r : Bool) (H0 : corrupt_alike.f a1 b5 = some r) :
    Does Try.prog 39 [.slice Aa2 a1.length c3, .slice Aa6 b5.length c7].toArray [At.rd Aa2 c3 fl_Vis.kd a1 true, At.rd Aa6 c7 fl_Vis.kd b5 true] [] false (fun v Δ => v = .bool r ∧ Δ = []) := by
 refine Does.body (vs := [.slice Aa2 a1.length c3, .slice Aa6 b5.length c7]) Try.func39 rfl ⟨.inl rfl, .inl rfl, trivial⟩ trivial fun w S => ?_
 unfold corrupt_alike.f at H0
 refine J.sr ?_
 refine JL.box [.slice Aa2 a1.length c3] fun b9 => ?_
 refine JL.box [.slice Aa6 b5.length c7] fun b10 => ?_
 refine JL.as (.bool false) ?_
 refine JL.es [(2, .pointer (some ⟨b9, 0, none⟩)), (3, .pointer (some ⟨b10, 0, none⟩))] ?_
 refine J.sr ?_
 refine JL.val (.slice Aa2 a1.length c3) (some 15) (yields_load_box 2 0 (holds_box b9 48 [.slice Aa2 a1.length c3]) tyAgg_48) ?_
 obtain ⟨t11, hc12, H0⟩ := bind_some H0
 refine JL.call [] [] [] (closure_Triples.ok a1 Aa2 c3 _ hc12) ⟨pre_any 0 (view_rd Aa2 c3 fl_Vis.kd a1 true true), trivial⟩ ?_
 rintro _ _ ⟨Aa13, c14, rfl, rfl⟩
 refine JL.mv (.tuple #[.slice Aa13 t11.1.length c14, .int .i64 t11.2]) ?_
 refine JL.pur (.slice Aa13 t11.1.length c14) (some 17) ?_
 refine JL.pur (.int .i64 t11.2) (some 18) ?_
 refine JL.as (.slice Aa13 t11.1.length c14) ?_
 refine JL.as (.int .i64 t11.2) ?_
 refine JL.es [(2, .pointer (some ⟨b9, 0, none⟩)), (3, .pointer (some ⟨b10, 0, none⟩)), (5, .slice Aa13 t11.1.length c14)] ?_
 refine J.seq ?_
 refine J.sr ?_
 refine JL.mv (.slice Aa13 t11.1.length c14) ?_
 refine JL.pur (.int .i64 (t11.1.length : Int)) (some 20) ?_
 refine JL.mv (.int .i64 0) ?_
 refine JL.es [(2, .pointer (some ⟨b9, 0, none⟩)), (3, .pointer (some ⟨b10, 0, none⟩)), (19, .slice Aa13 t11.1.length c14), (20, .int .i64 (t11.1.length : Int)), (21, .int .i64 0)] ?_
 obtain ⟨o1, hit, H0⟩ := bind_some H0
 refine J.loop (σ := Int) (τ := Unit) (G := ((Option Addr) × Nat)) (G' := Unit) _ o1 (fun s g => [(2, .pointer (some ⟨b9, 0, none⟩)), (3, .pointer (some ⟨b10, 0, none⟩)), (19, .slice g.1 t11.1.length g.2), (20, .int .i64 (t11.1.length : Int)), (21, .int .i64 s)]) (fun s g => [At.box b9 48 [.slice Aa2 a1.length c3], At.rd Aa2 c3 fl_Vis.kd a1 true, At.box b10 48 [.slice Aa6 b5.length c7], At.rd Aa6 c7 fl_Vis.kd b5 true, At.row g.1 g.2 88 ((flArr3 (flInt .i64)).kd) t11.1 false]) (fun t => corrupt_alike.k11 a1 b5 = some r) (fun t g => [(2, .pointer (some ⟨b9, 0, none⟩)), (3, .pointer (some ⟨b10, 0, none⟩))]) (fun t g => [At.box b9 48 [.slice Aa2 a1.length c3], At.rd Aa2 c3 fl_Vis.kd a1 true, At.box b10 48 [.slice Aa6 b5.length c7], At.rd Aa6 c7 fl_Vis.kd b5 true]) 0 (Aa13, c14) hit (fun _ h => Heap.to (Heap.pick [2, 0, 3, 1, 4] (by decide) h)) ?_ ?_
 · clear hit
   rintro x187 ⟨Aa184, c185⟩ st1 H1 hb1 hr1
   replace H1 : corrupt_alike.s10 a1 b5 t11 x187 = some st1 := H1
   unfold corrupt_alike.s10 at H1
   refine JQ.sub [(2, .pointer (some ⟨b9, 0, none⟩)), (3, .pointer (some ⟨b10, 0, none⟩)), (19, .slice Aa184 t11.1.length c185), (20, .int .i64 (t11.1.length : Int)), (21, .int .i64 x187)] ?_
   refine JQ.turn (Δ' := [At.box b9 48 [.slice Aa2 a1.length c3], At.rd Aa2 c3 fl_Vis.kd a1 true, At.box b10 48 [.slice Aa6 b5.length c7], At.rd Aa6 c7 fl_Vis.kd b5 true, At.row Aa184 c185 88 ((flArr3 (flInt .i64)).kd) t11.1 false]) (fun _ h => h.to) ?_
   refine J.sr ?_
   refine JL.pur (.bool (decide (x187 < (t11.1.length : Int)))) (some 22) ?_
   refine JL.en ?_
   refine J.seq ?_
   rcases ite_cases H1 with ⟨h276, H1⟩ | ⟨h276, H1⟩
   · refine J.cond_true h276 ?_
     refine J.skip ?_
     refine JQ.ts [(2, .pointer (some ⟨b9, 0, none⟩)), (3, .pointer (some ⟨b10, 0, none⟩)), (19, .slice Aa184 t11.1.length c185), (20, .int .i64 (t11.1.length : Int)), (21, .int .i64 x187)] ?_
     refine J.seq ?_
     refine J.block ?_
     refine J.sr ?_
     obtain ⟨⟨h277, h278⟩, H1⟩ := ite_must H1
     refine JL.ixAddr 4 3 c185 .i64 (elems_row Aa184 c185 88 ((flArr3 (flInt .i64)).kd) t11.1 false) Try.underlying85 tySize_88 h277 h278 fun g279 o280 hA => ?_
     subst hA
     refine JL.val (mv_88 (ix t11.1 x187)) (some 24) (gives_loadEl (f := (flArr3 (flInt .i64))) 4 0 x187 (elems_row (some ⟨g279, o280, none⟩) c185 88 ((flArr3 (flInt .i64)).kd) t11.1 false) h277 h278 tySize_88 (.inl ⟨tyAgg_88, rfl⟩)) ?_
     refine JL.alloc (cl_88 zv_88) fun b281 => ?_
     refine JL.store 5 b281 0 88 (cl_88 zv_88) (cl_88 (ix t11.1 x187)) tySize_88 ?_
     refine JL.es [(2, .pointer (some ⟨b9, 0, none⟩)), (3, .pointer (some ⟨b10, 0, none⟩)), (8, .pointer (some ⟨b281, 0, none⟩)), (19, .slice (some ⟨g279, o280, none⟩) t11.1.length c185), (20, .int .i64 (t11.1.length : Int)), (21, .int .i64 x187)] ?_
     refine J.join (T := (Cx × Int)) (G := Nat) (fun t => corrupt_alike.k12 b5 t11 x187 t.1 t.2 = some st1) (fun t g => [(2, .pointer (some ⟨b9, 0, none⟩)), (3, .pointer (some ⟨b10, 0, none⟩)), (8, .pointer (some ⟨b281, 0, none⟩)), (9, .pointer (some ⟨g, 0, none⟩)), (10, .int .i64 t.2), (19, .slice (some ⟨g279, o280, none⟩) t11.1.length c185), (20, .int .i64 (t11.1.length : Int)), (21, .int .i64 x187)]) (fun t g => [At.box b9 48 [.slice Aa2 a1.length c3], At.rd Aa2 c3 fl_Vis.kd a1 true, At.box b10 48 [.slice Aa6 b5.length c7], At.rd Aa6 c7 fl_Vis.kd b5 true, At.cst b281 88 (cl_88 (ix t11.1 x187)) false, At.box g 23 (cl_23 t.1), At.row (some ⟨g279, o280, none⟩) c185 88 ((flArr3 (flInt .i64)).kd) t11.1 false]) ?_ ?_
     · obtain ⟨t342, hc343, H1⟩ := bind_some H1
       refine JY.startM [true, true, true, true, true, false] [] (ba 9 0) ?_
       refine JY.take (hi := rfl) 0 (ba 9 1) (.slice Aa2 a1.length c3) (some 26) [true, true, true, true, true, false] want (yields_load_box 0 0 (holds_box b9 48 [.slice Aa2 a1.length c3]) tyAgg_48) ?_
       refine JY.all [1, 6] ⟨⟨_, rfl, ?_⟩, ⟨_, rfl, ?_⟩, trivial⟩
       · refine JQ.turn (fun _ h => freeze_box 5 b281 88 (cl_88 (ix t11.1 x187)) h) ?_
         refine JL.cutArr (flInt .i64) (([((ix t11.1 x187).e0), ((ix t11.1 x187).e1), ((ix t11.1 x187).e2)] : List Int) : List Int) 3 5 b281 88 (cl_88 (ix t11.1 x187)) false Try.underlying88 tySize_3 ?_
         refine JL.nil ?_
         refine JY.ran (ba 9 3) [true, true, true, true, true, false, false] ?_
         refine JY.all [2, 6] ⟨⟨_, rfl, ?_⟩, ⟨_, rfl, ?_⟩, trivial⟩
         · refine JL.call [] [] [] (closure_Phase.ok a1 Aa2 c3 ([((ix t11.1 x187).e0), ((ix t11.1 x187).e1), ((ix t11.1 x187).e2)] : List Int) (some ⟨b281, 0, none⟩) (([((ix t11.1 x187).e0), ((ix t11.1 x187).e1), ((ix t11.1 x187).e2)] : List Int).length) _ hc343) ⟨pre_any 1 (view_rd Aa2 c3 fl_Vis.kd a1 true true), ⟨pre_any 6 (view_rd (some ⟨b281, 0, none⟩) (([((ix t11.1 x187).e0), ((ix t11.1 x187).e1), ((ix t11.1 x187).e2)] : List Int).length) ((flInt .i64).kd) ([((ix t11.1 x187).e0), ((ix t11.1 x187).e1), ((ix t11.1 x187).e2)] : List Int) false true), trivial⟩⟩ ?_
           rintro _ _ ⟨rfl, rfl⟩
           refine JL.nil ?_
           refine JY.ran (ba 9 7) [true, true, true, true, true, false, false] ?_
           refine JY.pur (hi := rfl) 3 (ba 9 15) (.tuple #[mv_23 t342.1, .int .i64 t342.2]) (some 25) want ?_
           refine JY.pur (hi := rfl) 4 (ba 9 31) (mv_23 t342.1) (some 29) want ?_
           refine JY.pur (hi := rfl) 5 (ba 9 63) (.int .i64 t342.2) (some 30) want ?_
           refine JY.all [6] ⟨⟨_, rfl, ?_⟩, trivial⟩
           refine JL.alloc (cl_23 zv_23) fun b348 => ?_
           refine JL.nil ?_
           refine JY.ran (ba 9 127) [true, true, true, true, true, false, false, false] ?_
           refine JY.all [7] ⟨⟨_, rfl, ?_⟩, trivial⟩
           refine JL.store 7 b348 0 23 (cl_23 zv_23) (cl_23 t342.1) tySize_23 ?_
           refine JL.nil ?_
           refine JY.ran (ba 9 255) [true, true, true, true, true, false, false, false] ?_
           refine JY.pur (hi := rfl) 8 (ba 9 511) (.int .i64 t342.2) (some 10) want ?_
           refine JY.done ?_
           refine JQ.then_normal ?_
           exact JQ.meet (t342.1, t342.2) b348 H1 (fun _ h => Heap.to (Heap.pick [0, 1, 2, 3, 5, 7, 4] (by decide) h))
         · refine JL.alloc (cl_23 zv_23) fun b349 => ?_
           refine JL.nil ?_
           refine JY.ran (ba 9 67) [true, true, true, true, true, false, false, false] ?_
           refine JY.all [2] ⟨⟨_, rfl, ?_⟩, trivial⟩
           refine JL.call [] [] [] (closure_Phase.ok a1 Aa2 c3 ([((ix t11.1 x187).e0), ((ix t11.1 x187).e1), ((ix t11.1 x187).e2)] : List Int) (some ⟨b281, 0, none⟩) (([((ix t11.1 x187).e0), ((ix t11.1 x187).e1), ((ix t11.1 x187).e2)] : List Int).length) _ hc343) ⟨pre_any 1 (view_rd Aa2 c3 fl_Vis.kd a1 true true), ⟨pre_any 6 (view_rd (some ⟨b281, 0, none⟩) (([((ix t11.1 x187).e0), ((ix t11.1 x187).e1), ((ix t11.1 x187).e2)] : List Int).length) ((flInt .i64).kd) ([((ix t11.1 x187).e0), ((ix t11.1 x187).e1), ((ix t11.1 x187).e2)] : List Int) false true), trivial⟩⟩ ?_
           rintro _ _ ⟨rfl, rfl⟩
           refine JL.nil ?_
           refine JY.ran (ba 9 71) [true, true, true, true, true, false, false, false] ?_
           refine JY.pur (hi := rfl) 3 (ba 9 79) (.tuple #[mv_23 t342.1, .int .i64 t342.2]) (some 25) want ?_
           refine JY.pur (hi := rfl) 4 (ba 9 95) (mv_23 t342.1) (some 29) want ?_
           refine JY.pur (hi := rfl) 5 (ba 9 127) (.int .i64 t342.2) (some 30) want ?_
           refine JY.all [7] ⟨⟨_, rfl, ?_⟩, trivial⟩
           refine JL.store 7 b349 0 23 (cl_23 zv_23) (cl_23 t342.1) tySize_23 ?_
           refine JL.nil ?_
           refine JY.ran (ba 9 255) [true, true, true, true, true, false, false, false] ?_
           refine JY.pur (hi := rfl) 8 (ba 9 511) (.int .i64 t342.2) (some 10) want ?_
           refine JY.done ?_
           refine JQ.then_normal ?_
           exact JQ.meet (t342.1, t342.2) b349 H1 (fun _ h => Heap.to (Heap.pick [0, 1, 2, 3, 5, 7, 4] (by decide) h))
       · refine JL.alloc (cl_23 zv_23) fun b352 => ?_
         refine JL.nil ?_
         refine JY.ran (ba 9 65) [true, true, true, true, true, false, false] ?_
         refine JY.all [1] ⟨⟨_, rfl, ?_⟩, trivial⟩
         refine JQ.turn (fun _ h => freeze_box 5 b281 88 (cl_88 (ix t11.1 x187)) h) ?_
         refine JL.cutArr (flInt .i64) (([((ix t11.1 x187).e0), ((ix t11.1 x187).e1), ((ix t11.1 x187).e2)] : List Int) : List Int) 3 5 b281 88 (cl_88 (ix t11.1 x187)) false Try.underlying88 tySize_3 ?_
         refine JL.nil ?_
         refine JY.ran (ba 9 67) [true, true, true, true, true, false, false, false] ?_
         refine JY.all [2] ⟨⟨_, rfl, ?_⟩, trivial⟩
         refine JL.call [] [] [] (closure_Phase.ok a1 Aa2 c3 ([((ix t11.1 x187).e0), ((ix t11.1 x187).e1), ((ix t11.1 x187).e2)] : List Int) (some ⟨b281, 0, none⟩) (([((ix t11.1 x187).e0), ((ix t11.1 x187).e1), ((ix t11.1 x187).e2)] : List Int).length) _ hc343) ⟨pre_any 1 (view_rd Aa2 c3 fl_Vis.kd a1 true true), ⟨pre_any 7 (view_rd (some ⟨b281, 0, none⟩) (([((ix t11.1 x187).e0), ((ix t11.1 x187).e1), ((ix t11.1 x187).e2)] : List Int).length) ((flInt .i64).kd) ([((ix t11.1 x187).e0), ((ix t11.1 x187).e1), ((ix t11.1 x187).e2)] : List Int) false true), trivial⟩⟩ ?_
         rintro _ _ ⟨rfl, rfl⟩
         refine JL.nil ?_
         refine JY.ran (ba 9 71) [true, true, true, true, true, false, false, false] ?_
         refine JY.pur (hi := rfl) 3 (ba 9 79) (.tuple #[mv_23 t342.1, .int .i64 t342.2]) (some 25) want ?_
         refine JY.pur (hi := rfl) 4 (ba 9 95) (mv_23 t342.1) (some 29) want ?_
         refine JY.pur (hi := rfl) 5 (ba 9 127) (.int .i64 t342.2) (some 30) want ?_
         refine JY.all [7] ⟨⟨_, rfl, ?_⟩, trivial⟩
         refine JL.store 6 b352 0 23 (cl_23 zv_23) (cl_23 t342.1) tySize_23 ?_
         refine JL.nil ?_
         refine JY.ran (ba 9 255) [true, true, true, true, true, false, false, false] ?_
         refine JY.pur (hi := rfl) 8 (ba 9 511) (.int .i64 t342.2) (some 10) want ?_
         refine JY.done ?_
         refine JQ.then_normal ?_
         exact JQ.meet (t342.1, t342.2) b352 H1 (fun _ h => Heap.to (Heap.pick [0, 1, 2, 3, 5, 6, 4] (by decide) h))
     · clear H1
       rintro ⟨p299, e300⟩ b297 H1
       replace H1 : corrupt_alike.k12 b5 t11 x187 p299 e300 = some st1 := H1
       unfold corrupt_alike.k12 at H1
       refine JQ.sub [(2, .pointer (some ⟨b9, 0, none⟩)), (3, .pointer (some ⟨b10, 0, none⟩)), (8, .pointer (some ⟨b281, 0, none⟩)), (9, .pointer (some ⟨b297, 0, none⟩)), (10, .int .i64 e300), (19, .slice (some ⟨g279, o280, none⟩) t11.1.length c185), (20, .int .i64 (t11.1.length : Int)), (21, .int .i64 x187)] ?_
       refine JQ.turn (Δ' := [At.box b9 48 [.slice Aa2 a1.length c3], At.rd Aa2 c3 fl_Vis.kd a1 true, At.box b10 48 [.slice Aa6 b5.length c7], At.rd Aa6 c7 fl_Vis.kd b5 true, At.cst b281 88 (cl_88 (ix t11.1 x187)) false, At.box b297 23 (cl_23 p299), At.row (some ⟨g279, o280, none⟩) c185 88 ((flArr3 (flInt .i64)).kd) t11.1 false]) (fun _ h => h.to) ?_
       refine J.join (T := (Cx × Int)) (G := Nat) (fun t => corrupt_alike.k13 x187 p299 e300 t.1 t.2 = some st1) (fun t g => [(2, .pointer (some ⟨b9, 0, none⟩)), (3, .pointer (some ⟨b10, 0, none⟩)), (9, .pointer (some ⟨b297, 0, none⟩)), (10, .int .i64 e300), (11, .pointer (some ⟨g, 0, none⟩)), (12, .int .i64 t.2), (19, .slice (some ⟨g279, o280, none⟩) t11.1.length c185), (20, .int .i64 (t11.1.length : Int)), (21, .int .i64 x187)]) (fun t g => [At.box b9 48 [.slice Aa2 a1.length c3], At.rd Aa2 c3 fl_Vis.kd a1 true, At.box b10 48 [.slice Aa6 b5.length c7], At.rd Aa6 c7 fl_Vis.kd b5 true, At.box b297 23 (cl_23 p299), At.box g 23 (cl_23 t.1), At.row (some ⟨g279, o280, none⟩) c185 88 ((flArr3 (flInt .i64)).kd) t11.1 false]) ?_ ?_
       · obtain ⟨t327, hc328, H1⟩ := bind_some H1
         refine JY.startM [true, true, true, true, true, true, true] [] (ba 9 0) ?_
         refine JY.take (hi := rfl) 0 (ba 9 1) (.slice Aa6 b5.length c7) (some 32) [true, true, true, true, true, true, true] want (yields_load_box 2 0 (holds_box b10 48 [.slice Aa6 b5.length c7]) tyAgg_48) ?_
         refine JY.all [1, 6] ⟨⟨_, rfl, ?_⟩, ⟨_, rfl, ?_⟩, trivial⟩
         · refine JL.cutArr (flInt .i64) (([((ix t11.1 x187).e0), ((ix t11.1 x187).e1), ((ix t11.1 x187).e2)] : List Int) : List Int) 3 4 b281 88 (cl_88 (ix t11.1 x187)) false Try.underlying88 tySize_3 ?_
           refine JL.nil ?_
           refine JY.ran (ba 9 3) [true, true, true, true, true, true, true, false] ?_
           refine JY.all [2, 6] ⟨⟨_, rfl, ?_⟩, ⟨_, rfl, ?_⟩, trivial⟩
           · refine JL.call [] [] [] (closure_Phase.ok b5 Aa6 c7 ([((ix t11.1 x187).e0), ((ix t11.1 x187).e1), ((ix t11.1 x187).e2)] : List Int) (some ⟨b281, 0, none⟩) (([((ix t11.1 x187).e0), ((ix t11.1 x187).e1), ((ix t11.1 x187).e2)] : List Int).length) _ hc328) ⟨pre_any 3 (view_rd Aa6 c7 fl_Vis.kd b5 true true), ⟨pre_any 7 (view_rd (some ⟨b281, 0, none⟩) (([((ix t11.1 x187).e0), ((ix t11.1 x187).e1), ((ix t11.1 x187).e2)] : List Int).length) ((flInt .i64).kd) ([((ix t11.1 x187).e0), ((ix t11.1 x187).e1), ((ix t11.1 x187).e2)] : List Int) false true), trivial⟩⟩ ?_
             rintro _ _ ⟨rfl, rfl⟩
             refine JL.nil ?_
             refine JY.ran (ba 9 7) [true, true, true, true, true, true, true, false] ?_
             refine JY.pur (hi := rfl) 3 (ba 9 15) (.tuple #[mv_23 t327.1, .int .i64 t327.2]) (some 31) want ?_
             refine JY.pur (hi := rfl) 4 (ba 9 31) (mv_23 t327.1) (some 35) want ?_
             refine JY.pur (hi := rfl) 5 (ba 9 63) (.int .i64 t327.2) (some 36) want ?_
             refine JY.all [6] ⟨⟨_, rfl, ?_⟩, trivial⟩
             refine JL.alloc (cl_23 zv_23) fun b333 => ?_
             refine JL.nil ?_
             refine JY.ran (ba 9 127) [true, true, true, true, true, true, true, false, false] ?_
             refine JY.all [7] ⟨⟨_, rfl, ?_⟩, trivial⟩
             refine JL.store 8 b333 0 23 (cl_23 zv_23) (cl_23 t327.1) tySize_23 ?_
             refine JL.nil ?_
             refine JY.ran (ba 9 255) [true, true, true, true, true, true, true, false, false] ?_
             refine JY.pur (hi := rfl) 8 (ba 9 511) (.int .i64 t327.2) (some 12) want ?_
             refine JY.done ?_
             refine JQ.then_normal ?_
             exact JQ.meet (t327.1, t327.2) b333 H1 (fun _ h => Heap.to (Heap.pick [0, 1, 2, 3, 5, 8, 6] (by decide) h))
           · refine JL.alloc (cl_23 zv_23) fun b334 => ?_
             refine JL.nil ?_
             refine JY.ran (ba 9 67) [true, true, true, true, true, true, true, false, false] ?_
             refine JY.all [2] ⟨⟨_, rfl, ?_⟩, trivial⟩
             refine JL.call [] [] [] (closure_Phase.ok b5 Aa6 c7 ([((ix t11.1 x187).e0), ((ix t11.1 x187).e1), ((ix t11.1 x187).e2)] : List Int) (some ⟨b281, 0, none⟩) (([((ix t11.1 x187).e0), ((ix t11.1 x187).e1), ((ix t11.1 x187).e2)] : List Int).length) _ hc328) ⟨pre_any 3 (view_rd Aa6 c7 fl_Vis.kd b5 true true), ⟨pre_any 7 (view_rd (some ⟨b281, 0, none⟩) (([((ix t11.1 x187).e0), ((ix t11.1 x187).e1), ((ix t11.1 x187).e2)] : List Int).length) ((flInt .i64).kd) ([((ix t11.1 x187).e0), ((ix t11.1 x187).e1), ((ix t11.1 x187).e2)] : List Int) false true), trivial⟩⟩ ?_
             rintro _ _ ⟨rfl, rfl⟩
             refine JL.nil ?_
             refine JY.ran (ba 9 71) [true, true, true, true, true, true, true, false, false] ?_
             refine JY.pur (hi := rfl) 3 (ba 9 79) (.tuple #[mv_23 t327.1, .int .i64 t327.2]) (some 31) want ?_
             refine JY.pur (hi := rfl) 4 (ba 9 95) (mv_23 t327.1) (some 35) want ?_
             refine JY.pur (hi := rfl) 5 (ba 9 127) (.int .i64 t327.2) (some 36) want ?_
             refine JY.all [7] ⟨⟨_, rfl, ?_⟩, trivial⟩
             refine JL.store 8 b334 0 23 (cl_23 zv_23) (cl_23 t327.1) tySize_23 ?_
             refine JL.nil ?_
             refine JY.ran (ba 9 255) [true, true, true, true, true, true, true, false, false] ?_
             refine JY.pur (hi := rfl) 8 (ba 9 511) (.int .i64 t327.2) (some 12) want ?_
             refine JY.done ?_
             refine JQ.then_normal ?_
             exact JQ.meet (t327.1, t327.2) b334 H1 (fun _ h => Heap.to (Heap.pick [0, 1, 2, 3, 5, 8, 6] (by decide) h))
         · refine JL.alloc (cl_23 zv_23) fun b337 => ?_
           refine JL.nil ?_
           refine JY.ran (ba 9 65) [true, true, true, true, true, true, true, false] ?_
           refine JY.all [1] ⟨⟨_, rfl, ?_⟩, trivial⟩
           refine JL.cutArr (flInt .i64) (([((ix t11.1 x187).e0), ((ix t11.1 x187).e1), ((ix t11.1 x187).e2)] : List Int) : List Int) 3 4 b281 88 (cl_88 (ix t11.1 x187)) false Try.underlying88 tySize_3 ?_
           refine JL.nil ?_
           refine JY.ran (ba 9 67) [true, true, true, true, true, true, true, false, false] ?_
           refine JY.all [2] ⟨⟨_, rfl, ?_⟩, trivial⟩
           refine JL.call [] [] [] (closure_Phase.ok b5 Aa6 c7 ([((ix t11.1 x187).e0), ((ix t11.1 x187).e1), ((ix t11.1 x187).e2)] : List Int) (some ⟨b281, 0, none⟩) (([((ix t11.1 x187).e0), ((ix t11.1 x187).e1), ((ix t11.1 x187).e2)] : List Int).length) _ hc328) ⟨pre_any 3 (view_rd Aa6 c7 fl_Vis.kd b5 true true), ⟨pre_any 8 (view_rd (some ⟨b281, 0, none⟩) (([((ix t11.1 x187).e0), ((ix t11.1 x187).e1), ((ix t11.1 x187).e2)] : List Int).length) ((flInt .i64).kd) ([((ix t11.1 x187).e0), ((ix t11.1 x187).e1), ((ix t11.1 x187).e2)] : List Int) false true), trivial⟩⟩ ?_
           rintro _ _ ⟨rfl, rfl⟩
           refine JL.nil ?_
           refine JY.ran (ba 9 71) [true, true, true, true, true, true, true, false, false] ?_
           refine JY.pur (hi := rfl) 3 (ba 9 79) (.tuple #[mv_23 t327.1, .int .i64 t327.2]) (some 31) want ?_
           refine JY.pur (hi := rfl) 4 (ba 9 95) (mv_23 t327.1) (some 35) want ?_
           refine JY.pur (hi := rfl) 5 (ba 9 127) (.int .i64 t327.2) (some 36) want ?_
           refine JY.all [7] ⟨⟨_, rfl, ?_⟩, trivial⟩
           refine JL.store 7 b337 0 23 (cl_23 zv_23) (cl_23 t327.1) tySize_23 ?_
           refine JL.nil ?_
           refine JY.ran (ba 9 255) [true, true, true, true, true, true, true, false, false] ?_
           refine JY.pur (hi := rfl) 8 (ba 9 511) (.int .i64 t327.2) (some 12) want ?_
           refine JY.done ?_
           refine JQ.then_normal ?_
           exact JQ.meet (t327.1, t327.2) b337 H1 (fun _ h => Heap.to (Heap.pick [0, 1, 2, 3, 5, 7, 6] (by decide) h))
       · clear H1
         rintro ⟨q318, f319⟩ b316 H1
         replace H1 : corrupt_alike.k13 x187 p299 e300 q318 f319 = some st1 := H1
         unfold corrupt_alike.k13 at H1
         refine JQ.sub [(2, .pointer (some ⟨b9, 0, none⟩)), (3, .pointer (some ⟨b10, 0, none⟩)), (9, .pointer (some ⟨b297, 0, none⟩)), (10, .int .i64 e300), (11, .pointer (some ⟨b316, 0, none⟩)), (12, .int .i64 f319), (19, .slice (some ⟨g279, o280, none⟩) t11.1.length c185), (20, .int .i64 (t11.1.length : Int)), (21, .int .i64 x187)] ?_
         refine JQ.turn (Δ' := [At.box b9 48 [.slice Aa2 a1.length c3], At.rd Aa2 c3 fl_Vis.kd a1 true, At.box b10 48 [.slice Aa6 b5.length c7], At.rd Aa6 c7 fl_Vis.kd b5 true, At.box b297 23 (cl_23 p299), At.box b316 23 (cl_23 q318), At.row (some ⟨g279, o280, none⟩) c185 88 ((flArr3 (flInt .i64)).kd) t11.1 false]) (fun _ h => h.to) ?_
         refine J.join (T := Bool) (G := Unit) (fun t => corrupt_alike.k14 x187 t = some st1) (fun t g => [(2, .pointer (some ⟨b9, 0, none⟩)), (3, .pointer (some ⟨b10, 0, none⟩)), (19, .slice (some ⟨g279, o280, none⟩) t11.1.length c185), (20, .int .i64 (t11.1.length : Int)), (21, .int .i64 x187), (47, .bool t)]) (fun t g => [At.box b9 48 [.slice Aa2 a1.length c3], At.rd Aa2 c3 fl_Vis.kd a1 true, At.box b10 48 [.slice Aa6 b5.length c7], At.rd Aa6 c7 fl_Vis.kd b5 true, At.row (some ⟨g279, o280, none⟩) c185 88 ((flArr3 (flInt .i64)).kd) t11.1 false]) ?_ ?_
         · refine J.region ?_
           refine JL.mv (.int .i64 e300) ?_
           refine JL.pur (.bool (decide (e300 = 0))) (some 38) ?_
           refine JL.mv (.bool (decide (e300 = 0))) ?_
           rcases ite_cases H1 with ⟨h324, H1⟩ | ⟨h324, H1⟩
           · refine JL.on 2 39 h324 ?_
             refine JL.mv (.int .i64 f319) ?_
             refine JL.on 2 39 h324 ?_
             refine JL.pur (.bool (decide (f319 = 0))) (some 41) ?_
             refine JL.val (.bool (decide (f319 = 0))) (some 42) (gives_pickT h324) ?_
             refine JL.mv (.bool (decide (f319 = 0))) ?_
             rcases ite_cases H1 with ⟨h325, H1⟩ | ⟨h325, H1⟩
             · refine JL.on 6 43 h325 ?_
               refine JL.val (mv_23 p299) (some 44) (yields_load_boxes 4 0 (cl_23 p299) (holds_box b297 23 (cl_23 p299)) tyAgg_23 tySize_23) ?_
               refine JL.on 6 43 h325 ?_
               refine JL.val (mv_23 q318) (some 45) (yields_load_boxes 5 0 (cl_23 q318) (holds_box b316 23 (cl_23 q318)) tyAgg_23 tySize_23) ?_
               refine JL.on 6 43 h325 ?_
               refine JL.val (.bool (!decide (p299 = q318))) (some 46) (gives_neq eqg_23 (fun w => eqt_23 p299 q318 w)) ?_
               refine JL.val (.bool (!decide (p299 = q318))) (some 47) (gives_pickT h325) ?_
               refine JL.en ?_
               exact JQ.meet (!decide (p299 = q318)) () H1 (fun _ h => Heap.to (Heap.pick [0, 1, 2, 3, 6] (by decide) h))
             · refine JL.off 6 43 true (some 44) h325 ?_
               refine JL.off 6 43 true (some 45) h325 ?_
               refine JL.off 6 43 true (some 46) h325 ?_
               refine JL.val (.bool false) (some 47) (gives_pickF h325) ?_
               refine JL.en ?_
               exact JQ.meet false () H1 (fun _ h => Heap.to (Heap.pick [0, 1, 2, 3, 6] (by decide) h))
           · refine JL.off 2 39 true (some 40) h324 ?_
             refine JL.off 2 39 true (some 41) h324 ?_
             refine JL.val (.bool false) (some 42) (gives_pickF h324) ?_
             refine JL.mv (.bool false) ?_
             refine JL.off 6 43 true (some 44) rfl ?_
             refine JL.off 6 43 true (some 45) rfl ?_
             refine JL.off 6 43 true (some 46) rfl ?_
             refine JL.val (.bool false) (some 47) (gives_pickF rfl) ?_
             refine JL.en ?_
             exact JQ.meet false () H1 (fun _ h => Heap.to (Heap.pick [0, 1, 2, 3, 6] (by decide) h))
         · clear H1
           rintro x322 ⟨⟩ H1
           replace H1 : corrupt_alike.k14 x187 x322 = some st1 := H1
           unfold corrupt_alike.k14 at H1
           refine JQ.sub [(2, .pointer (some ⟨b9, 0, none⟩)), (3, .pointer (some ⟨b10, 0, none⟩)), (19, .slice (some ⟨g279, o280, none⟩) t11.1.length c185), (20, .int .i64 (t11.1.length : Int)), (21, .int .i64 x187), (47, .bool x322)] ?_
           refine JQ.turn (Δ' := [At.box b9 48 [.slice Aa2 a1.length c3], At.rd Aa2 c3 fl_Vis.kd a1 true, At.box b10 48 [.slice Aa6 b5.length c7], At.rd Aa6 c7 fl_Vis.kd b5 true, At.row (some ⟨g279, o280, none⟩) c185 88 ((flArr3 (flInt .i64)).kd) t11.1 false]) (fun _ h => h.to) ?_
           rcases ite_cases H1 with ⟨h323, H1⟩ | ⟨h323, H1⟩
           · refine J.cond_true h323 ?_
             refine J.sr ?_
             refine JL.as (.bool false) ?_
             refine JL.es [(4, .bool false)] ?_
             refine JQ.mask [] [false, false, false, false, false] ?_
             refine J.ret ?_
             refine JQ.blk_ret ?_
             refine JQ.then_ret ?_
             refine JQ.then_ret ?_
             refine JQ.blk_ret ?_
             refine JQ.met_ret ?_
             refine JQ.then_ret ?_
             rw [hr1 _ (Option.some.inj H1).symm, fin_ret] at H0
             obtain rfl := Option.some.inj H0
             exact JQ.done' (rs := [.tmp 4]) (vs := [.bool false]) [] (.inr rfl) ⟨by kernel_rfl, trivial⟩ (fun _ h => Heap.to h) ⟨rfl, rfl⟩
           · refine J.cond_false h323 ?_
             refine J.skip ?_
             refine JQ.blk_normal ?_
             refine JQ.ts [(2, .pointer (some ⟨b9, 0, none⟩)), (3, .pointer (some ⟨b10, 0, none⟩)), (19, .slice (some ⟨g279, o280, none⟩) t11.1.length c185), (20, .int .i64 (t11.1.length : Int)), (21, .int .i64 x187)] ?_
             refine J.region ?_
             refine JL.pur (.int .i64 (w64 (x187 + 1))) (some 48) ?_
             refine JL.mv (.int .i64 (w64 (x187 + 1))) ?_
             refine JL.en ?_
             exact JQ.again (w64 (x187 + 1)) ((some ⟨g279, o280, none⟩), c185) (Option.some.inj H1).symm (fun _ h => Heap.to h)
   · refine J.cond_false h276 ?_
     refine J.exit ?_
     refine JQ.then_exit ?_
     refine JQ.then_exit ?_
     refine JQ.blk_exit ?_
     rw [hb1 _ (Option.some.inj H1).symm, fin_brk] at H0
     exact JQ.met () () H0 (fun _ h => Heap.to (Heap.pick [0, 1, 2, 3] (by decide) h))
 · clear hit H0
   rintro ⟨⟩ ⟨⟩ H0
   replace H0 : corrupt_alike.k11 a1 b5 = some r := H0
   unfold corrupt_alike.k11 at H0
   refine JQ.sub [(2, .pointer (some ⟨b9, 0, none⟩)), (3, .pointer (some ⟨b10, 0, none⟩))] ?_
   refine JQ.turn (Δ' := [At.box b9 48 [.slice Aa2 a1.length c3], At.rd Aa2 c3 fl_Vis.kd a1 true, At.box b10 48 [.slice Aa6 b5.length c7], At.rd Aa6 c7 fl_Vis.kd b5 true]) (fun _ h => h.to) ?_
   refine JQ.then_normal ?_
   refine J.sr ?_
   refine JL.pur (.func (.func 57) #[] #[.pointer (some ⟨b9, 0, none⟩), .pointer (some ⟨b10, 0, none⟩)]) (some 49) ?_
   refine JL.alloc [.nilFunc] fun b268 => ?_
   refine JL.store 4 b268 0 95 [.nilFunc] [.func (.func 57) #[] #[.pointer (some ⟨b9, 0, none⟩), .pointer (some ⟨b10, 0, none⟩)]] tySize_95 ?_
   refine JL.es [(2, .pointer (some ⟨b9, 0, none⟩)), (13, .pointer (some ⟨b268, 0, none⟩))] ?_
   refine J.sr ?_
   refine JL.val (.slice Aa2 a1.length c3) (some 50) (yields_load_box 0 0 (holds_box b9 48 [.slice Aa2 a1.length c3]) tyAgg_48) ?_
   obtain ⟨t269, hc270, H0⟩ := bind_some H0
   refine JL.call [] [] [] (corrupt_stations.ok a1 Aa2 c3 _ hc270) ⟨pre_any 1 (view_rd Aa2 c3 fl_Vis.kd a1 true true), trivial⟩ ?_
   rintro _ _ ⟨Aa271, c272, rfl, rfl⟩
   refine JL.pur (.func (.func 61) #[] #[.pointer (some ⟨b268, 0, none⟩)]) (some 52) ?_
   obtain ⟨t274, hc275, H0⟩ := bind_some H0
   refine JL.call [] [] [true, false, true, false, true] (corrupt_fours__corrupt_alike_2.ok t269 Aa271 c272 a1 b9 Aa2 c3 b5 b10 Aa6 c7 b268 _ hc275) ⟨pre_view 2 (view_row Aa271 c272 3 ((flInt .i64).kd) t269 false true), ⟨pre_any 0 (view_rd Aa2 c3 fl_Vis.kd a1 true true), ⟨pre_any 1 (view_rd Aa6 c7 fl_Vis.kd b5 true true), trivial⟩⟩⟩ ?_
   rintro _ _ ⟨rfl, rfl⟩
   refine JL.as (.bool t274) ?_
   refine JL.es [(4, .bool t274)] ?_
   refine JQ.mask [] [false, false, false, false, false, false] ?_
   refine J.ret ?_
   obtain rfl := Option.some.inj H0
   exact JQ.done' (rs := [.tmp 4]) (vs := [.bool t274]) [] (.inr rfl) ⟨by kernel_rfl, trivial⟩ (fun _ h => Heap.to h) ⟨rfl, rfl⟩

theorem corrupt_Alike_1.ok (v1 : (List Vis)) (Aa2 : Option Addr) (c3 : Nat) (w5 : (List Vis)) (Aa6 : Option Addr) (c7 : Nat) (r : Bool) (H0 : corrupt_Alike_1.f v1 w5 = some r) :
    Does Try.prog 38 [.slice Aa2 v1.length c3, .slice Aa6 w5.length c7].toArray [At.rd Aa2 c3 fl_Vis.kd v1 true, At.rd Aa6 c7 fl_Vis.kd w5 true] [] false (fun v Δ => v = .bool r ∧ Δ = []) := by
 refine Does.body (vs := [.slice Aa2 v1.length c3, .slice Aa6 w5.length c7]) Try.func38 rfl ⟨.inl rfl, .inl rfl, trivial⟩ trivial fun w S => ?_
 unfold corrupt_Alike_1.f at H0
 refine J.sr ?_
 refine JL.as (.bool false) ?_
 refine JL.es [(0, .slice Aa2 v1.length c3), (1, .slice Aa6 w5.length c7)] ?_
 refine J.sr ?_
 refine JL.mv (.slice Aa2 v1.length c3) ?_
 refine JL.mv (.slice Aa6 w5.length c7) ?_
 obtain ⟨t9, hc10, H0⟩ := bind_some H0
 refine JL.call [] [] [] (corrupt_baselines.ok v1 Aa2 c3 w5 Aa6 c7 _ hc10) ⟨pre_any 0 (view_rd Aa2 c3 fl_Vis.kd v1 true true), ⟨pre_any 1 (view_rd Aa6 c7 fl_Vis.kd w5 true true), trivial⟩⟩ ?_
 rintro _ _ ⟨rfl, rfl⟩
 refine JL.mv (.bool t9) ?_
 rcases ite_cases H0 with ⟨h11, H0⟩ | ⟨h11, H0⟩
 · refine JL.on 3 8 h11 ?_
   refine JL.mv (.slice Aa2 v1.length c3) ?_
   refine JL.on 3 8 h11 ?_
   refine JL.mv (.slice Aa6 w5.length c7) ?_
   refine JL.on 3 8 h11 ?_
   obtain ⟨t12, hc13, H0⟩ := bind_some H0
   refine JL.call [] [] [] (corrupt_alike.ok v1 Aa2 c3 w5 Aa6 c7 _ hc13) ⟨pre_any 0 (view_rd Aa2 c3 fl_Vis.kd v1 true true), ⟨pre_any 1 (view_rd Aa6 c7 fl_Vis.kd w5 true true), trivial⟩⟩ ?_
   rintro _ _ ⟨rfl, rfl⟩
   refine JL.val (.bool t12) (some 12) (gives_pickT h11) ?_
   refine JL.as (.bool t12) ?_
   refine JL.es [(4, .bool t12)] ?_
   refine JQ.mask [] [false, false] ?_
   refine J.ret ?_
   obtain rfl := Option.some.inj H0
   exact JQ.done' (rs := [.tmp 4]) (vs := [.bool t12]) [] (.inr rfl) ⟨by kernel_rfl, trivial⟩ (fun _ h => Heap.to h) ⟨rfl, rfl⟩
 · refine JL.off 3 8 true (some 9) h11 ?_
   refine JL.off 3 8 true (some 10) h11 ?_
   refine JL.off 3 8 true (some 11) h11 ?_
   refine JL.val (.bool false) (some 12) (gives_pickF h11) ?_
   refine JL.as (.bool false) ?_
   refine JL.es [(4, .bool false)] ?_
   refine JQ.mask [] [false, false] ?_
   refine J.ret ?_
   obtain rfl := Option.some.inj H0
   exact JQ.done' (rs := [.tmp 4]) (vs := [.bool false]) [] (.inr rfl) ⟨by kernel_rfl, trivial⟩ (fun _ h => Heap.to h) ⟨rfl, rfl⟩

theorem slices_EqualFunc__api_Vis_api_Vis_api_Vis_api_Vis__corrupt_Alike_1.ok (s1 : (List (List Vis))) (Aa2 : Option Addr) (c3 : Nat) (s5 : (List (List Vis))) (Aa6 : Option Addr) (c7 : Nat) (r : Bool) (H0 : slices_EqualFunc__api_Vis_api_Vis_api_Vis_api_Vis__corrupt_Alike_1.f s1 s5 = some r) :
    Does Try.prog 37 [.slice Aa2 s1.length c3, .slice Aa6 s5.length c7, .func (.func 38) #[] #[]].toArray [At.rd Aa2 c3 fl_Vis.kd.sl s1 true, At.rd Aa6 c7 fl_Vis.kd.sl s5 true] [] false (fun v Δ => v = .bool r ∧ Δ = []) := by
 refine Does.body (vs := [.slice Aa2 s1.length c3, .slice Aa6 s5.length c7, .func (.func 38) #[] #[]]) Try.func37 rfl ⟨.inl rfl, .inl rfl, trivial⟩ trivial fun w S => ?_
 unfold slices_EqualFunc__api_Vis_api_Vis_api_Vis_api_Vis__corrupt_Alike_1.f at H0
 refine J.sr ?_
 refine JL.as (.bool false) ?_
 refine JL.es [(0, .slice Aa2 s1.length c3), (1, .slice Aa6 s5.length c7), (2, .func (.func 38) #[] #[])] ?_
 refine J.seq ?_
 refine J.sr ?_
 refine JL.mv (.slice Aa2 s1.length c3) ?_
 refine JL.pur (.int .i64 (s1.length : Int)) (some 11) ?_
 refine JL.mv (.slice Aa6 s5.length c7) ?_
 refine JL.pur (.int .i64 (s5.length : Int)) (some 13) ?_
 refine JL.pur (.bool (!decide ((s1.length : Int) = (s5.length : Int)))) (some 14) ?_
 refine JL.es [(0, .slice Aa2 s1.length c3), (1, .slice Aa6 s5.length c7), (2, .func (.func 38) #[] #[]), (14, .bool (!decide ((s1.length : Int) = (s5.length : Int))))] ?_
 rcases ite_cases H0 with ⟨h9, H0⟩ | ⟨h9, H0⟩
 · refine J.cond_true h9 ?_
   refine J.sr ?_
   refine JL.as (.bool false) ?_
   refine JL.es [(6, .bool false)] ?_
   refine JQ.mask [] [false, false] ?_
   refine J.ret ?_
   refine JQ.then_ret ?_
   obtain rfl := Option.some.inj H0
   exact JQ.done' (rs := [.tmp 6]) (vs := [.bool false]) [] (.inr rfl) ⟨by kernel_rfl, trivial⟩ (fun _ h => Heap.to h) ⟨rfl, rfl⟩
 · refine J.cond_false h9 ?_
   refine J.skip ?_
   refine JQ.ts [(0, .slice Aa2 s1.length c3), (1, .slice Aa6 s5.length c7), (2, .func (.func 38) #[] #[])] ?_
   refine J.seq ?_
   refine J.sr ?_
   refine JL.mv (.slice Aa2 s1.length c3) ?_
   refine JL.pur (.int .i64 (s1.length : Int)) (some 16) ?_
   refine JL.mv (.int .i64 0) ?_
   refine JL.es [(1, .slice Aa6 s5.length c7), (2, .func (.func 38) #[] #[]), (15, .slice Aa2 s1.length c3), (16, .int .i64 (s1.length : Int)), (17, .int .i64 0)] ?_
   obtain ⟨o1, hit, H0⟩ := bind_some H0
   refine J.loop (σ := Int) (τ := Unit) (G := Unit) (G' := Unit) _ o1 (fun s g => [(1, .slice Aa6 s5.length c7), (2, .func (.func 38) #[] #[]), (15, .slice Aa2 s1.length c3), (16, .int .i64 (s1.length : Int)), (17, .int .i64 s)]) (fun s g => [At.rd Aa6 c7 fl_Vis.kd.sl s5 true, At.rd Aa2 c3 fl_Vis.kd.sl s1 true]) (fun t => slices_EqualFunc__api_Vis_api_Vis_api_Vis_api_Vis__corrupt_Alike_1.k2 = some r) (fun t g => []) (fun t g => []) 0 () hit (fun _ h => Heap.to (Heap.pick [1, 0] (by decide) h)) ?_ ?_
   · clear hit
     rintro x48 ⟨⟩ st1 H1 hb1 hr1
     replace H1 : slices_EqualFunc__api_Vis_api_Vis_api_Vis_api_Vis__corrupt_Alike_1.s1 s1 s5 x48 = some st1 := H1
     unfold slices_EqualFunc__api_Vis_api_Vis_api_Vis_api_Vis__corrupt_Alike_1.s1 at H1
     refine JQ.sub [(1, .slice Aa6 s5.length c7), (2, .func (.func 38) #[] #[]), (15, .slice Aa2 s1.length c3), (16, .int .i64 (s1.length : Int)), (17, .int .i64 x48)] ?_
     refine JQ.turn (Δ' := [At.rd Aa6 c7 fl_Vis.kd.sl s5 true, At.rd Aa2 c3 fl_Vis.kd.sl s1 true]) (fun _ h => h.to) ?_
     refine J.sr ?_
     refine JL.pur (.bool (decide (x48 < (s1.length : Int)))) (some 18) ?_
     refine JL.en ?_
     refine J.seq ?_
     rcases ite_cases H1 with ⟨h67, H1⟩ | ⟨h67, H1⟩
     · refine J.cond_true h67 ?_
       refine J.skip ?_
       refine JQ.ts [(1, .slice Aa6 s5.length c7), (2, .func (.func 38) #[] #[]), (15, .slice Aa2 s1.length c3), (16, .int .i64 (s1.length : Int)), (17, .int .i64 x48)] ?_
       refine J.seq ?_
       refine J.block ?_
       refine J.sr ?_
       refine JL.mv (.int .i64 x48) ?_
       obtain ⟨⟨h68, h69⟩, H1⟩ := ite_must H1
       refine JL.ixAddr 1 1 c3 .i64 (elems_rd Aa2 c3 fl_Vis.kd.sl s1 true) Try.underlying37 tySize_48 h68 h69 fun g70 o71 hA => ?_
       subst hA
       refine JL.loadEl (fun q : Option Addr × Nat => [.slice q.1 (ix s1 x48).length q.2]) (fun q : Option Addr × Nat => [At.rd q.1 q.2 fl_Vis.kd (ix s1 x48) true]) (fun q : Option Addr × Nat => .slice q.1 (ix s1 x48).length q.2) (off := 0) 1 (elems_rd (some ⟨g70, o71, none⟩) c3 fl_Vis.kd.sl s1 true) (opens_sl fl_Vis.kd _ _) h68 h69 tySize_48 (.inr ⟨tyAgg_48, rfl, fun _ => rfl⟩) ?_
       rintro ⟨Aa72, c73⟩
       refine JL.as (.int .i64 x48) ?_
       refine JL.as (.slice Aa72 (ix s1 x48).length c73) ?_
       refine JL.es [(1, .slice Aa6 s5.length c7), (2, .func (.func 38) #[] #[]), (7, .int .i64 x48), (8, .slice Aa72 (ix s1 x48).length c73), (15, .slice (some ⟨g70, o71, none⟩) s1.length c3), (16, .int .i64 (s1.length : Int)), (17, .int .i64 x48)] ?_
       refine J.sr ?_
       refine JL.mv (.slice Aa6 s5.length c7) ?_
       refine JL.mv (.int .i64 x48) ?_
       obtain ⟨⟨h75, h76⟩, H1⟩ := ite_must H1
       refine JL.ixAddr 0 1 c7 .i64 (elems_rd Aa6 c7 fl_Vis.kd.sl s5 true) Try.underlying37 tySize_48 h75 h76 fun g77 o78 hA => ?_
       subst hA
       refine JL.loadEl (fun q : Option Addr × Nat => [.slice q.1 (ix s5 x48).length q.2]) (fun q : Option Addr × Nat => [At.rd q.1 q.2 fl_Vis.kd (ix s5 x48) true]) (fun q : Option Addr × Nat => .slice q.1 (ix s5 x48).length q.2) (off := 0) 0 (elems_rd (some ⟨g77, o78, none⟩) c7 fl_Vis.kd.sl s5 true) (opens_sl fl_Vis.kd _ _) h75 h76 tySize_48 (.inr ⟨tyAgg_48, rfl, fun _ => rfl⟩) ?_
       rintro ⟨Aa79, c80⟩
       refine JL.as (.slice Aa79 (ix s5 x48).length c80) ?_
       refine JL.es [(1, .slice (some ⟨g77, o78, none⟩) s5.length c7), (2, .func (.func 38) #[] #[]), (8, .slice Aa72 (ix s1 x48).length c73), (9, .slice Aa79 (ix s5 x48).length c80), (15, .slice (some ⟨g70, o71, none⟩) s1.length c3), (16, .int .i64 (s1.length : Int)), (17, .int .i64 x48)] ?_
       refine J.sr ?_
       refine JL.mv (.func (.func 38) #[] #[]) ?_
       refine JL.mv (.slice Aa72 (ix s1 x48).length c73) ?_
       refine JL.mv (.slice Aa79 (ix s5 x48).length c80) ?_
       obtain ⟨t82, hc83, H1⟩ := bind_some H1
       refine JL.call [] [] [] (corrupt_Alike_1.ok (ix s1 x48) Aa72 c73 (ix s5 x48) Aa79 c80 _ hc83) ⟨pre_any 2 (view_rd Aa72 c73 fl_Vis.kd (ix s1 x48) true true), ⟨pre_any 3 (view_rd Aa79 c80 fl_Vis.kd (ix s5 x48) true true), trivial⟩⟩ ?_
       rintro _ _ ⟨rfl, rfl⟩
       refine JL.pur (.bool (!t82)) (some 30) ?_
       refine JL.es [(1, .slice (some ⟨g77, o78, none⟩) s5.length c7), (2, .func (.func 38) #[] #[]), (15, .slice (some ⟨g70, o71, none⟩) s1.length c3), (16, .int .i64 (s1.length : Int)), (17, .int .i64 x48), (30, .bool (!t82))] ?_
       refine JQ.mask [At.rd (some ⟨g77, o78, none⟩) c7 fl_Vis.kd.sl s5 true, At.rd (some ⟨g70, o71, none⟩) c3 fl_Vis.kd.sl s1 true] [true, true, false, false] ?_
       rcases ite_cases H1 with ⟨h84, H1⟩ | ⟨h84, H1⟩
       · refine J.cond_true h84 ?_
         refine J.sr ?_
         refine JL.as (.bool false) ?_
         refine JL.es [(6, .bool false)] ?_
         refine JQ.mask [] [false, false] ?_
         refine J.ret ?_
         refine JQ.blk_ret ?_
         refine JQ.then_ret ?_
         refine JQ.then_ret ?_
         refine JQ.blk_ret ?_
         refine JQ.met_ret ?_
         refine JQ.then_ret ?_
         rw [hr1 _ (Option.some.inj H1).symm, fin_ret] at H0
         obtain rfl := Option.some.inj H0
         exact JQ.done' (rs := [.tmp 6]) (vs := [.bool false]) [] (.inr rfl) ⟨by kernel_rfl, trivial⟩ (fun _ h => Heap.to h) ⟨rfl, rfl⟩
       · refine J.cond_false h84 ?_
         refine J.skip ?_
         refine JQ.blk_normal ?_
         refine JQ.ts [(1, .slice (some ⟨g77, o78, none⟩) s5.length c7), (2, .func (.func 38) #[] #[]), (15, .slice (some ⟨g70, o71, none⟩) s1.length c3), (16, .int .i64 (s1.length : Int)), (17, .int .i64 x48)] ?_
         refine J.region ?_
         refine JL.pur (.int .i64 (w64 (x48 + 1))) (some 31) ?_
         refine JL.mv (.int .i64 (w64 (x48 + 1))) ?_
         refine JL.en ?_
         exact JQ.again (w64 (x48 + 1)) () (Option.some.inj H1).symm (fun _ h => Heap.to h)
     · refine J.cond_false h67 ?_
       refine J.exit ?_
       refine JQ.then_exit ?_
       refine JQ.then_exit ?_
       refine JQ.blk_exit ?_
       rw [hb1 _ (Option.some.inj H1).symm, fin_brk] at H0
       exact JQ.met () () H0 (fun _ h => Heap.to (Heap.pick [] (by decide) h))
   · clear hit H0
     rintro ⟨⟩ ⟨⟩ H0
     replace H0 : slices_EqualFunc__api_Vis_api_Vis_api_Vis_api_Vis__corrupt_Alike_1.k2 = some r := H0
     unfold slices_EqualFunc__api_Vis_api_Vis_api_Vis_api_Vis__corrupt_Alike_1.k2 at H0
     refine JQ.sub [] ?_
     refine JQ.turn (Δ' := []) (fun _ h => h.to) ?_
     refine JQ.then_normal ?_
     refine J.sr ?_
     refine JL.as (.bool true) ?_
     refine JL.en ?_
     refine J.ret ?_
     obtain rfl := Option.some.inj H0
     exact JQ.done' (rs := [.tmp 6]) (vs := [.bool true]) [] (.inr rfl) ⟨by kernel_rfl, trivial⟩ (fun _ h => Heap.to h) ⟨rfl, rfl⟩

theorem corrupt_Alike.ok (a1 : (List (List Vis))) (Aa2 : Option Addr) (c3 : Nat) (b5 : (List (List Vis))) (Aa6 : Option Addr) (c7 : Nat) (r : (Bool × Int)) (H0 : corrupt_Alike.f a1 b5 = some r) :
    Does Try.prog 18 [.slice Aa2 a1.length c3, .slice Aa6 b5.length c7].toArray [At.rd Aa2 c3 fl_Vis.kd.sl a1 true, At.rd Aa6 c7 fl_Vis.kd.sl b5 true] [] false (fun v Δ => v = .tuple #[.bool r.1, .int .i64 r.2] ∧ Δ = []) := by
 refine Does.body (vs := [.slice Aa2 a1.length c3, .slice Aa6 b5.length c7]) Try.func18 rfl ⟨.inl rfl, .inl rfl, trivial⟩ trivial fun w S => ?_
 unfold corrupt_Alike.f at H0
 refine J.sr ?_
 refine JL.as (.bool false) ?_
 refine JL.as (.int .i64 0) ?_
 refine JL.es [(0, .slice Aa2 a1.length c3), (1, .slice Aa6 b5.length c7)] ?_
 refine J.seq ?_
 refine J.sr ?_
 refine JL.mv (.slice Aa2 a1.length c3) ?_
 obtain ⟨t9, hc10, H0⟩ := bind_some H0
 refine JL.call [] [] [] (corrupt_Check.ok a1 Aa2 c3 _ hc10) ⟨pre_any 0 (view_rd Aa2 c3 fl_Vis.kd.sl a1 true true), trivial⟩ ?_
 rintro _ _ ⟨rfl, rfl⟩
 refine JL.as (.int .i64 t9) ?_
 refine JL.es [(0, .slice Aa2 a1.length c3), (1, .slice Aa6 b5.length c7), (6, .int .i64 t9)] ?_
 refine J.sr ?_
 refine JL.mv (.int .i64 t9) ?_
 refine JL.pur (.bool (!decide (t9 = 0))) (some 11) ?_
 refine JL.es [(0, .slice Aa2 a1.length c3), (1, .slice Aa6 b5.length c7), (6, .int .i64 t9), (11, .bool (!decide (t9 = 0)))] ?_
 rcases ite_cases H0 with ⟨h11, H0⟩ | ⟨h11, H0⟩
 · refine J.cond_true h11 ?_
   refine J.sr ?_
   refine JL.mv (.int .i64 t9) ?_
   refine JL.as (.bool false) ?_
   refine JL.as (.int .i64 t9) ?_
   refine JL.es [(4, .bool false), (5, .int .i64 t9)] ?_
   refine JQ.mask [] [false, false] ?_
   refine J.ret ?_
   refine JQ.then_ret ?_
   obtain rfl := Option.some.inj H0
   exact JQ.done' (rs := [.tmp 4, .tmp 5]) (vs := [.bool false, .int .i64 t9]) [] (.inr rfl) ⟨by kernel_rfl, by kernel_rfl, trivial⟩ (fun _ h => Heap.to h) ⟨rfl, rfl⟩
 · refine J.cond_false h11 ?_
   refine J.skip ?_
   refine JQ.ts [(0, .slice Aa2 a1.length c3), (1, .slice Aa6 b5.length c7)] ?_
   refine J.seq ?_
   refine J.sr ?_
   refine JL.mv (.slice Aa6 b5.length c7) ?_
   obtain ⟨t12, hc13, H0⟩ := bind_some H0
   refine JL.call [] [] [] (corrupt_Check.ok b5 Aa6 c7 _ hc13) ⟨pre_any 1 (view_rd Aa6 c7 fl_Vis.kd.sl b5 true true), trivial⟩ ?_
   rintro _ _ ⟨rfl, rfl⟩
   refine JL.as (.int .i64 t12) ?_
   refine JL.es [(0, .slice Aa2 a1.length c3), (1, .slice Aa6 b5.length c7), (7, .int .i64 t12)] ?_
   refine J.sr ?_
   refine JL.mv (.int .i64 t12) ?_
   refine JL.pur (.bool (!decide (t12 = 0))) (some 16) ?_
   refine JL.es [(0, .slice Aa2 a1.length c3), (1, .slice Aa6 b5.length c7), (7, .int .i64 t12), (16, .bool (!decide (t12 = 0)))] ?_
   rcases ite_cases H0 with ⟨h14, H0⟩ | ⟨h14, H0⟩
   · refine J.cond_true h14 ?_
     refine J.sr ?_
     refine JL.mv (.int .i64 t12) ?_
     refine JL.as (.bool false) ?_
     refine JL.as (.int .i64 t12) ?_
     refine JL.es [(4, .bool false), (5, .int .i64 t12)] ?_
     refine JQ.mask [] [false, false] ?_
     refine J.ret ?_
     refine JQ.then_ret ?_
     obtain rfl := Option.some.inj H0
     exact JQ.done' (rs := [.tmp 4, .tmp 5]) (vs := [.bool false, .int .i64 t12]) [] (.inr rfl) ⟨by kernel_rfl, by kernel_rfl, trivial⟩ (fun _ h => Heap.to h) ⟨rfl, rfl⟩
   · refine J.cond_false h14 ?_
     refine J.skip ?_
     refine JQ.ts [(0, .slice Aa2 a1.length c3), (1, .slice Aa6 b5.length c7)] ?_
     refine J.sr ?_
     refine JL.mv (.slice Aa2 a1.length c3) ?_
     refine JL.mv (.slice Aa6 b5.length c7) ?_
     obtain ⟨t15, hc16, H0⟩ := bind_some H0
     refine JL.call [] [] [] (slices_EqualFunc__api_Vis_api_Vis_api_Vis_api_Vis__corrupt_Alike_1.ok a1 Aa2 c3 b5 Aa6 c7 _ hc16) ⟨pre_any 0 (view_rd Aa2 c3 fl_Vis.kd.sl a1 true true), ⟨pre_any 1 (view_rd Aa6 c7 fl_Vis.kd.sl b5 true true), trivial⟩⟩ ?_
     rintro _ _ ⟨rfl, rfl⟩
     refine JL.as (.bool t15) ?_
     refine JL.as (.int .i64 0) ?_
     refine JL.es [(4, .bool t15), (5, .int .i64 0)] ?_
     refine JQ.mask [] [false, false] ?_
     refine J.ret ?_
     obtain rfl := Option.some.inj H0
     exact JQ.done' (rs := [.tmp 4, .tmp 5]) (vs := [.bool t15, .int .i64 0]) [] (.inr rfl) ⟨by kernel_rfl, by kernel_rfl, trivial⟩ (fun _ h => Heap.to h) ⟨rfl, rfl⟩

theorem law35_example.ok  (r : (List Spoil)) (H0 : law35_example.f = some r) :
    Does Try.prog 19 [].toArray [] [] false (fun v Δ => ∃ A1001 : Option Addr, ∃ c1001 : Nat, v = .slice A1001 r.length c1001 ∧ Δ = [At.row A1001 c1001 25 fl_Spoil.kd r false]) := by
 refine Does.body (vs := []) Try.func19 rfl trivial trivial fun w S => ?_
 unfold law35_example.f at H0
 refine J.sr ?_
 refine JL.as (.slice none 0 0) ?_
 refine JL.es [] ?_
 refine J.sr ?_
 obtain ⟨t1, hc2, H0⟩ := bind_some H0
 refine JL.call [] [] [] (law35_of.ok 3 0 1 _ hc2) trivial ?_
 rintro _ _ ⟨rfl, rfl⟩
 refine JL.pur (.agg #[.int .u8 1, .int .i64 2, .int .i64 0, .int .i64 9, .int .i64 t1.Re, .int .i64 t1.Im, .int .i64 t1.Den, .int .i64 0]) (some 2) ?_
 refine JL.pur (.agg #[.int .u8 3, .int .i64 2, .int .i64 3, .int .i64 9, .int .i64 0, .int .i64 0, .int .i64 0, .int .i64 1]) (some 3) ?_
 refine JL.buildSl 25 fl_Spoil.kd (([(⟨1, 2, 0, 9, t1, 0⟩ : Spoil), (⟨3, 2, 3, 9, (⟨0, 0, 0⟩ : Cx), 1⟩ : Spoil)] : List Spoil) : List Spoil) [.int .u8 1, .int .i64 2, .int .i64 0, .int .i64 9, .int .i64 t1.Re, .int .i64 t1.Im, .int .i64 t1.Den, .int .i64 0, .int .u8 3, .int .i64 2, .int .i64 3, .int .i64 9, .int .i64 0, .int .i64 0, .int .i64 0, .int .i64 1] false (closes_fl rfl) fun b3 => ?_
 refine JL.as (.slice (some ⟨b3, 0, none⟩) ([(⟨1, 2, 0, 9, t1, 0⟩ : Spoil), (⟨3, 2, 3, 9, (⟨0, 0, 0⟩ : Cx), 1⟩ : Spoil)] : List Spoil).length 2) ?_
 refine JL.es [(0, .slice (some ⟨b3, 0, none⟩) ([(⟨1, 2, 0, 9, t1, 0⟩ : Spoil), (⟨3, 2, 3, 9, (⟨0, 0, 0⟩ : Cx), 1⟩ : Spoil)] : List Spoil).length 2)] ?_
 refine J.ret ?_
 obtain rfl := Option.some.inj H0
 exact JQ.done' (rs := [.tmp 0]) (vs := [.slice (some ⟨b3, 0, none⟩) ([(⟨1, 2, 0, 9, t1, 0⟩ : Spoil), (⟨3, 2, 3, 9, (⟨0, 0, 0⟩ : Cx), 1⟩ : Spoil)] : List Spoil).length 2]) [At.row (some ⟨b3, 0, none⟩) 2 25 fl_Spoil.kd ([(⟨1, 2, 0, 9, t1, 0⟩ : Spoil), (⟨3, 2, 3, 9, (⟨0, 0, 0⟩ : Cx), 1⟩ : Spoil)] : List Spoil) false] (.inr rfl) ⟨by kernel_rfl, trivial⟩ (fun _ h => Heap.to h) ⟨(some ⟨b3, 0, none⟩), 2, rfl, rfl⟩

theorem ref25_Same.ok (a1 : (List Cx)) (Aa2 : Option Addr) (c3 : Nat) (b5 : (List Cx)) (Aa6 : Option Addr) (c7 : Nat) (r : Bool) (H0 : ref25_Same.f a1 b5 = some r) :
    Does Try.prog 20 [.slice Aa2 a1.length c3, .slice Aa6 b5.length c7].toArray [At.rd Aa2 c3 fl_Cx.kd a1 true, At.rd Aa6 c7 fl_Cx.kd b5 true] [] false (fun v Δ => v = .bool r ∧ Δ = []) := by
 refine Does.body (vs := [.slice Aa2 a1.length c3, .slice Aa6 b5.length c7]) Try.func20 rfl ⟨.inl rfl, .inl rfl, trivial⟩ trivial fun w S => ?_
 unfold ref25_Same.f at H0
 refine J.sr ?_
 refine JL.as (.bool false) ?_
 refine JL.es [(0, .slice Aa2 a1.length c3), (1, .slice Aa6 b5.length c7)] ?_
 refine J.seq ?_
 refine J.sr ?_
 refine JL.mv (.slice Aa2 a1.length c3) ?_
 refine JL.pur (.int .i64 (a1.length : Int)) (some 7) ?_
 refine JL.mv (.slice Aa6 b5.length c7) ?_
 refine JL.pur (.int .i64 (b5.length : Int)) (some 9) ?_
 refine JL.pur (.bool (!decide ((a1.length : Int) = (b5.length : Int)))) (some 10) ?_
 refine JL.es [(0, .slice Aa2 a1.length c3), (1, .slice Aa6 b5.length c7), (10, .bool (!decide ((a1.length : Int) = (b5.length : Int))))] ?_
 rcases ite_cases H0 with ⟨h9, H0⟩ | ⟨h9, H0⟩
 · refine J.cond_true h9 ?_
   refine J.sr ?_
   refine JL.as (.bool false) ?_
   refine JL.es [(4, .bool false)] ?_
   refine JQ.mask [] [false, false] ?_
   refine J.ret ?_
   refine JQ.then_ret ?_
   obtain rfl := Option.some.inj H0
   exact JQ.done' (rs := [.tmp 4]) (vs := [.bool false]) [] (.inr rfl) ⟨by kernel_rfl, trivial⟩ (fun _ h => Heap.to h) ⟨rfl, rfl⟩
 · refine J.cond_false h9 ?_
   refine J.skip ?_
   refine JQ.ts [(0, .slice Aa2 a1.length c3), (1, .slice Aa6 b5.length c7)] ?_
   refine J.seq ?_
   refine J.sr ?_
   refine JL.as (.int .i64 0) ?_
   refine JL.en ?_
   obtain ⟨o1, hit, H0⟩ := bind_some H0
   refine J.loop (σ := Int) (τ := Unit) (G := Unit) (G' := Unit) _ o1 (fun s g => [(0, .slice Aa2 a1.length c3), (1, .slice Aa6 b5.length c7), (5, .int .i64 s)]) (fun s g => [At.rd Aa2 c3 fl_Cx.kd a1 true, At.rd Aa6 c7 fl_Cx.kd b5 true]) (fun t => ref25_Same.k2 = some r) (fun t g => []) (fun t g => []) 0 () hit (fun _ h => Heap.to h) ?_ ?_
   · clear hit
     rintro i32 ⟨⟩ st1 H1 hb1 hr1
     replace H1 : ref25_Same.s1 a1 b5 i32 = some st1 := H1
     unfold ref25_Same.s1 at H1
     refine JQ.sub [(0, .slice Aa2 a1.length c3), (1, .slice Aa6 b5.length c7), (5, .int .i64 i32)] ?_
     refine JQ.turn (Δ' := [At.rd Aa2 c3 fl_Cx.kd a1 true, At.rd Aa6 c7 fl_Cx.kd b5 true]) (fun _ h => h.to) ?_
     refine J.seq ?_
     refine J.sr ?_
     refine JL.mv (.int .i64 i32) ?_
     refine JL.mv (.slice Aa2 a1.length c3) ?_
     refine JL.pur (.int .i64 (a1.length : Int)) (some 13) ?_
     refine JL.pur (.bool (decide (i32 < (a1.length : Int)))) (some 14) ?_
     refine JL.es [(0, .slice Aa2 a1.length c3), (1, .slice Aa6 b5.length c7), (5, .int .i64 i32), (14, .bool (decide (i32 < (a1.length : Int))))] ?_
     rcases ite_cases H1 with ⟨h43, H1⟩ | ⟨h43, H1⟩
     · refine J.cond_true h43 ?_
       refine J.skip ?_
       refine JQ.ts [(0, .slice Aa2 a1.length c3), (1, .slice Aa6 b5.length c7), (5, .int .i64 i32)] ?_
       refine J.seq ?_
       refine J.block ?_
       refine J.seq ?_
       refine J.draw ?_
       refine QL.mv (.slice Aa2 a1.length c3) ?_
       refine QL.mv (.int .i64 i32) ?_
       obtain ⟨⟨h44, h45⟩, H1⟩ := ite_must H1
       refine QL.ixAddr 0 3 c3 .i64 (elems_rd Aa2 c3 fl_Cx.kd a1 true) Try.underlying28 tySize_23 h44 h45 fun g46 o47 hA => ?_
       subst hA
       refine QL.val (mv_23 (ix a1 i32)) (some 20) (gives_loadEl (f := fl_Cx) 0 0 i32 (elems_rd (some ⟨g46, o47, none⟩) c3 fl_Cx.kd a1 true) h44 h45 tySize_23 (.inl ⟨tyAgg_23, rfl⟩)) ?_
       refine QL.mv (.slice Aa6 b5.length c7) ?_
       refine QL.mv (.int .i64 i32) ?_
       obtain ⟨⟨h48, h49⟩, H1⟩ := ite_must H1
       refine QL.ixAddr 1 3 c7 .i64 (elems_rd Aa6 c7 fl_Cx.kd b5 true) Try.underlying28 tySize_23 h48 h49 fun g50 o51 hA => ?_
       subst hA
       refine QL.val (mv_23 (ix b5 i32)) (some 24) (gives_loadEl (f := fl_Cx) 1 0 i32 (elems_rd (some ⟨g50, o51, none⟩) c7 fl_Cx.kd b5 true) h48 h49 tySize_23 (.inl ⟨tyAgg_23, rfl⟩)) ?_
       refine QL.val (.bool (!decide ((ix a1 i32) = (ix b5 i32)))) (some 25) (gives_neq eqg_23 (fun w => eqt_23 (ix a1 i32) (ix b5 i32) w)) ?_
       refine QL.nil ?_
       refine JA.nil ?_
       refine JQ.ts [(0, .slice (some ⟨g46, o47, none⟩) a1.length c3), (1, .slice (some ⟨g50, o51, none⟩) b5.length c7), (5, .int .i64 i32), (25, .bool (!decide ((ix a1 i32) = (ix b5 i32))))] ?_
       rcases ite_cases H1 with ⟨h52, H1⟩ | ⟨h52, H1⟩
       · refine J.cond_true h52 ?_
         refine J.sr ?_
         refine JL.as (.bool false) ?_
         refine JL.es [(4, .bool false)] ?_
         refine JQ.mask [] [false, false] ?_
         refine J.ret ?_
         refine JQ.blk_ret ?_
         refine JQ.then_ret ?_
         refine JQ.then_ret ?_
         refine JQ.blk_ret ?_
         refine JQ.met_ret ?_
         refine JQ.then_ret ?_
         rw [hr1 _ (Option.some.inj H1).symm, fin_ret] at H0
         obtain rfl := Option.some.inj H0
         exact JQ.done' (rs := [.tmp 4]) (vs := [.bool false]) [] (.inr rfl) ⟨by kernel_rfl, trivial⟩ (fun _ h => Heap.to h) ⟨rfl, rfl⟩
       · refine J.cond_false h52 ?_
         refine J.skip ?_
         refine JQ.blk_normal ?_
         refine JQ.ts [(0, .slice (some ⟨g46, o47, none⟩) a1.length c3), (1, .slice (some ⟨g50, o51, none⟩) b5.length c7), (5, .int .i64 i32)] ?_
         refine J.region ?_
         refine JL.mv (.int .i64 i32) ?_
         refine JL.pur (.int .i64 (w64 (i32 + 1))) (some 16) ?_
         refine JL.as (.int .i64 (w64 (i32 + 1))) ?_
         refine JL.en ?_
         exact JQ.again (w64 (i32 + 1)) () (Option.some.inj H1).symm (fun _ h => Heap.to h)
     · refine J.cond_false h43 ?_
       refine J.exit ?_
       refine JQ.then_exit ?_
       refine JQ.then_exit ?_
       refine JQ.blk_exit ?_
       rw [hb1 _ (Option.some.inj H1).symm, fin_brk] at H0
       exact JQ.met () () H0 (fun _ h => Heap.to (Heap.pick [] (by decide) h))
   · clear hit H0
     rintro ⟨⟩ ⟨⟩ H0
     replace H0 : ref25_Same.k2 = some r := H0
     unfold ref25_Same.k2 at H0
     refine JQ.sub [] ?_
     refine JQ.turn (Δ' := []) (fun _ h => h.to) ?_
     refine JQ.then_normal ?_
     refine J.sr ?_
     refine JL.as (.bool true) ?_
     refine JL.en ?_
     refine J.ret ?_
     obtain rfl := Option.some.inj H0
     exact JQ.done' (rs := [.tmp 4]) (vs := [.bool true]) [] (.inr rfl) ⟨by kernel_rfl, trivial⟩ (fun _ h => Heap.to h) ⟨rfl, rfl⟩

theorem law35_alive.ok  (r : Bool) (H0 : law35_alive.f = some r) :
    Does Try.prog 6 [].toArray [] [] false (fun v Δ => v = .bool r ∧ Δ = []) := by
 refine Does.body (vs := []) Try.func6 rfl trivial trivial fun w S => ?_
 unfold law35_alive.f at H0
 refine J.sr ?_
 refine JL.as (.bool false) ?_
 refine JL.es [] ?_
 refine J.sr ?_
 obtain ⟨t1, hc2, H0⟩ := bind_some H0
 refine JL.call [] [] [] (law35_example.ok _ hc2) trivial ?_
 rintro _ _ ⟨Aa3, c4, rfl, rfl⟩
 obtain ⟨t6, hc7, H0⟩ := bind_some H0
 refine JL.call [] [] [] (corrupt_Table.ok t1 Aa3 c4 5 _ hc7) ⟨pre_view 0 (view_row Aa3 c4 25 fl_Spoil.kd t1 false true), trivial⟩ ?_
 rintro _ _ ⟨Aa8, c9, rfl, rfl⟩
 refine JL.mv (.tuple #[.slice Aa8 t6.1.length c9, .int .i64 t6.2]) ?_
 refine JL.pur (.slice Aa8 t6.1.length c9) (some 7) ?_
 refine JL.pur (.int .i64 t6.2) (some 8) ?_
 refine JL.as (.slice Aa8 t6.1.length c9) ?_
 refine JL.as (.int .i64 t6.2) ?_
 refine JL.es [(1, .slice Aa8 t6.1.length c9), (2, .int .i64 t6.2)] ?_
 refine JQ.mask [At.row Aa8 c9 23 fl_Cx.kd t6.1 false] [false, true] ?_
 refine J.sr ?_
 obtain ⟨t11, hc12, H0⟩ := bind_some H0
 refine JL.call [] [] [] (ref26_One.ok _ hc12) trivial ?_
 rintro _ _ ⟨rfl, rfl⟩
 refine JL.alloc (cl_23 zv_23) fun b13 => ?_
 refine JL.store 1 b13 0 23 (cl_23 zv_23) (cl_23 t11) tySize_23 ?_
 refine JL.es [(1, .slice Aa8 t6.1.length c9), (2, .int .i64 t6.2), (3, .pointer (some ⟨b13, 0, none⟩))] ?_
 refine J.seq ?_
 rcases ite_cases H0 with ⟨h14, H0⟩ | ⟨h14, H0⟩
 · obtain ⟨t15, hc16, H0⟩ := bind_some H0
   obtain ⟨t18, hc19, H0⟩ := bind_some H0
   refine JY.start [] (ba 16 0) ?_
   refine JY.pur (hi := rfl) 0 (ba 16 1) (.int .i64 t6.2) (some 10) want ?_
   refine JY.pur (hi := rfl) 1 (ba 16 3) (.bool (decide (t6.2 = 0))) (some 11) want ?_
   refine JY.pur (hi := rfl) 2 (ba 16 7) (.bool (decide (t6.2 = 0))) (some 12) want ?_
   refine JY.pur (hi := rfl) 3 (ba 16 15) (.slice Aa8 t6.1.length c9) (some 13) (wantOn 2 12 h14) ?_
   refine JY.takeG 4 (ba 16 31) (mv_23 t11) (some 14) [true, true] rfl (wantOn 2 12 h14) (yields_load_boxes 1 0 (cl_23 t11) (holds_box b13 23 (cl_23 t11)) tyAgg_23 tySize_23) ?_
   refine JY.takeG 5 (ba 16 63) (mv_23 t11) (some 15) [true, true] rfl (wantOn 2 12 h14) (yields_load_boxes 1 0 (cl_23 t11) (holds_box b13 23 (cl_23 t11)) tyAgg_23 tySize_23) ?_
   refine JY.takeG 7 (ba 16 191) (mv_23 t11) (some 17) [true, true] rfl (wantOn 2 12 h14) (yields_load_boxes 1 0 (cl_23 t11) (holds_box b13 23 (cl_23 t11)) tyAgg_23 tySize_23) ?_
   refine JY.takeG 8 (ba 16 447) (mv_23 t11) (some 18) [true, true] rfl (wantOn 2 12 h14) (yields_load_boxes 1 0 (cl_23 t11) (holds_box b13 23 (cl_23 t11)) tyAgg_23 tySize_23) ?_
   refine JY.takeG 9 (ba 16 959) (mv_23 t11) (some 19) [true, true] rfl (wantOn 2 12 h14) (yields_load_boxes 1 0 (cl_23 t11) (holds_box b13 23 (cl_23 t11)) tyAgg_23 tySize_23) ?_
   refine JY.takeG 10 (ba 16 1983) (mv_23 t11) (some 20) [true, true] rfl (wantOn 2 12 h14) (yields_load_boxes 1 0 (cl_23 t11) (holds_box b13 23 (cl_23 t11)) tyAgg_23 tySize_23) ?_
   refine JY.takeG 11 (ba 16 4031) (mv_23 t11) (some 21) [true, true] rfl (wantOn 2 12 h14) (yields_load_boxes 1 0 (cl_23 t11) (holds_box b13 23 (cl_23 t11)) tyAgg_23 tySize_23) ?_
   refine JY.all [6] ⟨⟨_, rfl, ?_⟩, trivial⟩
   refine JL.on 2 12 h14 ?_
   refine JL.call [] [] [] (law35_of.ok (-3) 0 1 _ hc16) trivial ?_
   rintro _ _ ⟨rfl, rfl⟩
   refine JL.nil ?_
   refine JY.ran (ba 16 4095) [true, true] ?_
   refine JY.all [12] ⟨⟨_, rfl, ?_⟩, trivial⟩
   refine JL.on 2 12 h14 ?_
   refine JL.buildSl 23 fl_Cx.kd (([t11, t11, t15, t11, t11, t11, t11, t11] : List Cx) : List Cx) [.int .i64 t11.Re, .int .i64 t11.Im, .int .i64 t11.Den, .int .i64 t11.Re, .int .i64 t11.Im, .int .i64 t11.Den, .int .i64 t15.Re, .int .i64 t15.Im, .int .i64 t15.Den, .int .i64 t11.Re, .int .i64 t11.Im, .int .i64 t11.Den, .int .i64 t11.Re, .int .i64 t11.Im, .int .i64 t11.Den, .int .i64 t11.Re, .int .i64 t11.Im, .int .i64 t11.Den, .int .i64 t11.Re, .int .i64 t11.Im, .int .i64 t11.Den, .int .i64 t11.Re, .int .i64 t11.Im, .int .i64 t11.Den] false (closes_fl rfl) fun b22 => ?_
   refine JL.nil ?_
   refine JY.ran (ba 16 8191) [true, true, false] ?_
   refine JY.all [13] ⟨⟨_, rfl, ?_⟩, trivial⟩
   refine JL.on 2 12 h14 ?_
   refine JL.call [] [] [] (ref25_Same.ok t6.1 Aa8 c9 ([t11, t11, t15, t11, t11, t11, t11, t11] : List Cx) (some ⟨b22, 0, none⟩) 8 _ hc19) ⟨pre_view 0 (view_row Aa8 c9 23 fl_Cx.kd t6.1 false true), ⟨pre_view 2 (view_row (some ⟨b22, 0, none⟩) 8 23 fl_Cx.kd ([t11, t11, t15, t11, t11, t11, t11, t11] : List Cx) false true), trivial⟩⟩ ?_
   rintro _ _ ⟨rfl, rfl⟩
   refine JL.nil ?_
   refine JY.ran (ba 16 16383) [true, true, false] ?_
   refine JY.puw (hi := rfl) 14 (ba 16 32767) (.bool t18) (some 24) want (givesW_pickT h14) ?_
   refine JY.pur (hi := rfl) 15 (ba 16 65535) (.bool t18) (some 0) want ?_
   refine JY.done ?_
   refine JQ.ts [(0, .bool t18)] ?_
   refine JQ.mask [] [false, false, false] ?_
   refine J.ret ?_
   obtain rfl := Option.some.inj H0
   exact JQ.done' (rs := [.tmp 0]) (vs := [.bool t18]) [] (.inr rfl) ⟨by kernel_rfl, trivial⟩ (fun _ h => Heap.to h) ⟨rfl, rfl⟩
 · refine JY.start [] (ba 16 0) ?_
   refine JY.pur (hi := rfl) 0 (ba 16 1) (.int .i64 t6.2) (some 10) want ?_
   refine JY.pur (hi := rfl) 1 (ba 16 3) (.bool (decide (t6.2 = 0))) (some 11) want ?_
   refine JY.pur (hi := rfl) 2 (ba 16 7) (.bool (decide (t6.2 = 0))) (some 12) want ?_
   refine JY.skip (hi := rfl) 3 (ba 16 15) (some 13) (wantOff 2 12 true h14) ?_
   refine JY.skip (hi := rfl) 4 (ba 16 31) (some 14) (wantOff 2 12 true h14) ?_
   refine JY.skip (hi := rfl) 5 (ba 16 63) (some 15) (wantOff 2 12 true h14) ?_
   refine JY.skip (hi := rfl) 6 (ba 16 127) (some 16) (wantOff 2 12 true h14) ?_
   refine JY.skip (hi := rfl) 7 (ba 16 255) (some 17) (wantOff 2 12 true h14) ?_
   refine JY.skip (hi := rfl) 8 (ba 16 511) (some 18) (wantOff 2 12 true h14) ?_
   refine JY.skip (hi := rfl) 9 (ba 16 1023) (some 19) (wantOff 2 12 true h14) ?_
   refine JY.skip (hi := rfl) 10 (ba 16 2047) (some 20) (wantOff 2 12 true h14) ?_
   refine JY.skip (hi := rfl) 11 (ba 16 4095) (some 21) (wantOff 2 12 true h14) ?_
   refine JY.skip (hi := rfl) 12 (ba 16 8191) (some 22) (wantOff 2 12 true h14) ?_
   refine JY.skip (hi := rfl) 13 (ba 16 16383) (some 23) (wantOff 2 12 true h14) ?_
   refine JY.puw (hi := rfl) 14 (ba 16 32767) (.bool false) (some 24) want (givesW_pickF h14) ?_
   refine JY.pur (hi := rfl) 15 (ba 16 65535) (.bool false) (some 0) want ?_
   refine JY.done ?_
   refine JQ.ts [(0, .bool false)] ?_
   refine JQ.mask [] [false, false] ?_
   refine J.ret ?_
   obtain rfl := Option.some.inj H0
   exact JQ.done' (rs := [.tmp 0]) (vs := [.bool false]) [] (.inr rfl) ⟨by kernel_rfl, trivial⟩ (fun _ h => Heap.to h) ⟨rfl, rfl⟩

theorem ref26_Same.ok (a1 : (List Vis)) (Aa2 : Option Addr) (c3 : Nat) (b5 : (List Vis)) (Aa6 : Option Addr) (c7 : Nat) (r : Bool) (H0 : ref26_Same.f a1 b5 = some r) :
    Does Try.prog 31 [.slice Aa2 a1.length c3, .slice Aa6 b5.length c7].toArray [At.rd Aa2 c3 fl_Vis.kd a1 true, At.rd Aa6 c7 fl_Vis.kd b5 true] [] false (fun v Δ => v = .bool r ∧ Δ = []) := by
 refine Does.body (vs := [.slice Aa2 a1.length c3, .slice Aa6 b5.length c7]) Try.func31 rfl ⟨.inl rfl, .inl rfl, trivial⟩ trivial fun w S => ?_
 unfold ref26_Same.f at H0
 refine J.sr ?_
 refine JL.as (.bool false) ?_
 refine JL.es [(0, .slice Aa2 a1.length c3), (1, .slice Aa6 b5.length c7)] ?_
 refine J.seq ?_
 refine J.sr ?_
 refine JL.mv (.slice Aa2 a1.length c3) ?_
 refine JL.pur (.int .i64 (a1.length : Int)) (some 7) ?_
 refine JL.mv (.slice Aa6 b5.length c7) ?_
 refine JL.pur (.int .i64 (b5.length : Int)) (some 9) ?_
 refine JL.pur (.bool (!decide ((a1.length : Int) = (b5.length : Int)))) (some 10) ?_
 refine JL.es [(0, .slice Aa2 a1.length c3), (1, .slice Aa6 b5.length c7), (10, .bool (!decide ((a1.length : Int) = (b5.length : Int))))] ?_
 rcases ite_cases H0 with ⟨h9, H0⟩ | ⟨h9, H0⟩
 · refine J.cond_true h9 ?_
   refine J.sr ?_
   refine JL.as (.bool false) ?_
   refine JL.es [(4, .bool false)] ?_
   refine JQ.mask [] [false, false] ?_
   refine J.ret ?_
   refine JQ.then_ret ?_
   obtain rfl := Option.some.inj H0
   exact JQ.done' (rs := [.tmp 4]) (vs := [.bool false]) [] (.inr rfl) ⟨by kernel_rfl, trivial⟩ (fun _ h => Heap.to h) ⟨rfl, rfl⟩
 · refine J.cond_false h9 ?_
   refine J.skip ?_
   refine JQ.ts [(0, .slice Aa2 a1.length c3), (1, .slice Aa6 b5.length c7)] ?_
   refine J.seq ?_
   refine J.sr ?_
   refine JL.as (.int .i64 0) ?_
   refine JL.en ?_
   obtain ⟨o1, hit, H0⟩ := bind_some H0
   refine J.loop (σ := Int) (τ := Unit) (G := Unit) (G' := Unit) _ o1 (fun s g => [(0, .slice Aa2 a1.length c3), (1, .slice Aa6 b5.length c7), (5, .int .i64 s)]) (fun s g => [At.rd Aa2 c3 fl_Vis.kd a1 true, At.rd Aa6 c7 fl_Vis.kd b5 true]) (fun t => ref26_Same.k2 = some r) (fun t g => []) (fun t g => []) 0 () hit (fun _ h => Heap.to h) ?_ ?_
   · clear hit
     rintro i32 ⟨⟩ st1 H1 hb1 hr1
     replace H1 : ref26_Same.s1 a1 b5 i32 = some st1 := H1
     unfold ref26_Same.s1 at H1
     refine JQ.sub [(0, .slice Aa2 a1.length c3), (1, .slice Aa6 b5.length c7), (5, .int .i64 i32)] ?_
     refine JQ.turn (Δ' := [At.rd Aa2 c3 fl_Vis.kd a1 true, At.rd Aa6 c7 fl_Vis.kd b5 true]) (fun _ h => h.to) ?_
     refine J.seq ?_
     refine J.sr ?_
     refine JL.mv (.int .i64 i32) ?_
     refine JL.mv (.slice Aa2 a1.length c3) ?_
     refine JL.pur (.int .i64 (a1.length : Int)) (some 13) ?_
     refine JL.pur (.bool (decide (i32 < (a1.length : Int)))) (some 14) ?_
     refine JL.es [(0, .slice Aa2 a1.length c3), (1, .slice Aa6 b5.length c7), (5, .int .i64 i32), (14, .bool (decide (i32 < (a1.length : Int))))] ?_
     rcases ite_cases H1 with ⟨h43, H1⟩ | ⟨h43, H1⟩
     · refine J.cond_true h43 ?_
       refine J.skip ?_
       refine JQ.ts [(0, .slice Aa2 a1.length c3), (1, .slice Aa6 b5.length c7), (5, .int .i64 i32)] ?_
       refine J.seq ?_
       refine J.block ?_
       refine J.seq ?_
       refine J.draw ?_
       refine QL.mv (.slice Aa2 a1.length c3) ?_
       refine QL.mv (.int .i64 i32) ?_
       obtain ⟨⟨h44, h45⟩, H1⟩ := ite_must H1
       refine QL.ixAddr 0 6 c3 .i64 (elems_rd Aa2 c3 fl_Vis.kd a1 true) Try.underlying48 tySize_47 h44 h45 fun g46 o47 hA => ?_
       subst hA
       refine QL.val (mv_47 (ix a1 i32)) (some 20) (gives_loadEl (f := fl_Vis) 0 0 i32 (elems_rd (some ⟨g46, o47, none⟩) c3 fl_Vis.kd a1 true) h44 h45 tySize_47 (.inl ⟨tyAgg_47, rfl⟩)) ?_
       refine QL.mv (.slice Aa6 b5.length c7) ?_
       refine QL.mv (.int .i64 i32) ?_
       obtain ⟨⟨h48, h49⟩, H1⟩ := ite_must H1
       refine QL.ixAddr 1 6 c7 .i64 (elems_rd Aa6 c7 fl_Vis.kd b5 true) Try.underlying48 tySize_47 h48 h49 fun g50 o51 hA => ?_
       subst hA
       refine QL.val (mv_47 (ix b5 i32)) (some 24) (gives_loadEl (f := fl_Vis) 1 0 i32 (elems_rd (some ⟨g50, o51, none⟩) c7 fl_Vis.kd b5 true) h48 h49 tySize_47 (.inl ⟨tyAgg_47, rfl⟩)) ?_
       refine QL.val (.bool (!decide ((ix a1 i32) = (ix b5 i32)))) (some 25) (gives_neq eqg_47 (fun w => eqt_47 (ix a1 i32) (ix b5 i32) w)) ?_
       refine QL.nil ?_
       refine JA.nil ?_
       refine JQ.ts [(0, .slice (some ⟨g46, o47, none⟩) a1.length c3), (1, .slice (some ⟨g50, o51, none⟩) b5.length c7), (5, .int .i64 i32), (25, .bool (!decide ((ix a1 i32) = (ix b5 i32))))] ?_
       rcases ite_cases H1 with ⟨h52, H1⟩ | ⟨h52, H1⟩
       · refine J.cond_true h52 ?_
         refine J.sr ?_
         refine JL.as (.bool false) ?_
         refine JL.es [(4, .bool false)] ?_
         refine JQ.mask [] [false, false] ?_
         refine J.ret ?_
         refine JQ.blk_ret ?_
         refine JQ.then_ret ?_
         refine JQ.then_ret ?_
         refine JQ.blk_ret ?_
         refine JQ.met_ret ?_
         refine JQ.then_ret ?_
         rw [hr1 _ (Option.some.inj H1).symm, fin_ret] at H0
         obtain rfl := Option.some.inj H0
         exact JQ.done' (rs := [.tmp 4]) (vs := [.bool false]) [] (.inr rfl) ⟨by kernel_rfl, trivial⟩ (fun _ h => Heap.to h) ⟨rfl, rfl⟩
       · refine J.cond_false h52 ?_
         refine J.skip ?_
         refine JQ.blk_normal ?_
         refine JQ.ts [(0, .slice (some ⟨g46, o47, none⟩) a1.length c3), (1, .slice (some ⟨g50, o51, none⟩) b5.length c7), (5, .int .i64 i32)] ?_
         refine J.region ?_
         refine JL.mv (.int .i64 i32) ?_
         refine JL.pur (.int .i64 (w64 (i32 + 1))) (some 16) ?_
         refine JL.as (.int .i64 (w64 (i32 + 1))) ?_
         refine JL.en ?_
         exact JQ.again (w64 (i32 + 1)) () (Option.some.inj H1).symm (fun _ h => Heap.to h)
     · refine J.cond_false h43 ?_
       refine J.exit ?_
       refine JQ.then_exit ?_
       refine JQ.then_exit ?_
       refine JQ.blk_exit ?_
       rw [hb1 _ (Option.some.inj H1).symm, fin_brk] at H0
       exact JQ.met () () H0 (fun _ h => Heap.to (Heap.pick [] (by decide) h))
   · clear hit H0
     rintro ⟨⟩ ⟨⟩ H0
     replace H0 : ref26_Same.k2 = some r := H0
     unfold ref26_Same.k2 at H0
     refine JQ.sub [] ?_
     refine JQ.turn (Δ' := []) (fun _ h => h.to) ?_
     refine JQ.then_normal ?_
     refine J.sr ?_
     refine JL.as (.bool true) ?_
     refine JL.en ?_
     refine J.ret ?_
     obtain rfl := Option.some.inj H0
     exact JQ.done' (rs := [.tmp 4]) (vs := [.bool true]) [] (.inr rfl) ⟨by kernel_rfl, trivial⟩ (fun _ h => Heap.to h) ⟨rfl, rfl⟩

theorem ref35_Same.ok (a1 : (List (List Vis))) (Aa2 : Option Addr) (c3 : Nat) (b5 : (List (List Vis))) (Aa6 : Option Addr) (c7 : Nat) (r : Bool) (H0 : ref35_Same.f a1 b5 = some r) :
    Does Try.prog 14 [.slice Aa2 a1.length c3, .slice Aa6 b5.length c7].toArray [At.rd Aa2 c3 fl_Vis.kd.sl a1 true, At.rd Aa6 c7 fl_Vis.kd.sl b5 true] [] false (fun v Δ => v = .bool r ∧ Δ = []) := by
 refine Does.body (vs := [.slice Aa2 a1.length c3, .slice Aa6 b5.length c7]) Try.func14 rfl ⟨.inl rfl, .inl rfl, trivial⟩ trivial fun w S => ?_
 unfold ref35_Same.f at H0
 refine J.sr ?_
 refine JL.as (.bool false) ?_
 refine JL.es [(0, .slice Aa2 a1.length c3), (1, .slice Aa6 b5.length c7)] ?_
 refine J.seq ?_
 refine J.sr ?_
 refine JL.mv (.slice Aa2 a1.length c3) ?_
 refine JL.pur (.int .i64 (a1.length : Int)) (some 7) ?_
 refine JL.mv (.slice Aa6 b5.length c7) ?_
 refine JL.pur (.int .i64 (b5.length : Int)) (some 9) ?_
 refine JL.pur (.bool (!decide ((a1.length : Int) = (b5.length : Int)))) (some 10) ?_
 refine JL.es [(0, .slice Aa2 a1.length c3), (1, .slice Aa6 b5.length c7), (10, .bool (!decide ((a1.length : Int) = (b5.length : Int))))] ?_
 rcases ite_cases H0 with ⟨h9, H0⟩ | ⟨h9, H0⟩
 · refine J.cond_true h9 ?_
   refine J.sr ?_
   refine JL.as (.bool false) ?_
   refine JL.es [(4, .bool false)] ?_
   refine JQ.mask [] [false, false] ?_
   refine J.ret ?_
   refine JQ.then_ret ?_
   obtain rfl := Option.some.inj H0
   exact JQ.done' (rs := [.tmp 4]) (vs := [.bool false]) [] (.inr rfl) ⟨by kernel_rfl, trivial⟩ (fun _ h => Heap.to h) ⟨rfl, rfl⟩
 · refine J.cond_false h9 ?_
   refine J.skip ?_
   refine JQ.ts [(0, .slice Aa2 a1.length c3), (1, .slice Aa6 b5.length c7)] ?_
   refine J.seq ?_
   refine J.sr ?_
   refine JL.as (.int .i64 0) ?_
   refine JL.en ?_
   obtain ⟨o1, hit, H0⟩ := bind_some H0
   refine J.loop (σ := Int) (τ := Unit) (G := Unit) (G' := Unit) _ o1 (fun s g => [(0, .slice Aa2 a1.length c3), (1, .slice Aa6 b5.length c7), (5, .int .i64 s)]) (fun s g => [At.rd Aa2 c3 fl_Vis.kd.sl a1 true, At.rd Aa6 c7 fl_Vis.kd.sl b5 true]) (fun t => ref35_Same.k5 = some r) (fun t g => []) (fun t g => []) 0 () hit (fun _ h => Heap.to h) ?_ ?_
   · clear hit
     rintro t194 ⟨⟩ st1 H1 hb1 hr1
     replace H1 : ref35_Same.s4 a1 b5 t194 = some st1 := H1
     unfold ref35_Same.s4 at H1
     refine JQ.sub [(0, .slice Aa2 a1.length c3), (1, .slice Aa6 b5.length c7), (5, .int .i64 t194)] ?_
     refine JQ.turn (Δ' := [At.rd Aa2 c3 fl_Vis.kd.sl a1 true, At.rd Aa6 c7 fl_Vis.kd.sl b5 true]) (fun _ h => h.to) ?_
     refine J.seq ?_
     refine J.sr ?_
     refine JL.mv (.int .i64 t194) ?_
     refine JL.mv (.slice Aa2 a1.length c3) ?_
     refine JL.pur (.int .i64 (a1.length : Int)) (some 13) ?_
     refine JL.pur (.bool (decide (t194 < (a1.length : Int)))) (some 14) ?_
     refine JL.es [(0, .slice Aa2 a1.length c3), (1, .slice Aa6 b5.length c7), (5, .int .i64 t194), (14, .bool (decide (t194 < (a1.length : Int))))] ?_
     rcases ite_cases H1 with ⟨h286, H1⟩ | ⟨h286, H1⟩
     · refine J.cond_true h286 ?_
       refine J.skip ?_
       refine JQ.ts [(0, .slice Aa2 a1.length c3), (1, .slice Aa6 b5.length c7), (5, .int .i64 t194)] ?_
       refine J.seq ?_
       refine J.block ?_
       refine J.join (T := Bool) (G := Unit) (fun t => ref35_Same.k6 t194 t = some st1) (fun t g => [(0, .slice Aa2 a1.length c3), (1, .slice Aa6 b5.length c7), (5, .int .i64 t194), (26, .bool t)]) (fun t g => [At.rd Aa2 c3 fl_Vis.kd.sl a1 true, At.rd Aa6 c7 fl_Vis.kd.sl b5 true]) ?_ ?_
       · obtain ⟨⟨h333, h334⟩, H1⟩ := ite_must H1
         obtain ⟨⟨h340, h341⟩, H1⟩ := ite_must H1
         obtain ⟨t347, hc348, H1⟩ := bind_some H1
         refine JQ.openA 0 (elems_rd Aa2 c3 fl_Vis.kd.sl a1 true) h333 h334 fun g349 o350 hA => ?_
         subst hA
         refine JQ.openA 1 (elems_rd Aa6 c7 fl_Vis.kd.sl b5 true) h340 h341 fun g351 o352 hA => ?_
         subst hA
         refine JY.start [] (ba 10 0) ?_
         refine JY.pur (hi := rfl) 0 (ba 10 1) (.slice (some ⟨g349, o350, none⟩) a1.length c3) (some 17) want ?_
         refine JY.pur (hi := rfl) 1 (ba 10 3) (.int .i64 t194) (some 18) want ?_
         obtain ⟨h353, h354⟩ : 0 ≤ t194 ∧ t194 < (a1.length : Int) := ⟨h333, h334⟩
         refine JY.puw (hi := rfl) 2 (ba 10 7) (.pointer (some ⟨g349, o350 + t194.toNat * 1, none⟩)) (some 19) want (givesW_ixSl (g := g349) (o := o350) (n := a1.length) (i := t194) 1 c3 .i64 Try.underlying37 tySize_48 h353 h354) ?_
         refine JY.pur (hi := rfl) 4 (ba 10 23) (.slice (some ⟨g351, o352, none⟩) b5.length c7) (some 21) want ?_
         refine JY.pur (hi := rfl) 5 (ba 10 55) (.int .i64 t194) (some 22) want ?_
         obtain ⟨h357, h358⟩ : 0 ≤ t194 ∧ t194 < (b5.length : Int) := ⟨h340, h341⟩
         refine JY.puw (hi := rfl) 6 (ba 10 119) (.pointer (some ⟨g351, o352 + t194.toNat * 1, none⟩)) (some 23) want (givesW_ixSl (g := g351) (o := o352) (n := b5.length) (i := t194) 1 c7 .i64 Try.underlying37 tySize_48 h357 h358) ?_
         refine JY.all [3, 7] ⟨⟨_, rfl, ?_⟩, ⟨_, rfl, ?_⟩, trivial⟩
         · refine JL.loadEl (fun q : Option Addr × Nat => [.slice q.1 (ix a1 t194).length q.2]) (fun q : Option Addr × Nat => [At.rd q.1 q.2 fl_Vis.kd (ix a1 t194) true]) (fun q : Option Addr × Nat => .slice q.1 (ix a1 t194).length q.2) (off := 0) 0 (elems_rd (some ⟨g349, o350, none⟩) c3 fl_Vis.kd.sl a1 true) (opens_sl fl_Vis.kd _ _) h353 h354 tySize_48 (.inr ⟨tyAgg_48, rfl, fun _ => rfl⟩) ?_
           rintro ⟨Aa361, c362⟩
           refine JL.nil ?_
           refine JY.ran (ba 10 127) [true, true, false] ?_
           refine JY.all [7] ⟨⟨_, rfl, ?_⟩, trivial⟩
           refine JL.loadEl (fun q : Option Addr × Nat => [.slice q.1 (ix b5 t194).length q.2]) (fun q : Option Addr × Nat => [At.rd q.1 q.2 fl_Vis.kd (ix b5 t194) true]) (fun q : Option Addr × Nat => .slice q.1 (ix b5 t194).length q.2) (off := 0) 1 (elems_rd (some ⟨g351, o352, none⟩) c7 fl_Vis.kd.sl b5 true) (opens_sl fl_Vis.kd _ _) h357 h358 tySize_48 (.inr ⟨tyAgg_48, rfl, fun _ => rfl⟩) ?_
           rintro ⟨Aa364, c365⟩
           refine JL.nil ?_
           refine JY.ran (ba 10 255) [true, true, false, false] ?_
           refine JY.all [8] ⟨⟨_, rfl, ?_⟩, trivial⟩
           refine JL.call [] [] [] (ref26_Same.ok (ix a1 t194) Aa361 c362 (ix b5 t194) Aa364 c365 _ hc348) ⟨pre_any 2 (view_rd Aa361 c362 fl_Vis.kd (ix a1 t194) true true), ⟨pre_any 3 (view_rd Aa364 c365 fl_Vis.kd (ix b5 t194) true true), trivial⟩⟩ ?_
           rintro _ _ ⟨rfl, rfl⟩
           refine JL.nil ?_
           refine JY.ran (ba 10 511) [true, true, false, false] ?_
           refine JY.pur (hi := rfl) 9 (ba 10 1023) (.bool (!t347)) (some 26) want ?_
           refine JY.done ?_
           refine JQ.then_normal ?_
           exact JQ.meet (!t347) () H1 (fun _ h => Heap.to (Heap.pick [0, 1] (by decide) h))
         · refine JL.loadEl (fun q : Option Addr × Nat => [.slice q.1 (ix b5 t194).length q.2]) (fun q : Option Addr × Nat => [At.rd q.1 q.2 fl_Vis.kd (ix b5 t194) true]) (fun q : Option Addr × Nat => .slice q.1 (ix b5 t194).length q.2) (off := 0) 1 (elems_rd (some ⟨g351, o352, none⟩) c7 fl_Vis.kd.sl b5 true) (opens_sl fl_Vis.kd _ _) h357 h358 tySize_48 (.inr ⟨tyAgg_48, rfl, fun _ => rfl⟩) ?_
           rintro ⟨Aa369, c370⟩
           refine JL.nil ?_
           refine JY.ran (ba 10 247) [true, true, false] ?_
           refine JY.all [3] ⟨⟨_, rfl, ?_⟩, trivial⟩
           refine JL.loadEl (fun q : Option Addr × Nat => [.slice q.1 (ix a1 t194).length q.2]) (fun q : Option Addr × Nat => [At.rd q.1 q.2 fl_Vis.kd (ix a1 t194) true]) (fun q : Option Addr × Nat => .slice q.1 (ix a1 t194).length q.2) (off := 0) 0 (elems_rd (some ⟨g349, o350, none⟩) c3 fl_Vis.kd.sl a1 true) (opens_sl fl_Vis.kd _ _) h353 h354 tySize_48 (.inr ⟨tyAgg_48, rfl, fun _ => rfl⟩) ?_
           rintro ⟨Aa372, c373⟩
           refine JL.nil ?_
           refine JY.ran (ba 10 255) [true, true, false, false] ?_
           refine JY.all [8] ⟨⟨_, rfl, ?_⟩, trivial⟩
           refine JL.call [] [] [] (ref26_Same.ok (ix a1 t194) Aa372 c373 (ix b5 t194) Aa369 c370 _ hc348) ⟨pre_any 3 (view_rd Aa372 c373 fl_Vis.kd (ix a1 t194) true true), ⟨pre_any 2 (view_rd Aa369 c370 fl_Vis.kd (ix b5 t194) true true), trivial⟩⟩ ?_
           rintro _ _ ⟨rfl, rfl⟩
           refine JL.nil ?_
           refine JY.ran (ba 10 511) [true, true, false, false] ?_
           refine JY.pur (hi := rfl) 9 (ba 10 1023) (.bool (!t347)) (some 26) want ?_
           refine JY.done ?_
           refine JQ.then_normal ?_
           exact JQ.meet (!t347) () H1 (fun _ h => Heap.to (Heap.pick [0, 1] (by decide) h))
       · clear H1
         rintro x331 ⟨⟩ H1
         replace H1 : ref35_Same.k6 t194 x331 = some st1 := H1
         unfold ref35_Same.k6 at H1
         refine JQ.sub [(0, .slice Aa2 a1.length c3), (1, .slice Aa6 b5.length c7), (5, .int .i64 t194), (26, .bool x331)] ?_
         refine JQ.turn (Δ' := [At.rd Aa2 c3 fl_Vis.kd.sl a1 true, At.rd Aa6 c7 fl_Vis.kd.sl b5 true]) (fun _ h => h.to) ?_
         rcases ite_cases H1 with ⟨h332, H1⟩ | ⟨h332, H1⟩
         · refine J.cond_true h332 ?_
           refine J.sr ?_
           refine JL.as (.bool false) ?_
           refine JL.es [(4, .bool false)] ?_
           refine JQ.mask [] [false, false] ?_
           refine J.ret ?_
           refine JQ.blk_ret ?_
           refine JQ.then_ret ?_
           refine JQ.then_ret ?_
           refine JQ.blk_ret ?_
           refine JQ.met_ret ?_
           refine JQ.then_ret ?_
           rw [hr1 _ (Option.some.inj H1).symm, fin_ret] at H0
           obtain rfl := Option.some.inj H0
           exact JQ.done' (rs := [.tmp 4]) (vs := [.bool false]) [] (.inr rfl) ⟨by kernel_rfl, trivial⟩ (fun _ h => Heap.to h) ⟨rfl, rfl⟩
         · refine J.cond_false h332 ?_
           refine J.skip ?_
           refine JQ.blk_normal ?_
           refine JQ.ts [(0, .slice Aa2 a1.length c3), (1, .slice Aa6 b5.length c7), (5, .int .i64 t194)] ?_
           refine J.region ?_
           refine JL.mv (.int .i64 t194) ?_
           refine JL.pur (.int .i64 (w64 (t194 + 1))) (some 16) ?_
           refine JL.as (.int .i64 (w64 (t194 + 1))) ?_
           refine JL.en ?_
           exact JQ.again (w64 (t194 + 1)) () (Option.some.inj H1).symm (fun _ h => Heap.to h)
     · refine J.cond_false h286 ?_
       refine J.exit ?_
       refine JQ.then_exit ?_
       refine JQ.then_exit ?_
       refine JQ.blk_exit ?_
       rw [hb1 _ (Option.some.inj H1).symm, fin_brk] at H0
       exact JQ.met () () H0 (fun _ h => Heap.to (Heap.pick [] (by decide) h))
   · clear hit H0
     rintro ⟨⟩ ⟨⟩ H0
     replace H0 : ref35_Same.k5 = some r := H0
     unfold ref35_Same.k5 at H0
     refine JQ.sub [] ?_
     refine JQ.turn (Δ' := []) (fun _ h => h.to) ?_
     refine JQ.then_normal ?_
     refine J.sr ?_
     refine JL.as (.bool true) ?_
     refine JL.en ?_
     refine J.ret ?_
     obtain rfl := Option.some.inj H0
     exact JQ.done' (rs := [.tmp 4]) (vs := [.bool true]) [] (.inr rfl) ⟨by kernel_rfl, trivial⟩ (fun _ h => Heap.to h) ⟨rfl, rfl⟩


end Go.Proofs.Ytifpegepdgmmbaa.M
