import Derived.Test.YtafploedondfpaaGc
import Derived.Test.YtafploedondfpaaM0
set_option linter.unusedVariables false
set_option linter.unusedSimpArgs false
set_option maxRecDepth 100000
set_option maxHeartbeats 8000000
namespace Go.Proofs.Ytafploedondfpaa.M
open Go.GW Go.Proofs

def math_bits_Mul64.f_c (x1 : Int) (y2 : Int) : Option (Int × Int) :=
  lt' (gand .u64 x1 4294967295) fun x3 => lt' (gshr .u64 x1 32) fun x4 => lt' (gand .u64 y2 4294967295) fun y5 => lt' (gshr .u64 y2 32) fun y6 => lt' (wu64 ((wu64 (x4 * y5)) + (gshr .u64 (wu64 (x3 * y5)) 32))) fun t7 => lt' (gand .u64 t7 4294967295) fun w8 => lt' (gshr .u64 t7 32) fun w9 => lt' (wu64 (w8 + (wu64 (x3 * y6)))) fun w10 => lt' (wu64 ((wu64 ((wu64 (x4 * y6)) + w9)) + (gshr .u64 w10 32))) fun hi11 => some (hi11, (wu64 (x1 * y2)))
theorem math_bits_Mul64.f_le (x1 : Int) (y2 : Int) : LE' (math_bits_Mul64.f_c x1 y2) (math_bits_Mul64.f x1 y2) := by
  unfold math_bits_Mul64.f_c math_bits_Mul64.f
  repeat' with_reducible first | exact LE'.refl (some _) | exact LE'.refl none | refine LE'.ite ?_ ?_ | refine LE'.bind ?_ (fun _ => ?_) | refine LE'.lt (fun _ => ?_) | refine LE'.fin (fun _ => ?_) | refine LE'.iter (fun _ => ?_)
def math_bits_Mul.f_c (x1 : Int) (y2 : Int) : Option (Int × Int) :=
  ((math_bits_Mul64.f_c x1 y2).bind fun t3 => some (t3.1, t3.2))
theorem math_bits_Mul.f_le (x1 : Int) (y2 : Int) : LE' (math_bits_Mul.f_c x1 y2) (math_bits_Mul.f x1 y2) := by
  unfold math_bits_Mul.f_c math_bits_Mul.f
  repeat' with_reducible first | exact LE'.refl (some _) | exact LE'.refl none | exact math_bits_Mul64.f_le _ _ | refine LE'.ite ?_ ?_ | refine LE'.bind ?_ (fun _ => ?_) | refine LE'.lt (fun _ => ?_) | refine LE'.fin (fun _ => ?_) | refine LE'.iter (fun _ => ?_)
def slices_Repeat__int_int.s3_c (newslice67 : List Int) (n71 : Int) : Option (St ((List Int) × Int) (List Int) (List Int)) :=
  (if (decide (n71 < (newslice67.length : Int))) = true then (if 0 ≤ n71 ∧ n71 ≤ (newslice67.length : Int) then (if 0 ≤ n71 ∧ n71 ≤ (newslice67.length : Int) then lt' (cpy newslice67 n71.toNat (newslice67.length - n71.toNat) ((newslice67.take n71.toNat).drop 0)) fun l102 => some (.next (l102, w64 (n71 + ((min ((newslice67.take n71.toNat).drop 0).length (newslice67.length - n71.toNat) : Nat) : Int)))) else none) else none) else some (.brk newslice67))
theorem slices_Repeat__int_int.s3_le (newslice67 : List Int) (n71 : Int) : LE' (slices_Repeat__int_int.s3_c newslice67 n71) (slices_Repeat__int_int.s3 newslice67 n71) := by
  unfold slices_Repeat__int_int.s3_c slices_Repeat__int_int.s3
  repeat' with_reducible first | exact LE'.refl (some _) | exact LE'.refl none | refine LE'.ite ?_ ?_ | refine LE'.bind ?_ (fun _ => ?_) | refine LE'.lt (fun _ => ?_) | refine LE'.fin (fun _ => ?_) | refine LE'.iter (fun _ => ?_)
def slices_Repeat__int_int.k4_c (newslice89 : List Int) : Option (List Int) :=
  some newslice89
theorem slices_Repeat__int_int.k4_le (newslice89 : List Int) : LE' (slices_Repeat__int_int.k4_c newslice89) (slices_Repeat__int_int.k4 newslice89) := by
  unfold slices_Repeat__int_int.k4_c slices_Repeat__int_int.k4
  repeat' with_reducible first | exact LE'.refl (some _) | exact LE'.refl none | refine LE'.ite ?_ ?_ | refine LE'.bind ?_ (fun _ => ?_) | refine LE'.lt (fun _ => ?_) | refine LE'.fin (fun _ => ?_) | refine LE'.iter (fun _ => ?_)
def slices_Repeat__int_int.k2_c (x1 : (List Int)) (t8 : Int × Int) (x15 : Bool) : Option (List Int) :=
  (if x15 = true then none else (if 0 ≤ w64 t8.2 ∧ w64 t8.2 ≤ w64 t8.2 ∧ w64 t8.2 ≤ 35184372088832 then lt' (cpy (List.replicate (w64 t8.2).toNat (0 : Int)) 0 ((List.replicate (w64 t8.2).toNat (0 : Int)).length - 0) x1) fun l21 => lt' (((min x1.length ((List.replicate (w64 t8.2).toNat (0 : Int)).length - 0) : Nat) : Int)) fun n22 => ((iterF (fun (s : ((List Int) × Int)) => slices_Repeat__int_int.s3_c s.1 s.2) (l21, n22)).bind fun o1 => fin o1 (fun (t : List Int) => slices_Repeat__int_int.k4_c t)) else none))
theorem slices_Repeat__int_int.k2_le (x1 : (List Int)) (t8 : Int × Int) (x15 : Bool) : LE' (slices_Repeat__int_int.k2_c x1 t8 x15) (slices_Repeat__int_int.k2 x1 t8 x15) := by
  unfold slices_Repeat__int_int.k2_c slices_Repeat__int_int.k2
  repeat' with_reducible first | exact LE'.refl (some _) | exact LE'.refl none | exact slices_Repeat__int_int.s3_le _ _ | exact slices_Repeat__int_int.k4_le _ | refine LE'.ite ?_ ?_ | refine LE'.bind ?_ (fun _ => ?_) | refine LE'.lt (fun _ => ?_) | refine LE'.fin (fun _ => ?_) | refine LE'.iter (fun _ => ?_)
def slices_Repeat__int_int.f_c (x1 : (List Int)) (count5 : Int) : Option (List Int) :=
  (if (decide (count5 < 0)) = true then none else ((math_bits_Mul.f_c (wu64 (x1.length : Int)) (wu64 count5)).bind fun t8 => (if (decide (0 < t8.1)) = true then slices_Repeat__int_int.k2_c x1 t8 true else slices_Repeat__int_int.k2_c x1 t8 (decide (9223372036854775807 < t8.2)))))
theorem slices_Repeat__int_int.f_le (x1 : (List Int)) (count5 : Int) : LE' (slices_Repeat__int_int.f_c x1 count5) (slices_Repeat__int_int.f x1 count5) := by
  unfold slices_Repeat__int_int.f_c slices_Repeat__int_int.f
  repeat' with_reducible first | exact LE'.refl (some _) | exact LE'.refl none | exact math_bits_Mul.f_le _ _ | exact slices_Repeat__int_int.k2_le _ _ _ | refine LE'.ite ?_ ?_ | refine LE'.bind ?_ (fun _ => ?_) | refine LE'.lt (fun _ => ?_) | refine LE'.fin (fun _ => ?_) | refine LE'.iter (fun _ => ?_)

end Go.Proofs.Ytafploedondfpaa.M
