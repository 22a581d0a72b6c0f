/- Part 8 of the proof of FnExactValidRound: what it leans on. -/
import Derived.Test.YtcijlemojododaaM1
import Derived.Test.YtcijlemojododaaM2
import Derived.Test.YtcijlemojododaaM3
import Derived.Test.YtcijlemojododaaM4
import Derived.Test.YtcijlemojododaaM5
import Derived.Test.YtcijlemojododaaM6
import Derived.Test.YtcijlemojododaaM7

namespace Go.Proofs.Ytcijlemojododaa.P
open Go.RowKit Go.Proofs.YtcijlemojododaaW.PrintWords Go.Proofs.YtcijlemojododaaW.PrintLast Go.Proofs.YtcijlemojododaaW.PrintMore Go.Proofs.Ytcijlemojododaa.S
attribute [local go_sem] max2_int min2_int max_two min_two max_three min_three max_four min_four   -- for this text's walks alone
set_option linter.unusedVariables false
set_option linter.unusedSimpArgs false
/-! ### impl_ValidState: function 13 -/
mutual
def impl_ValidState.j0 : Nat → Bool → Int → Int → Int → Int → List (S91) → List (S82) → List (S85) → Option (Bool)
 | 0, _, _, _, _, _, _, _, _ => none
 | k + 1, x59, x271000, x271001, x271002, x271003, x271004, x271005, x271006 => if x59 = true then (some false) else (impl_ValidState.l0 k x271004 (x271004.length : Int) 0 x271000 x271001 x271002 x271003 x271004 x271005 x271006 [])
def impl_ValidState.l0 : Nat → List (S91) → Int → Int → Int → Int → Int → Int → List (S91) → List (S82) → List (S85) → List Int → Option (Bool)
 | 0, _, _, _, _, _, _, _, _, _, _, _ => none
 | k + 1, x62, x63, x64, x271000, x271001, x271002, x271003, x271004, x271005, x271006, x276000 => if x64 < x63 then (if 0 ≤ x64 then (if x64 < (x62.length : Int) then (if x64 > 0 then (if 0 ≤ (wrap64 (x64 - 1)) then (if (wrap64 (x64 - 1)) < (x271004.length : Int) then (if ((Op.bytesLess (((rd_T91 x271004 (wrap64 (x64 - 1))).f0).toList) (((rd_T91 x62 x64).f0).toList)) = true) then ((impl_thingOk.f k ((rd_T91 x62 x64).f2.f0) ((rd_T91 x62 x64).f2.f1) x271000).bind fun t279 => (if t279 = true then ((impl_form.f k ((rd_T91 x62 x64).f2.f0) ((rd_T91 x62 x64).f2.f1)).bind fun t280 => ((impl_Sum.f k t280 x271000).bind fun t281 => (if ((rd_T91 x62 x64).f0).toList = t281.toList then (if ((rd_T91 x62 x64).f1) < 1 then (impl_ValidState.j2 k x62 x63 x64 true x271000 x271001 x271002 x271003 x271004 x271005 x271006 x276000) else (if ((rd_T91 x62 x64).f1) > x271003 then (impl_ValidState.j2 k x62 x63 x64 true x271000 x271001 x271002 x271003 x271004 x271005 x271006 x276000) else (impl_ValidState.j2 k x62 x63 x64 (x276000.contains ((rd_T91 x62 x64).f1)) x271000 x271001 x271002 x271003 x271004 x271005 x271006 x276000))) else (impl_ValidState.j2 k x62 x63 x64 true x271000 x271001 x271002 x271003 x271004 x271005 x271006 x276000)))) else (impl_ValidState.j2 k x62 x63 x64 true x271000 x271001 x271002 x271003 x271004 x271005 x271006 x276000))) else (impl_ValidState.j2 k x62 x63 x64 true x271000 x271001 x271002 x271003 x271004 x271005 x271006 x276000)) else (none)) else (none)) else ((impl_thingOk.f k ((rd_T91 x62 x64).f2.f0) ((rd_T91 x62 x64).f2.f1) x271000).bind fun t282 => (if t282 = true then ((impl_form.f k ((rd_T91 x62 x64).f2.f0) ((rd_T91 x62 x64).f2.f1)).bind fun t283 => ((impl_Sum.f k t283 x271000).bind fun t284 => (if ((rd_T91 x62 x64).f0).toList = t284.toList then (if ((rd_T91 x62 x64).f1) < 1 then (impl_ValidState.j2 k x62 x63 x64 true x271000 x271001 x271002 x271003 x271004 x271005 x271006 x276000) else (if ((rd_T91 x62 x64).f1) > x271003 then (impl_ValidState.j2 k x62 x63 x64 true x271000 x271001 x271002 x271003 x271004 x271005 x271006 x276000) else (impl_ValidState.j2 k x62 x63 x64 (x276000.contains ((rd_T91 x62 x64).f1)) x271000 x271001 x271002 x271003 x271004 x271005 x271006 x276000))) else (impl_ValidState.j2 k x62 x63 x64 true x271000 x271001 x271002 x271003 x271004 x271005 x271006 x276000)))) else (impl_ValidState.j2 k x62 x63 x64 true x271000 x271001 x271002 x271003 x271004 x271005 x271006 x276000)))) else (none)) else (none)) else (impl_ValidState.l1 k x271004 (x271004.length : Int) 0 x271000 x271001 x271002 x271003 x271004 x271005 x271006)
def impl_ValidState.j2 : Nat → List (S91) → Int → Int → Bool → Int → Int → Int → Int → List (S91) → List (S82) → List (S85) → List Int → Option (Bool)
 | 0, _, _, _, _, _, _, _, _, _, _, _, _ => none
 | k + 1, x62, x63, x64, x119, x271000, x271001, x271002, x271003, x271004, x271005, x271006, x276000 => if x119 = true then (some false) else (impl_ValidState.l0 k x62 x63 (wrap64 (x64 + 1)) x271000 x271001 x271002 x271003 x271004 x271005 x271006 (ins ((rd_T91 x62 x64).f1) x276000))
def impl_ValidState.l1 : Nat → List (S91) → Int → Int → Int → Int → Int → Int → List (S91) → List (S82) → List (S85) → Option (Bool)
 | 0, _, _, _, _, _, _, _, _, _, _ => none
 | k + 1, x125, x126, x127, x271000, x271001, x271002, x271003, x271004, x271005, x271006 => if x127 < x126 then (if 0 ≤ x127 then (if x127 < (x125.length : Int) then (impl_ValidState.l2 k x125 x126 x127 ((rd_T91 x125 x127).f2.f1) (((rd_T91 x125 x127).f2.f1).length : Int) 0 x271000 x271001 x271002 x271003 x271004 x271005 x271006 ((rd_T91 x125 x127).f0) ((rd_T91 x125 x127).f1) ((rd_T91 x125 x127).f2.f0) ((rd_T91 x125 x127).f2.f1)) else (none)) else (none)) else (impl_ValidState.l3 k x125 x271005 (x271005.length : Int) 0 x271000 x271001 x271002 x271003 x271004 x271005 x271006)
def impl_ValidState.l2 : Nat → List (S91) → Int → Int → List ByteArray → Int → Int → Int → Int → Int → Int → List (S91) → List (S82) → List (S85) → ByteArray → Int → ByteArray → List ByteArray → Option (Bool)
 | 0, _, _, _, _, _, _, _, _, _, _, _, _, _, _, _, _, _ => none
 | k + 1, x125, x126, x127, x133, x134, x135, x271000, x271001, x271002, x271003, x271004, x271005, x271006, x287000, x287001, x287002, x287003 => if x135 < x134 then (if 0 ≤ x135 then (if x135 < (x133.length : Int) then ((impl_State_thing.f x125 (rdOf ByteArray.empty x133 x135)).bind fun bt288 => (if bt288.2 = true then (if 0 ≤ bt288.1 then (if bt288.1 < (x271004.length : Int) then (if ((rd_T91 x271004 bt288.1).f1) ≥ x287001 then (some false) else (impl_ValidState.l2 k x125 x126 x127 x133 x134 (wrap64 (x135 + 1)) x271000 x271001 x271002 x271003 x271004 x271005 x271006 x287000 x287001 x287002 x287003)) else (none)) else (none)) else (some false))) else (none)) else (none)) else (impl_ValidState.l1 k x125 x126 (wrap64 (x127 + 1)) x271000 x271001 x271002 x271003 x271004 x271005 x271006)
def impl_ValidState.l3 : Nat → List (S91) → List (S82) → Int → Int → Int → Int → Int → Int → List (S91) → List (S82) → List (S85) → Option (Bool)
 | 0, _, _, _, _, _, _, _, _, _, _, _ => none
 | k + 1, x125, x160, x161, x162, x271000, x271001, x271002, x271003, x271004, x271005, x271006 => if x162 < x161 then (if 0 ≤ x162 then (if x162 < (x160.length : Int) then ((impl_State_thing.f x125 ((rd_T82 x160 x162).f1)).bind fun bt293 => (if bt293.2 = true then ((impl_nameOk.f k ((rd_T82 x160 x162).f0)).bind fun t295 => (if t295 = true then (if x162 > 0 then (if 0 ≤ (wrap64 (x162 - 1)) then (if (wrap64 (x162 - 1)) < (x271005.length : Int) then (impl_ValidState.j6 k x125 x160 x161 x162 (!(Op.bytesLess (((rd_T82 x271005 (wrap64 (x162 - 1))).f0).toList) (((rd_T82 x160 x162).f0).toList))) x271000 x271001 x271002 x271003 x271004 x271005 x271006) else (none)) else (none)) else (impl_ValidState.j6 k x125 x160 x161 x162 false x271000 x271001 x271002 x271003 x271004 x271005 x271006)) else (impl_ValidState.j6 k x125 x160 x161 x162 true x271000 x271001 x271002 x271003 x271004 x271005 x271006))) else (impl_ValidState.j6 k x125 x160 x161 x162 true x271000 x271001 x271002 x271003 x271004 x271005 x271006))) else (none)) else (none)) else (impl_ValidState.l4 k x125 x271006 (x271006.length : Int) 0 x271000 x271001 x271002 x271003 x271004 x271005 x271006)
def impl_ValidState.j6 : Nat → List (S91) → List (S82) → Int → Int → Bool → Int → Int → Int → Int → List (S91) → List (S82) → List (S85) → Option (Bool)
 | 0, _, _, _, _, _, _, _, _, _, _, _, _ => none
 | k + 1, x125, x160, x161, x162, x196, x271000, x271001, x271002, x271003, x271004, x271005, x271006 => if x196 = true then (some false) else (impl_ValidState.l3 k x125 x160 x161 (wrap64 (x162 + 1)) x271000 x271001 x271002 x271003 x271004 x271005 x271006)
def impl_ValidState.l4 : Nat → List (S91) → List (S85) → Int → Int → Int → Int → Int → Int → List (S91) → List (S82) → List (S85) → Option (Bool)
 | 0, _, _, _, _, _, _, _, _, _, _, _ => none
 | k + 1, x125, x199, x200, x201, x271000, x271001, x271002, x271003, x271004, x271005, x271006 => if x201 < x200 then (if 0 ≤ x201 then (if x201 < (x199.length : Int) then ((impl_State_thing.f x125 ((rd_T85 x199 x201).f1)).bind fun bt299 => (if bt299.2 = true then (if ((rd_T85 x199 x201).f0) < 1 then (impl_ValidState.j8 k x125 x199 x200 x201 true x271000 x271001 x271002 x271003 x271004 x271005 x271006) else (if ((rd_T85 x199 x201).f0) > x271002 then (impl_ValidState.j8 k x125 x199 x200 x201 true x271000 x271001 x271002 x271003 x271004 x271005 x271006) else (if x201 > 0 then (if 0 ≤ (wrap64 (x201 - 1)) then (if (wrap64 (x201 - 1)) < (x271006.length : Int) then (if ((rd_T85 x271006 (wrap64 (x201 - 1))).f0) ≥ ((rd_T85 x199 x201).f0) then (impl_ValidState.j8 k x125 x199 x200 x201 true x271000 x271001 x271002 x271003 x271004 x271005 x271006) else (if ((rd_T85 x199 x201).f2) ≤ x271001 then (impl_ValidState.j8 k x125 x199 x200 x201 true x271000 x271001 x271002 x271003 x271004 x271005 x271006) else (impl_ValidState.j8 k x125 x199 x200 x201 (decide (((rd_T85 x199 x201).f2) > (wrap64 (x271001 + 100000)))) x271000 x271001 x271002 x271003 x271004 x271005 x271006))) else (none)) else (none)) else (if ((rd_T85 x199 x201).f2) ≤ x271001 then (impl_ValidState.j8 k x125 x199 x200 x201 true x271000 x271001 x271002 x271003 x271004 x271005 x271006) else (impl_ValidState.j8 k x125 x199 x200 x201 (decide (((rd_T85 x199 x201).f2) > (wrap64 (x271001 + 100000)))) x271000 x271001 x271002 x271003 x271004 x271005 x271006))))) else (impl_ValidState.j8 k x125 x199 x200 x201 true x271000 x271001 x271002 x271003 x271004 x271005 x271006))) else (none)) else (none)) else (some true)
def impl_ValidState.j8 : Nat → List (S91) → List (S85) → Int → Int → Bool → Int → Int → Int → Int → List (S91) → List (S82) → List (S85) → Option (Bool)
 | 0, _, _, _, _, _, _, _, _, _, _, _, _ => none
 | k + 1, x125, x199, x200, x201, x256, x271000, x271001, x271002, x271003, x271004, x271005, x271006 => if x256 = true then (some false) else (impl_ValidState.l4 k x125 x199 x200 (wrap64 (x201 + 1)) x271000 x271001 x271002 x271003 x271004 x271005 x271006)
end
def impl_ValidState.f (k : Nat) (a0_0 : Int) (a0_1 : Int) (a0_2 : Int) (a0_3 : Int) (l0_4 : List (S91)) (l0_5 : List (S82)) (l0_6 : List (S85)) : Option (Bool) := (impl_widthOk.f a0_0).bind fun t271 => (if t271 = true then ((impl_timeOk.f a0_1).bind fun t272 => (if t272 = true then ((impl_timeOk.f a0_2).bind fun t273 => (if t273 = true then ((impl_timeOk.f a0_3).bind fun t274 => (if t274 = true then (if (l0_4.length : Int) > 600 then (impl_ValidState.j0 k true a0_0 a0_1 a0_2 a0_3 l0_4 l0_5 l0_6) else (if (l0_5.length : Int) > 100 then (impl_ValidState.j0 k true a0_0 a0_1 a0_2 a0_3 l0_4 l0_5 l0_6) else (impl_ValidState.j0 k (decide ((l0_6.length : Int) > 200)) a0_0 a0_1 a0_2 a0_3 l0_4 l0_5 l0_6))) else (impl_ValidState.j0 k true a0_0 a0_1 a0_2 a0_3 l0_4 l0_5 l0_6))) else (impl_ValidState.j0 k true a0_0 a0_1 a0_2 a0_3 l0_4 l0_5 l0_6))) else (impl_ValidState.j0 k true a0_0 a0_1 a0_2 a0_3 l0_4 l0_5 l0_6))) else (impl_ValidState.j0 k true a0_0 a0_1 a0_2 a0_3 l0_4 l0_5 l0_6))
def impl_ValidState.T7 : Bool × List (List Nat × List Nat) := (true, [([], []), ([0], [0]), ([1], [1]), ([2], [2]), ([3, 2], [2, 3]), ([2], [2]), ([5, 2], [2, 5]), ([4, 6, 2], [2, 4, 6]), ([7, 2], [2, 7]), ([8, 2], [2, 8]), ([2], [2]), ([10, 2], [2, 10]), ([9, 11, 2], [2, 9, 11]), ([2, 12], [2, 12]), ([13, 2], [13]), ([14], [14]), ([15, 14], [14, 15]), ([14], [14]), ([17, 14], [14, 17]), ([16, 18, 14, 14], [14, 16, 18]), ([19, 14], [14, 19]), ([14, 20], [14, 20]), ([21, 19], [21]), ([22], [22]), ([23, 22], [22, 23]), ([22], [22]), ([25, 22], [22, 25]), ([26, 22, 22], [22, 26]), ([22], [22]), ([28, 22], [22, 28]), ([27, 29, 27, 22], [22, 27, 29]), ([24, 30, 22], [22, 24, 30]), ([22, 31], [22, 31]), ([32, 30], [32]), ([33], [33]), ([34, 33], [33, 34]), ([35, 33], [33, 35]), ([33, 36], [33, 36]), ([37, 33], [37]), ([38], [38]), ([39, 38], [38, 39]), ([38], [38]), ([41, 38], [38, 41]), ([40, 42, 38], [38, 40, 42]), ([38, 43], [38, 43]), ([44, 38], [44]), ([45], [45]), ([45], [45]), ([47, 45], [45, 47]), ([46, 48, 45], [45, 46, 48]), ([45, 49], [45, 49])])
def impl_ValidState.B7 : List Nat := [0, 1, 3, 7, 15, 7, 39, 127, 255, 511, 7, 1031, 4095, 8191, 16383, 32767, 65535, 32767, 163839, 524287, 1048575, 2097151, 4194303, 8388607, 16777215, 8388607, 41943039, 109051903, 8388607, 276824063, 1048575999, 2147483647, 4294967295, 8589934591, 17179869183, 34359738367, 68719476735, 137438953471, 274877906943, 549755813887, 1099511627775, 549755813887, 2748779069439, 8796093022207, 17592186044415, 35184372088831, 70368744177663, 70368744177663, 211106232532991, 562949953421311, 1125899906842623]
theorem impl_ValidState.tab7 : rtab .any (opsOf Try.f13 7) = impl_ValidState.T7 := by kernel_rfl
theorem impl_ValidState.bits7 : waitsOk impl_ValidState.T7.2 impl_ValidState.B7 = true := by kernel_rfl
def impl_ValidState.T18 : Bool × List (List Nat × List Nat) := (true, [([], []), ([0], [0]), ([1], [1]), ([2], [2]), ([3, 2], [2, 3]), ([2], [2]), ([4, 5, 2], [2, 4, 5]), ([6, 2], [2, 6]), ([7, 2], [2, 7]), ([2], [2]), ([9, 2], [2, 9]), ([8, 10, 2], [2, 8, 10]), ([2, 11], [2, 11])])
def impl_ValidState.B18 : List Nat := [0, 1, 3, 7, 15, 7, 63, 127, 255, 7, 519, 2047, 4095]
theorem impl_ValidState.tab18 : rtab .any (opsOf Try.f13 18) = impl_ValidState.T18 := by kernel_rfl
theorem impl_ValidState.bits18 : waitsOk impl_ValidState.T18.2 impl_ValidState.B18 = true := by kernel_rfl
def impl_ValidState.T26 : Bool × List (List Nat × List Nat) := (true, [([], []), ([0], [0]), ([1], [1]), ([2], [2]), ([3, 2], [2, 3]), ([4, 2, 2], [2, 4]), ([5, 2], [2, 5]), ([2, 6], [2, 6]), ([7, 5], [7]), ([8], [8]), ([9, 8], [8, 9]), ([10, 8, 8], [8, 10]), ([11], [11]), ([12, 11], [11, 12]), ([11], [11]), ([14, 11], [11, 14]), ([13, 15, 11], [11, 13, 15]), ([16, 11], [11, 16]), ([17, 11], [11, 17]), ([11], [11]), ([19, 11], [11, 19]), ([18, 20, 11], [11, 18, 20]), ([11, 21, 8], [8, 11, 21]), ([8, 22], [8, 22])])
def impl_ValidState.B26 : List Nat := [0, 1, 3, 7, 15, 31, 63, 127, 255, 511, 1023, 2047, 4095, 8191, 4095, 20479, 65535, 131071, 262143, 4095, 528383, 2097151, 4194303, 8388607]
theorem impl_ValidState.tab26 : rtab .any (opsOf Try.f13 26) = impl_ValidState.T26 := by kernel_rfl
theorem impl_ValidState.bits26 : waitsOk impl_ValidState.T26.2 impl_ValidState.B26 = true := by kernel_rfl
def impl_ValidState.T33 : Bool × List (List Nat × List Nat) := (true, [([], []), ([0], [0]), ([1], [1]), ([2], [2]), ([3, 2], [2, 3]), ([4, 2], [2, 4]), ([2, 5], [2, 5]), ([6, 2], [6]), ([7], [7]), ([8, 7], [7, 8]), ([7], [7]), ([10, 7], [7, 10]), ([9, 11, 7], [7, 9, 11]), ([7, 12], [7, 12]), ([13, 7], [13]), ([14], [14]), ([15, 14], [14, 15]), ([16, 14, 14], [14, 16]), ([17], [17]), ([18, 17], [17, 18]), ([17], [17]), ([20, 17], [17, 20]), ([19, 21, 17], [17, 19, 21]), ([22, 17], [17, 22]), ([23, 17], [17, 23]), ([17], [17]), ([25, 17], [17, 25]), ([24, 26, 17], [17, 24, 26]), ([17, 27, 14], [14, 17, 27]), ([14, 28], [14, 28]), ([29, 17], [29]), ([30], [30]), ([31, 30], [30, 31]), ([30], [30]), ([33, 30], [30, 33]), ([32, 34, 30], [30, 32, 34]), ([30, 35], [30, 35]), ([36, 30], [36]), ([37], [37]), ([38, 37], [37, 38]), ([37], [37]), ([40, 37], [37, 40]), ([41, 37], [37, 41]), ([39, 42, 37], [37, 39, 42]), ([37, 43], [37, 43])])
def impl_ValidState.B33 : List Nat := [0, 1, 3, 7, 15, 31, 63, 127, 255, 511, 255, 1279, 4095, 8191, 16383, 32767, 65535, 131071, 262143, 524287, 262143, 1310719, 4194303, 8388607, 16777215, 262143, 33816575, 134217727, 268435455, 536870911, 1073741823, 2147483647, 4294967295, 2147483647, 10737418239, 34359738367, 68719476735, 137438953471, 274877906943, 549755813887, 274877906943, 1374389534719, 3573412790271, 8796093022207, 17592186044415]
theorem impl_ValidState.tab33 : rtab .any (opsOf Try.f13 33) = impl_ValidState.T33 := by kernel_rfl
theorem impl_ValidState.bits33 : waitsOk impl_ValidState.T33.2 impl_ValidState.B33 = true := by kernel_rfl
set_option maxHeartbeats 80000000 in
set_option maxRecDepth 100000 in
theorem impl_ValidState.calls (k : Nat) (a0_0 : Int) (a0_1 : Int) (a0_2 : Int) (a0_3 : Int) (A0_4 : Option Addr) (c0_4 : Nat) (l0_4 : List (S91)) (A0_5 : Option Addr) (c0_5 : Nat) (l0_5 : List (S82)) (A0_6 : Option Addr) (c0_6 : Nat) (l0_6 : List (S85)) (r : Bool) (w : World) (hr0_4 : Kd.C k91 w A0_4 l0_4.length l0_4) (hc0_4 : l0_4.length ≤ c0_4) (hr0_5 : Kd.C k82 w A0_5 l0_5.length l0_5) (hc0_5 : l0_5.length ≤ c0_5) (hr0_6 : Kd.C k85 w A0_6 l0_6.length l0_6) (hc0_6 : l0_6.length ≤ c0_6) (h : impl_ValidState.f k a0_0 a0_1 a0_2 a0_3 l0_4 l0_5 l0_6 = some r) :
  Calls Try.prog 13 #[.agg #[.int .i64 a0_0, .int .i64 a0_1, .int .i64 a0_2, .int .i64 a0_3, .slice A0_4 l0_4.length c0_4, .slice A0_5 l0_5.length c0_5, .slice A0_6 l0_6.length c0_6]] w fun e w' => e = .returned (.bool r) ∧ Below w.heap.size w w' := by
 have hu33 := Try.underlying33
 have hu18 := Try.underlying18
 have hu91 := Try.underlying91
 have hu61 := Try.underlying61
 have hu82 := Try.underlying82
 have hu85 := Try.underlying85
 have HR0_4 := Aside0.mk hr0_4
 have HC0_4 := Aside0.mk hc0_4
 clear hr0_4 hc0_4
 have HR0_5 := Aside0.mk hr0_5
 have HC0_5 := Aside0.mk hc0_5
 clear hr0_5 hc0_5
 have HR0_6 := Aside0.mk hr0_6
 have HC0_6 := Aside0.mk hc0_6
 clear hr0_6 hc0_6
 have HB := am__ (Below.refl w.heap.size w)
 have H : ((impl_widthOk.f a0_0).bind fun t271 => (if t271 = true then ((impl_timeOk.f a0_1).bind fun t272 => (if t272 = true then ((impl_timeOk.f a0_2).bind fun t273 => (if t273 = true then ((impl_timeOk.f a0_3).bind fun t274 => (if t274 = true then (if (l0_4.length : Int) > 600 then (impl_ValidState.j0 k true a0_0 a0_1 a0_2 a0_3 l0_4 l0_5 l0_6) else (if (l0_5.length : Int) > 100 then (impl_ValidState.j0 k true a0_0 a0_1 a0_2 a0_3 l0_4 l0_5 l0_6) else (impl_ValidState.j0 k (decide ((l0_6.length : Int) > 200)) a0_0 a0_1 a0_2 a0_3 l0_4 l0_5 l0_6))) else (impl_ValidState.j0 k true a0_0 a0_1 a0_2 a0_3 l0_4 l0_5 l0_6))) else (impl_ValidState.j0 k true a0_0 a0_1 a0_2 a0_3 l0_4 l0_5 l0_6))) else (impl_ValidState.j0 k true a0_0 a0_1 a0_2 a0_3 l0_4 l0_5 l0_6))) else (impl_ValidState.j0 k true a0_0 a0_1 a0_2 a0_3 l0_4 l0_5 l0_6))) = some r := h
 clear h
 have HC2 := Aside0.mk H
 clear H
 go_enter Try.func13, Try.ntmps13
 go_upto_region 1 with (first | ((with_reducible refine gate_dst (N := 1) rfl ?_); (try (refine gate_guard (by rfl) ?_; dsimp only)); refine be__ 1 #[.int .i64 a0_0, .int .i64 a0_1, .int .i64 a0_2, .int .i64 a0_3, .slice A0_4 l0_4.length c0_4, .slice A0_5 l0_5.length c0_5, .slice A0_6 l0_6.length c0_6] 33 ?_; intro gb270 hg w3 hbox hb; have BK270 := am__ (hbox); have GW270 := am__ ((bsz__ hg bel__ : w.heap.size ≤ gb270)); have GE270 := am__ ((bsz__ hg bel__ : w.heap.size ≤ gb270)); replace HB := am__ (below_step (bel__) hb); clear hb hbox hg))
 (try simp only [Act.put, List.setIfInBounds_toArray, List.set_cons_zero, List.set_cons_succ])
 go_cut [59] (fun v59 wc => ∃ (kq : Nat) (x59_1 : Bool), v59 = .bool x59_1 ∧ Aside0 (impl_ValidState.j0 kq x59_1 a0_0 a0_1 a0_2 a0_3 l0_4 l0_5 l0_6 = some r) ∧ Aside0 (kq ≤ k) ∧ Aside0 (wc.heap[gb270]? = some (.cells #[.int .i64 a0_0, .int .i64 a0_1, .int .i64 a0_2, .int .i64 a0_3, (.slice A0_4 l0_4.length c0_4), (.slice A0_5 l0_5.length c0_5), (.slice A0_6 l0_6.length c0_6)] 33 (0, 0))) ∧ Aside0 (Below w.heap.size w wc))
 case first =>
  as_aux_lemma =>
  have H := HC2.out
  clear HC2
  replace H := Option.bind_eq_some_iff.mp H
  obtain ⟨t271, A40, H⟩ := H
  have A4 := Aside0.mk A40
  clear A40
  by_cases c5 : t271 = true
  ·as_aux_lemma =>
   subst c5
   rw [if_pos rfl] at H
   replace H := Option.bind_eq_some_iff.mp H
   obtain ⟨t272, A60, H⟩ := H
   have A6 := Aside0.mk A60
   clear A60
   by_cases c7 : t272 = true
   ·as_aux_lemma =>
    subst c7
    rw [if_pos rfl] at H
    replace H := Option.bind_eq_some_iff.mp H
    obtain ⟨t273, A80, H⟩ := H
    have A8 := Aside0.mk A80
    clear A80
    by_cases c9 : t273 = true
    ·as_aux_lemma =>
     subst c9
     rw [if_pos rfl] at H
     replace H := Option.bind_eq_some_iff.mp H
     obtain ⟨t274, A100, H⟩ := H
     have A10 := Aside0.mk A100
     clear A100
     by_cases c11 : t274 = true
     ·subst c11
      rw [if_pos rfl] at H
      by_cases c12 : (l0_4.length : Int) > 600
      ·rw [if_pos c12] at H
       have c12b0 : decide (600 < (l0_4.length : Int)) = true := decide_eq_true c12
       have c12b1 : decide (600 < l0_4.length) = true := decide_eq_true (by omega)
       clear c12
       (first | rw [c12b0] | (simp only [i64_w, i32_w]; rw [c12b0]) | skip)
       have H' := Aside0.mk H
       clear H
       obtain ⟨hcz13_0, hcz13_1, hcz13_2, hcz13_3, hcz13_4, hcz13_5, hcz13_6, hfz13_0, hfz13_1, hfz13_2, hfz13_3, hfz13_4, hfz13_5, hfz13_6⟩ := bk7__ BK270.out
       go_wp2_with (first | ((with_reducible refine gate_callee (f := 53) rfl ?_); refine gl__ (some 22) Try.func53 #[.int .i64 a0_0] ?_; (with_reducible refine (impl_widthOk.calls a0_0 true _ A4.out).mono ?_); rintro e w' ⟨rfl, ⟨nd, rfl⟩⟩; refine ⟨_, rfl, ?_⟩) | (go_at_call 54; (with_reducible refine (impl_timeOk.calls a0_1 true _ A6.out).mono ?_); rintro e w' ⟨rfl, ⟨nd, rfl⟩⟩) | (go_at_call 54; (with_reducible refine (impl_timeOk.calls a0_2 true _ A8.out).mono ?_); rintro e w' ⟨rfl, ⟨nd, rfl⟩⟩) | (go_at_call 54; (with_reducible refine (impl_timeOk.calls a0_3 true _ A10.out).mono ?_); rintro e w' ⟨rfl, ⟨nd, rfl⟩⟩))
       go_meet
       case rel => exact ⟨_, (true), (rf__), H', ⟨by first | omega | exact Nat.le_refl _⟩, ⟨blk__ BK270.out⟩, ⟨bel__⟩⟩
      ·rw [if_neg c12] at H
       have c12b0 : decide (600 < (l0_4.length : Int)) = false := decide_eq_false c12
       have c12b1 : decide (600 < l0_4.length) = false := decide_eq_false (by omega)
       clear c12
       (first | rw [c12b0] | (simp only [i64_w, i32_w]; rw [c12b0]) | skip)
       by_cases c14 : (l0_5.length : Int) > 100
       ·rw [if_pos c14] at H
        have c14b0 : decide (100 < (l0_5.length : Int)) = true := decide_eq_true c14
        have c14b1 : decide (100 < l0_5.length) = true := decide_eq_true (by omega)
        clear c14
        have H' := Aside0.mk H
        clear H
        obtain ⟨hcz15_0, hcz15_1, hcz15_2, hcz15_3, hcz15_4, hcz15_5, hcz15_6, hfz15_0, hfz15_1, hfz15_2, hfz15_3, hfz15_4, hfz15_5, hfz15_6⟩ := bk7__ BK270.out
        go_wp2_with (first | ((with_reducible refine gate_callee (f := 53) rfl ?_); refine gl__ (some 22) Try.func53 #[.int .i64 a0_0] ?_; (with_reducible refine (impl_widthOk.calls a0_0 true _ A4.out).mono ?_); rintro e w' ⟨rfl, ⟨nd, rfl⟩⟩; refine ⟨_, rfl, ?_⟩) | (go_at_call 54; (with_reducible refine (impl_timeOk.calls a0_1 true _ A6.out).mono ?_); rintro e w' ⟨rfl, ⟨nd, rfl⟩⟩) | (go_at_call 54; (with_reducible refine (impl_timeOk.calls a0_2 true _ A8.out).mono ?_); rintro e w' ⟨rfl, ⟨nd, rfl⟩⟩) | (go_at_call 54; (with_reducible refine (impl_timeOk.calls a0_3 true _ A10.out).mono ?_); rintro e w' ⟨rfl, ⟨nd, rfl⟩⟩))
        go_meet
        case rel => exact ⟨_, (true), (rf__), H', ⟨by first | omega | exact Nat.le_refl _⟩, ⟨blk__ BK270.out⟩, ⟨bel__⟩⟩
       ·rw [if_neg c14] at H
        have c14b0 : decide (100 < (l0_5.length : Int)) = false := decide_eq_false c14
        have c14b1 : decide (100 < l0_5.length) = false := decide_eq_false (by omega)
        clear c14
        have H' := Aside0.mk H
        clear H
        obtain ⟨hcz16_0, hcz16_1, hcz16_2, hcz16_3, hcz16_4, hcz16_5, hcz16_6, hfz16_0, hfz16_1, hfz16_2, hfz16_3, hfz16_4, hfz16_5, hfz16_6⟩ := bk7__ BK270.out
        go_wp2_with (first | ((with_reducible refine gate_callee (f := 53) rfl ?_); refine gl__ (some 22) Try.func53 #[.int .i64 a0_0] ?_; (with_reducible refine (impl_widthOk.calls a0_0 true _ A4.out).mono ?_); rintro e w' ⟨rfl, ⟨nd, rfl⟩⟩; refine ⟨_, rfl, ?_⟩) | (go_at_call 54; (with_reducible refine (impl_timeOk.calls a0_1 true _ A6.out).mono ?_); rintro e w' ⟨rfl, ⟨nd, rfl⟩⟩) | (go_at_call 54; (with_reducible refine (impl_timeOk.calls a0_2 true _ A8.out).mono ?_); rintro e w' ⟨rfl, ⟨nd, rfl⟩⟩) | (go_at_call 54; (with_reducible refine (impl_timeOk.calls a0_3 true _ A10.out).mono ?_); rintro e w' ⟨rfl, ⟨nd, rfl⟩⟩))
        go_meet
        case rel => exact ⟨_, (decide ((l0_6.length : Int) > 200)), (rf__), H', ⟨by first | omega | exact Nat.le_refl _⟩, ⟨blk__ BK270.out⟩, ⟨bel__⟩⟩
     ·replace c11 := Bool.eq_false_iff.mpr c11
      subst c11
      have H1 : (impl_ValidState.j0 k true a0_0 a0_1 a0_2 a0_3 l0_4 l0_5 l0_6) = some r := by rw [if_neg (show ¬ (false = true) by decide)] at H; exact H
      clear H
      have H := H1
      clear H1
      have H' := Aside0.mk H
      clear H
      obtain ⟨hcz17_0, hcz17_1, hcz17_2, hcz17_3, hcz17_4, hcz17_5, hcz17_6, hfz17_0, hfz17_1, hfz17_2, hfz17_3, hfz17_4, hfz17_5, hfz17_6⟩ := bk7__ BK270.out
      go_wp2_with (first | ((with_reducible refine gate_callee (f := 53) rfl ?_); refine gl__ (some 22) Try.func53 #[.int .i64 a0_0] ?_; (with_reducible refine (impl_widthOk.calls a0_0 true _ A4.out).mono ?_); rintro e w' ⟨rfl, ⟨nd, rfl⟩⟩; refine ⟨_, rfl, ?_⟩) | (go_at_call 54; (with_reducible refine (impl_timeOk.calls a0_1 true _ A6.out).mono ?_); rintro e w' ⟨rfl, ⟨nd, rfl⟩⟩) | (go_at_call 54; (with_reducible refine (impl_timeOk.calls a0_2 true _ A8.out).mono ?_); rintro e w' ⟨rfl, ⟨nd, rfl⟩⟩) | (go_at_call 54; (with_reducible refine (impl_timeOk.calls a0_3 false _ A10.out).mono ?_); rintro e w' ⟨rfl, ⟨nd, rfl⟩⟩))
      go_meet
      case rel => exact ⟨_, (true), (rf__), H', ⟨by first | omega | exact Nat.le_refl _⟩, ⟨blk__ BK270.out⟩, ⟨bel__⟩⟩
    ·replace c9 := Bool.eq_false_iff.mpr c9
     subst c9
     have H1 : (impl_ValidState.j0 k true a0_0 a0_1 a0_2 a0_3 l0_4 l0_5 l0_6) = some r := by rw [if_neg (show ¬ (false = true) by decide)] at H; exact H
     clear H
     have H := H1
     clear H1
     have H' := Aside0.mk H
     clear H
     obtain ⟨hcz18_0, hcz18_1, hcz18_2, hcz18_3, hcz18_4, hcz18_5, hcz18_6, hfz18_0, hfz18_1, hfz18_2, hfz18_3, hfz18_4, hfz18_5, hfz18_6⟩ := bk7__ BK270.out
     go_wp2_with (first | ((with_reducible refine gate_callee (f := 53) rfl ?_); refine gl__ (some 22) Try.func53 #[.int .i64 a0_0] ?_; (with_reducible refine (impl_widthOk.calls a0_0 true _ A4.out).mono ?_); rintro e w' ⟨rfl, ⟨nd, rfl⟩⟩; refine ⟨_, rfl, ?_⟩) | (go_at_call 54; (with_reducible refine (impl_timeOk.calls a0_1 true _ A6.out).mono ?_); rintro e w' ⟨rfl, ⟨nd, rfl⟩⟩) | (go_at_call 54; (with_reducible refine (impl_timeOk.calls a0_2 false _ A8.out).mono ?_); rintro e w' ⟨rfl, ⟨nd, rfl⟩⟩))
     go_meet
     case rel => exact ⟨_, (true), (rf__), H', ⟨by first | omega | exact Nat.le_refl _⟩, ⟨blk__ BK270.out⟩, ⟨bel__⟩⟩
   ·replace c7 := Bool.eq_false_iff.mpr c7
    subst c7
    have H1 : (impl_ValidState.j0 k true a0_0 a0_1 a0_2 a0_3 l0_4 l0_5 l0_6) = some r := by rw [if_neg (show ¬ (false = true) by decide)] at H; exact H
    clear H
    have H := H1
    clear H1
    have H' := Aside0.mk H
    clear H
    obtain ⟨hcz19_0, hcz19_1, hcz19_2, hcz19_3, hcz19_4, hcz19_5, hcz19_6, hfz19_0, hfz19_1, hfz19_2, hfz19_3, hfz19_4, hfz19_5, hfz19_6⟩ := bk7__ BK270.out
    go_wp2_with (first | ((with_reducible refine gate_callee (f := 53) rfl ?_); refine gl__ (some 22) Try.func53 #[.int .i64 a0_0] ?_; (with_reducible refine (impl_widthOk.calls a0_0 true _ A4.out).mono ?_); rintro e w' ⟨rfl, ⟨nd, rfl⟩⟩; refine ⟨_, rfl, ?_⟩) | (go_at_call 54; (with_reducible refine (impl_timeOk.calls a0_1 false _ A6.out).mono ?_); rintro e w' ⟨rfl, ⟨nd, rfl⟩⟩))
    go_meet
    case rel => exact ⟨_, (true), (rf__), H', ⟨by first | omega | exact Nat.le_refl _⟩, ⟨blk__ BK270.out⟩, ⟨bel__⟩⟩
  ·replace c5 := Bool.eq_false_iff.mpr c5
   subst c5
   have H1 : (impl_ValidState.j0 k true a0_0 a0_1 a0_2 a0_3 l0_4 l0_5 l0_6) = some r := by rw [if_neg (show ¬ (false = true) by decide)] at H; exact H
   clear H
   have H := H1
   clear H1
   have H' := Aside0.mk H
   clear H
   obtain ⟨hcz20_0, hcz20_1, hcz20_2, hcz20_3, hcz20_4, hcz20_5, hcz20_6, hfz20_0, hfz20_1, hfz20_2, hfz20_3, hfz20_4, hfz20_5, hfz20_6⟩ := bk7__ BK270.out
   go_wp2_with (first | ((with_reducible refine gate_callee (f := 53) rfl ?_); refine gl__ (some 22) Try.func53 #[.int .i64 a0_0] ?_; (with_reducible refine (impl_widthOk.calls a0_0 false _ A4.out).mono ?_); rintro e w' ⟨rfl, ⟨nd, rfl⟩⟩; refine ⟨_, rfl, ?_⟩))
   go_meet
   case rel => exact ⟨_, (true), (rf__), H', ⟨by first | omega | exact Nat.le_refl _⟩, ⟨blk__ BK270.out⟩, ⟨bel__⟩⟩
 case rest =>
  as_aux_lemma =>
  clear HC2
  try clear c1
  try clear p2
  try clear c5
  try clear c7
  try clear c9
  try clear c11
  try clear c12
  try clear c12b0
  try clear c12b1
  try clear c13
  try clear c14
  try clear c14b0
  try clear c14b1
  try clear hcz13_0 hcz13_1 hcz13_2 hcz13_3 hcz13_4 hcz13_5 hcz13_6 hfz13_0 hfz13_1 hfz13_2 hfz13_3 hfz13_4 hfz13_5 hfz13_6
  try clear hcz15_0 hcz15_1 hcz15_2 hcz15_3 hcz15_4 hcz15_5 hcz15_6 hfz15_0 hfz15_1 hfz15_2 hfz15_3 hfz15_4 hfz15_5 hfz15_6
  try clear hcz16_0 hcz16_1 hcz16_2 hcz16_3 hcz16_4 hcz16_5 hcz16_6 hfz16_0 hfz16_1 hfz16_2 hfz16_3 hfz16_4 hfz16_5 hfz16_6
  try clear hcz17_0 hcz17_1 hcz17_2 hcz17_3 hcz17_4 hcz17_5 hcz17_6 hfz17_0 hfz17_1 hfz17_2 hfz17_3 hfz17_4 hfz17_5 hfz17_6
  try clear hcz18_0 hcz18_1 hcz18_2 hcz18_3 hcz18_4 hcz18_5 hcz18_6 hfz18_0 hfz18_1 hfz18_2 hfz18_3 hfz18_4 hfz18_5 hfz18_6
  try clear hcz19_0 hcz19_1 hcz19_2 hcz19_3 hcz19_4 hcz19_5 hcz19_6 hfz19_0 hfz19_1 hfz19_2 hfz19_3 hfz19_4 hfz19_5 hfz19_6
  try clear hcz20_0 hcz20_1 hcz20_2 hcz20_3 hcz20_4 hcz20_5 hcz20_6 hfz20_0 hfz20_1 hfz20_2 hfz20_3 hfz20_4 hfz20_5 hfz20_6
  obtain ⟨kq, x59_1, rfl, HA, HJ1, BK270, HB⟩ := hcut
  cases kq with
  | zero => exact absurd HA.out (by simp [impl_ValidState.j0])
  | succ kj1 =>
   have H := HA.out
   clear HA
   simp only [impl_ValidState.j0] at H
   by_cases c21 : x59_1 = true
   ·subst c21
    rw [if_pos rfl] at H
    obtain rfl := Option.some.inj H
    go_wp2
    go_ret
    exact ⟨ee__, bel__⟩
   ·as_aux_lemma =>
    replace c21 := Bool.eq_false_iff.mpr c21
    subst c21
    have H1 : (impl_ValidState.l0 kj1 l0_4 (l0_4.length : Int) 0 a0_0 a0_1 a0_2 a0_3 l0_4 l0_5 l0_6 []) = some r := by rw [if_neg (show ¬ (false = true) by decide)] at H; exact H
    clear H
    have H := H1
    clear H1
    have H' := Aside0.mk H
    clear H
    go_wp2_with (first | ((with_reducible refine gate_dst (N := 60) rfl ?_); refine make_event 60 (by rfl) (by rfl) ?_; intro gb275 hg w22 hbox hb; have BK275 := am__ (hbox); have GW275 := am__ ((bsz__ hg bel__ : w.heap.size ≤ gb275)); have GE275 := am__ ((bsz__ hg bel__ : w.heap.size ≤ gb275)); replace HB := am__ (below_step (bel__) hb); have NB270_275 := am__ ((nl__ hg BK270.out : gb270 ≠ gb275)); have NB275_270 := am__ ((ng__ hg BK270.out : gb275 ≠ gb270)); replace BK270 := am__ (blb__ BK270.out hb); clear hb hbox hg; have hnb23 := NB270_275.out; have hnc23 := NB275_270.out; obtain ⟨hcz24_0, hcz24_1, hcz24_2, hcz24_3, hcz24_4, hcz24_5, hcz24_6, hfz24_0, hfz24_1, hfz24_2, hfz24_3, hfz24_4, hfz24_5, hfz24_6⟩ := bk7__ BK270.out))
    go_loopg [64] kj1 (fun kq v64 w' => ∃ (x64_2 : Int) (x276000_2 : List Int), v64 = .int .i64 x64_2 ∧ Aside0 (impl_ValidState.l0 kq l0_4 (l0_4.length : Int) x64_2 a0_0 a0_1 a0_2 a0_3 l0_4 l0_5 l0_6 x276000_2 = some r) ∧ Aside0 (kq ≤ kj1) ∧ Aside0 (w'.heap[gb270]? = some (.cells #[.int .i64 a0_0, .int .i64 a0_1, .int .i64 a0_2, .int .i64 a0_3, (.slice A0_4 l0_4.length c0_4), (.slice A0_5 l0_5.length c0_5), (.slice A0_6 l0_6.length c0_6)] 33 (0, 0))) ∧ Aside0 (w'.heap[gb275]? = some (mobj x276000_2)) ∧ Aside0 (Below w.heap.size w w'))
    case atStart => exact ⟨(0), ([]), (rf__), H', ⟨Nat.le_refl _⟩, ⟨blk__ BK270.out⟩, ⟨blk__ BK275.out⟩, ⟨bel__⟩⟩
    case round =>
     as_aux_lemma =>
     clear H'
     try clear c1
     try clear c2
     try clear p2
     try clear c5
     try clear c7
     try clear c9
     try clear c11
     try clear c12
     try clear c12b0
     try clear c12b1
     try clear c13
     try clear c14
     try clear c14b0
     try clear c14b1
     try clear c21
     try clear c23
     try clear hcz13_0 hcz13_1 hcz13_2 hcz13_3 hcz13_4 hcz13_5 hcz13_6 hfz13_0 hfz13_1 hfz13_2 hfz13_3 hfz13_4 hfz13_5 hfz13_6
     try clear hcz15_0 hcz15_1 hcz15_2 hcz15_3 hcz15_4 hcz15_5 hcz15_6 hfz15_0 hfz15_1 hfz15_2 hfz15_3 hfz15_4 hfz15_5 hfz15_6
     try clear hcz16_0 hcz16_1 hcz16_2 hcz16_3 hcz16_4 hcz16_5 hcz16_6 hfz16_0 hfz16_1 hfz16_2 hfz16_3 hfz16_4 hfz16_5 hfz16_6
     try clear hcz17_0 hcz17_1 hcz17_2 hcz17_3 hcz17_4 hcz17_5 hcz17_6 hfz17_0 hfz17_1 hfz17_2 hfz17_3 hfz17_4 hfz17_5 hfz17_6
     try clear hcz18_0 hcz18_1 hcz18_2 hcz18_3 hcz18_4 hcz18_5 hcz18_6 hfz18_0 hfz18_1 hfz18_2 hfz18_3 hfz18_4 hfz18_5 hfz18_6
     try clear hcz19_0 hcz19_1 hcz19_2 hcz19_3 hcz19_4 hcz19_5 hcz19_6 hfz19_0 hfz19_1 hfz19_2 hfz19_3 hfz19_4 hfz19_5 hfz19_6
     try clear hcz20_0 hcz20_1 hcz20_2 hcz20_3 hcz20_4 hcz20_5 hcz20_6 hfz20_0 hfz20_1 hfz20_2 hfz20_3 hfz20_4 hfz20_5 hfz20_6
     try clear hcz24_0 hcz24_1 hcz24_2 hcz24_3 hcz24_4 hcz24_5 hcz24_6 hfz24_0 hfz24_1 hfz24_2 hfz24_3 hfz24_4 hfz24_5 hfz24_6
     try clear p2
     obtain ⟨x64_2, x276000_2, rfl, HA, HK2, BK270, BK275, HB⟩ := hrel
     cases gk with
     | zero => exact absurd HA.out (by simp [impl_ValidState.l0])
     | succ k2 =>
      have H := HA.out
      clear HA
      simp only [impl_ValidState.l0] at H
      by_cases c25 : x64_2 < (l0_4.length : Int)
      ·as_aux_lemma =>
       rw [if_pos c25] at H
       have c25b0 := decide_eq_true c25
       clear c25
       by_cases c26 : 0 ≤ x64_2
       ·as_aux_lemma =>
        rw [if_pos c26] at H
        have c26b0 := decide_eq_true c26
        clear c26
        by_cases c27 : x64_2 < (l0_4.length : Int)
        ·as_aux_lemma =>
         rw [if_pos c27] at H
         have c27b0 := decide_eq_true c27
         clear c27
         have HC28 := Aside0.mk H
         clear H
         have p276 : 0 ≤ (x64_2 : Int) := of_decide_eq_true (by first | (with_reducible assumption) | assumption)
         have q276 : x64_2 < (l0_4.length : Int) := of_decide_eq_true (by first | (with_reducible assumption) | assumption)
         obtain ⟨ad276, A276_3, c276_3, e276, hx276_0, hx276_1, hx276_2, hx276_3, hl276_3, hi276_3⟩ := at_T91 HR0_4.out x64_2 p276 q276
         cases e276
         try replace hx276_0 := hb__ HB.out hx276_0
         try replace hx276_1 := hb__ HB.out hx276_1
         try replace hx276_2 := hb__ HB.out hx276_2
         try replace hx276_3 := hb__ HB.out hx276_3
         have HR276_3 := Aside0.mk hi276_3
         have HC276_3 := Aside0.mk hl276_3
         clear hi276_3 hl276_3
         replace p276 := eq_true p276
         replace q276 := eq_true q276
         go_upto_region 7 with (first | ((with_reducible refine gate_dst (N := 5) rfl ?_); (try (refine gate_guard (by rfl) ?_; dsimp only)); refine be__ 5 #[.string (⟨#[]⟩ : ByteArray), .int .i64 0, .string (⟨#[]⟩ : ByteArray), .slice none 0 0] 91 ?_; intro gb277 hg w29 hbox hb; have BK277 := am__ (hbox); have GW277 := am__ ((bsz__ hg bel__ : w.heap.size ≤ gb277)); have GE277 := am__ ((bsz__ hg bel__ : w.heap.size ≤ gb277)); replace HB := am__ (below_step (bel__) hb); have NB270_277 := am__ ((nl__ hg BK270.out : gb270 ≠ gb277)); have NB277_270 := am__ ((ng__ hg BK270.out : gb277 ≠ gb270)); replace BK270 := am__ (blb__ BK270.out hb); have NB275_277 := am__ ((nlt__ hg (blk_lt (g := gb275) (o := mobj x276000_2) (blk__ BK275.out)) : gb275 ≠ gb277)); have NB277_275 := am__ ((ngt__ hg (blk_lt (g := gb275) (o := mobj x276000_2) (blk__ BK275.out)) : gb277 ≠ gb275)); replace BK275 := am__ (blb__ BK275.out hb); clear hb hbox hg; have hnb30 := NB277_270.out; have hnc30 := NB270_277.out; have hnb31 := NB277_275.out; have hnc31 := NB275_277.out; obtain ⟨hcz32_0, hcz32_1, hcz32_2, hcz32_3, hfz32_0, hfz32_1, hfz32_2, hfz32_3⟩ := bk4__ BK277.out))
         (try simp only [Act.put, List.setIfInBounds_toArray, List.set_cons_zero, List.set_cons_succ])
         go_cut [119] (fun v119 wc => ∃ (kq : Nat) (x119_27 : Bool), v119 = .bool x119_27 ∧ Aside0 (impl_ValidState.j2 kq l0_4 (l0_4.length : Int) x64_2 x119_27 a0_0 a0_1 a0_2 a0_3 l0_4 l0_5 l0_6 x276000_2 = some r) ∧ Aside0 (kq ≤ k2) ∧ Aside0 (wc.heap[gb270]? = some (.cells #[.int .i64 a0_0, .int .i64 a0_1, .int .i64 a0_2, .int .i64 a0_3, (.slice (some ad276) l0_4.length c0_4), (.slice A0_5 l0_5.length c0_5), (.slice A0_6 l0_6.length c0_6)] 33 (0, 0))) ∧ Aside0 (wc.heap[gb275]? = some (mobj x276000_2)) ∧ Aside0 (wc.heap[gb277]? = some (.cells #[.string ((rd_T91 l0_4 x64_2).f0), .int .i64 ((rd_T91 l0_4 x64_2).f1), .string ((rd_T91 l0_4 x64_2).f2.f0), (.slice A276_3 ((rd_T91 l0_4 x64_2).f2.f1).length c276_3)] 91 (0, 0))) ∧ Aside0 (Below w.heap.size w wc))
         case first =>
          as_aux_lemma =>
          have H := HC28.out
          clear HC28
          by_cases c33 : x64_2 > 0
          ·as_aux_lemma =>
           rw [if_pos c33] at H
           have c33b0 : decide (0 < x64_2) = true := decide_eq_true c33
           clear c33
           (first | rw [c33b0] | (simp only [i64_w, i32_w]; rw [c33b0]) | skip)
           obtain ⟨ji34, hji34⟩ : ∃ j_ : Int, (wrap64 (x64_2 - 1)) = j_ := ⟨_, rfl⟩
           first | rw [hji34] at H | simp only [hji34] at H
           have hji34w : (IntKind.i64.wrap (x64_2 - 1)) = ji34 := (i64_w _).trans hji34
           by_cases c35 : 0 ≤ (ji34)
           ·as_aux_lemma =>
            rw [if_pos c35] at H
            have c35b0 := decide_eq_true c35
            clear c35
            by_cases c36 : (ji34) < (l0_4.length : Int)
            ·as_aux_lemma =>
             rw [if_pos c36] at H
             have c36b0 := decide_eq_true c36
             clear c36
             by_cases c37 : ((Op.bytesLess (((rd_T91 l0_4 (ji34)).f0).toList) (((rd_T91 l0_4 x64_2).f0).toList)) = true)
             ·as_aux_lemma =>
              rw [if_pos c37] at H
              have c37b0 : (Op.bytesLess (((rd_T91 l0_4 (ji34)).f0).toList) (((rd_T91 l0_4 x64_2).f0).toList)) = true := c37
              clear c37
              replace H := Option.bind_eq_some_iff.mp H
              obtain ⟨t279, A380, H⟩ := H
              have A38 := Aside0.mk A380
              clear A380
              by_cases c39 : t279 = true
              ·as_aux_lemma =>
               subst c39
               rw [if_pos rfl] at H
               replace H := Option.bind_eq_some_iff.mp H
               obtain ⟨t280, A400, H⟩ := H
               have A40 := Aside0.mk A400
               clear A400
               replace H := Option.bind_eq_some_iff.mp H
               obtain ⟨t281, A410, H⟩ := H
               have A41 := Aside0.mk A410
               clear A410
               by_cases c42 : ((rd_T91 l0_4 x64_2).f0).toList = t281.toList
               ·as_aux_lemma =>
                rw [if_pos c42] at H
                have c42b0 : (((rd_T91 l0_4 x64_2).f0).toList == t281.toList) = true := beq_iff_eq.mpr c42
                have c42b1 : (((rd_T91 l0_4 x64_2).f0).toList != t281.toList) = false := bne_eq_false_iff_eq.mpr c42
                clear c42
                by_cases c43 : ((rd_T91 l0_4 x64_2).f1) < 1
                ·as_aux_lemma =>
                 rw [if_pos c43] at H
                 have c43b0 := decide_eq_true c43
                 clear c43
                 have H' := Aside0.mk H
                 clear H
                 try go_wp2
                 obtain ⟨w44, hw_⟩ : ∃ W_, W_ = ((((w29.setCell ⟨gb277, 0, none⟩ (.string ((rd_T91 l0_4 x64_2).f0))).setCell ⟨gb277, 1, none⟩ (.int .i64 ((rd_T91 l0_4 x64_2).f1))).setCell ⟨gb277, 2, none⟩ (.string ((rd_T91 l0_4 x64_2).f2.f0))).setCell ⟨gb277, 3, none⟩ (.slice A276_3 ((rd_T91 l0_4 x64_2).f2.f1).length c276_3)) := ⟨_, rfl⟩
                 have n0_ : Aside0 (w44.heap[gb270]? = some (.cells #[.int .i64 a0_0, .int .i64 a0_1, .int .i64 a0_2, .int .i64 a0_3, .slice (some ad276) l0_4.length c0_4, .slice A0_5 l0_5.length c0_5, .slice A0_6 l0_6.length c0_6] 33 (0, 0))) := ⟨by rw [hw_]; exact blf4__ BK270.out⟩
                 have n1_ : Aside0 (w44.heap[gb275]? = some (mobj x276000_2)) := ⟨by rw [hw_]; exact bmf__ BK275.out⟩
                 have n2_ : Aside0 (w44.heap[gb277]? = some (.cells #[.string ((rd_T91 l0_4 x64_2).f0), .int .i64 ((rd_T91 l0_4 x64_2).f1), .string ((rd_T91 l0_4 x64_2).f2.f0), .slice A276_3 ((rd_T91 l0_4 x64_2).f2.f1).length c276_3] 91 (0, 0))) := ⟨by rw [hw_]; exact bpu__ BK277.out⟩
                 have n3_ : Aside0 (Below w.heap.size w w44) := ⟨by rw [hw_]; exact bel__⟩
                 rw [← hw_]
                 clear hw_
                 replace BK270 := n0_
                 replace BK275 := n1_
                 replace BK277 := n2_
                 replace HB := n3_
                 clear n0_ n1_ n2_ n3_
                 replace BK270 := am__ (blk_drew BK270.out)
                 replace BK275 := am__ (blk_drew BK275.out)
                 replace BK277 := am__ (blk_drew BK277.out)
                 replace HB := am__ (below_drew1 HB.out)
                 have p278 : 0 ≤ ((ji34) : Int) := of_decide_eq_true (by first | (with_reducible assumption) | assumption)
                 have q278 : (ji34) < (l0_4.length : Int) := of_decide_eq_true (by first | (with_reducible assumption) | assumption)
                 obtain ⟨ad278, A278_3, c278_3, e278, hx278_0, hx278_1, hx278_2, hx278_3, hl278_3, hi278_3⟩ := at_T91 HR0_4.out (ji34) p278 q278
                 have hw278_3 := hx278_3
                 have hw278_2 := hx278_2
                 have hw278_1 := hx278_1
                 have hw278_0 := hx278_0
                 obtain rfl : ad276 = ad278 := (by injection e278)
                 try replace hx278_0 := hb__ HB.out hx278_0
                 try replace hx278_1 := hb__ HB.out hx278_1
                 try replace hx278_2 := hb__ HB.out hx278_2
                 try replace hx278_3 := hb__ HB.out hx278_3
                 have HR278_3 := Aside0.mk hi278_3
                 have HC278_3 := Aside0.mk hl278_3
                 clear hi278_3 hl278_3
                 replace p278 := eq_true p278
                 replace q278 := eq_true q278
                 refine st__ 51 (c7a__ BK270.out (c4a__ BK277.out (cha__ HB.out hw278_0 (cha__ HB.out hw278_1 (cha__ HB.out hw278_2 (che__ HB.out hw278_3)))))) fun hHeld => ?_; refine with_tabW impl_ValidState.tab7 impl_ValidState.bits7 (fun HT_ HW_ => ?_)
                 generalize w44.drew = w45 at BK270 BK275 BK277 HB HR278_3 hx278_0 hx278_1 hx278_2 hx278_3 hHeld ⊢
                 refine v_ 0 ?_
                 refine v_ 1 ?_
                 refine v_ 2 ?_
                 refine v_ 3 ?_
                 refine v_ 5 ?_
                 refine v_ 6 ?_
                 refine v_ 10 ?_
                 refine t_ 4 ?_
                 refine v_ 7 ?_
                 refine v_ 8 ?_
                 refine t_ 9 ?_
                 refine t_ 11 ?_
                 refine v_ 12 ?_
                 refine v_ 13 ?_
                 refine v_ 14 ?_
                 refine v_ 15 ?_
                 refine v_ 17 ?_
                 refine t_ 16 ?_
                 refine t_ 18 ?_
                 refine o_ 19 fun K hK => ?_
                 refine gs__ Try.func55 #[.agg #[.string ((rd_T91 l0_4 x64_2).f2.f0), .slice A276_3 ((rd_T91 l0_4 x64_2).f2.f1).length c276_3], .int .i64 a0_0] ?_
                 with_reducible refine (impl_thingOk.calls k2 ((rd_T91 l0_4 x64_2).f2.f0) _ _ ((rd_T91 l0_4 x64_2).f2.f1) a0_0 true _ ?side1 ?side2 A38.out).mono ?_
                 (case side1 => repeat (first | exact (Kd.C_below HR276_3.out HB.out) | (with_reducible refine Kd.C_alloc ?_ _) | (with_reducible refine Kd.C_drewN ?_ _) | (with_reducible refine Kd.C_drew ?_)))
                 (case side2 => exact HC276_3.out)
                 rintro e w46 ⟨rfl, hb⟩
                 refine ⟨_, rfl, ?_⟩
                 replace BK270 := am__ (blb__ BK270.out hb)
                 replace BK275 := am__ (blb__ BK275.out hb)
                 replace BK277 := am__ (blb__ BK277.out hb)
                 replace HB := am__ (below_step (bel__) hb)
                 (try clear hb)
                 (try clear hb2)
                 (try clear hk)
                 (try clear hi)
                 refine hK.out _ _ ⟨bc__ BK270.out 0, bc__ BK270.out 1, bc__ BK270.out 2, bc__ BK270.out 3, bc__ BK270.out 4, bc__ BK270.out 5, bc__ BK270.out 6, bc__ BK277.out 0, bc__ BK277.out 1, bc__ BK277.out 2, bc__ BK277.out 3, (hd__ HB.out hw278_0), (hd__ HB.out hw278_1), (hd__ HB.out hw278_2), (hd__ HB.out hw278_3)⟩ (fun hHeld => ?_)
                 clear hK K
                 refine na__ 88 ?_
                 refine v_ 20 ?_
                 refine v_ 21 ?_
                 refine v_ 22 ?_
                 refine v_ 23 ?_
                 refine v_ 25 ?_
                 refine v_ 28 ?_
                 refine t_ 24 ?_
                 refine t_ 26 ?_
                 refine t_ 29 ?_
                 refine o_ 27 fun K hK => ?_
                 refine gs__ Try.func57 #[.agg #[.string ((rd_T91 l0_4 x64_2).f2.f0), .slice A276_3 ((rd_T91 l0_4 x64_2).f2.f1).length c276_3]] ?_
                 with_reducible refine (impl_form.calls k2 ((rd_T91 l0_4 x64_2).f2.f0) _ _ ((rd_T91 l0_4 x64_2).f2.f1) t280 _ ?side1 ?side2 A40.out).mono ?_
                 (case side1 => repeat (first | exact (Kd.C_below HR276_3.out HB.out) | (with_reducible refine Kd.C_alloc ?_ _) | (with_reducible refine Kd.C_drewN ?_ _) | (with_reducible refine Kd.C_drew ?_)))
                 (case side2 => exact HC276_3.out)
                 rintro e w47 ⟨rfl, hb⟩
                 refine ⟨_, rfl, ?_⟩
                 replace BK270 := am__ (blb__ BK270.out hb)
                 replace BK275 := am__ (blb__ BK275.out hb)
                 replace BK277 := am__ (blb__ BK277.out hb)
                 replace HB := am__ (below_step (bel__) hb)
                 (try clear hb)
                 (try clear hb2)
                 (try clear hk)
                 (try clear hi)
                 refine hK.out _ _ ⟨bc__ BK270.out 0, bc__ BK270.out 1, bc__ BK270.out 2, bc__ BK270.out 3, bc__ BK270.out 4, bc__ BK270.out 5, bc__ BK270.out 6, bc__ BK277.out 0, bc__ BK277.out 1, bc__ BK277.out 2, bc__ BK277.out 3, (hd__ HB.out hw278_0), (hd__ HB.out hw278_1), (hd__ HB.out hw278_2), (hd__ HB.out hw278_3)⟩ (fun hHeld => ?_)
                 clear hK K
                 refine na__ 96 ?_
                 refine o_ 30 fun K hK => ?_
                 refine gs__ Try.func56 #[.string t280, .int .i64 a0_0] ?_
                 with_reducible refine (impl_Sum.calls k2 t280 a0_0 t281 _ A41.out).mono ?_
                 rintro e w48 ⟨rfl, hb⟩
                 refine ⟨_, rfl, ?_⟩
                 replace BK270 := am__ (blb__ BK270.out hb)
                 replace BK275 := am__ (blb__ BK275.out hb)
                 replace BK277 := am__ (blb__ BK277.out hb)
                 replace HB := am__ (below_step (bel__) hb)
                 (try clear hb)
                 (try clear hb2)
                 (try clear hk)
                 (try clear hi)
                 refine hK.out _ _ ⟨bc__ BK270.out 0, bc__ BK270.out 1, bc__ BK270.out 2, bc__ BK270.out 3, bc__ BK270.out 4, bc__ BK270.out 5, bc__ BK270.out 6, bc__ BK277.out 0, bc__ BK277.out 1, bc__ BK277.out 2, bc__ BK277.out 3, (hd__ HB.out hw278_0), (hd__ HB.out hw278_1), (hd__ HB.out hw278_2), (hd__ HB.out hw278_3)⟩ (fun hHeld => ?_)
                 clear hK K
                 refine na__ 99 ?_
                 refine v_ 31 ?_
                 refine v_ 32 ?_
                 refine v_ 33 ?_
                 refine v_ 34 ?_
                 refine t_ 35 ?_
                 refine v_ 36 ?_
                 refine v_ 37 ?_
                 refine v_ 38 ?_
                 refine u_ 39 ?_
                 refine u_ 40 ?_
                 refine u_ 41 ?_
                 refine u_ 42 ?_
                 refine u_ 43 ?_
                 refine v_ 44 ?_
                 refine v_ 45 ?_
                 refine u_ 46 ?_
                 refine u_ 47 ?_
                 refine u_ 48 ?_
                 refine u_ 49 ?_
                 refine v_ 50 ?_
                 refine done_ (done_of HT_.out (by kernel_rfl)) ?_
                 try go_wp2
                 go_meet
                 case rel => exact ⟨_, (true), (rf__), H', ⟨by have := HJ1.out; have := HK2.out; first | omega | exact Nat.le_refl _⟩, ⟨blk__ BK270.out⟩, ⟨blk__ BK275.out⟩, ⟨blk__ BK277.out⟩, ⟨bel__⟩⟩
                ·as_aux_lemma =>
                 rw [if_neg c43] at H
                 have c43b0 := decide_eq_false c43
                 clear c43
                 by_cases c49 : ((rd_T91 l0_4 x64_2).f1) > a0_3
                 ·as_aux_lemma =>
                  rw [if_pos c49] at H
                  have c49b0 : decide (a0_3 < ((rd_T91 l0_4 x64_2).f1)) = true := decide_eq_true c49
                  clear c49
                  have H' := Aside0.mk H
                  clear H
                  try go_wp2
                  obtain ⟨w50, hw_⟩ : ∃ W_, W_ = ((((w29.setCell ⟨gb277, 0, none⟩ (.string ((rd_T91 l0_4 x64_2).f0))).setCell ⟨gb277, 1, none⟩ (.int .i64 ((rd_T91 l0_4 x64_2).f1))).setCell ⟨gb277, 2, none⟩ (.string ((rd_T91 l0_4 x64_2).f2.f0))).setCell ⟨gb277, 3, none⟩ (.slice A276_3 ((rd_T91 l0_4 x64_2).f2.f1).length c276_3)) := ⟨_, rfl⟩
                  have n0_ : Aside0 (w50.heap[gb270]? = some (.cells #[.int .i64 a0_0, .int .i64 a0_1, .int .i64 a0_2, .int .i64 a0_3, .slice (some ad276) l0_4.length c0_4, .slice A0_5 l0_5.length c0_5, .slice A0_6 l0_6.length c0_6] 33 (0, 0))) := ⟨by rw [hw_]; exact blf4__ BK270.out⟩
                  have n1_ : Aside0 (w50.heap[gb275]? = some (mobj x276000_2)) := ⟨by rw [hw_]; exact bmf__ BK275.out⟩
                  have n2_ : Aside0 (w50.heap[gb277]? = some (.cells #[.string ((rd_T91 l0_4 x64_2).f0), .int .i64 ((rd_T91 l0_4 x64_2).f1), .string ((rd_T91 l0_4 x64_2).f2.f0), .slice A276_3 ((rd_T91 l0_4 x64_2).f2.f1).length c276_3] 91 (0, 0))) := ⟨by rw [hw_]; exact bpu__ BK277.out⟩
                  have n3_ : Aside0 (Below w.heap.size w w50) := ⟨by rw [hw_]; exact bel__⟩
                  rw [← hw_]
                  clear hw_
                  replace BK270 := n0_
                  replace BK275 := n1_
                  replace BK277 := n2_
                  replace HB := n3_
                  clear n0_ n1_ n2_ n3_
                  replace BK270 := am__ (blk_drew BK270.out)
                  replace BK275 := am__ (blk_drew BK275.out)
                  replace BK277 := am__ (blk_drew BK277.out)
                  replace HB := am__ (below_drew1 HB.out)
                  have p278 : 0 ≤ ((ji34) : Int) := of_decide_eq_true (by first | (with_reducible assumption) | assumption)
                  have q278 : (ji34) < (l0_4.length : Int) := of_decide_eq_true (by first | (with_reducible assumption) | assumption)
                  obtain ⟨ad278, A278_3, c278_3, e278, hx278_0, hx278_1, hx278_2, hx278_3, hl278_3, hi278_3⟩ := at_T91 HR0_4.out (ji34) p278 q278
                  have hw278_3 := hx278_3
                  have hw278_2 := hx278_2
                  have hw278_1 := hx278_1
                  have hw278_0 := hx278_0
                  obtain rfl : ad276 = ad278 := (by injection e278)
                  try replace hx278_0 := hb__ HB.out hx278_0
                  try replace hx278_1 := hb__ HB.out hx278_1
                  try replace hx278_2 := hb__ HB.out hx278_2
                  try replace hx278_3 := hb__ HB.out hx278_3
                  have HR278_3 := Aside0.mk hi278_3
                  have HC278_3 := Aside0.mk hl278_3
                  clear hi278_3 hl278_3
                  replace p278 := eq_true p278
                  replace q278 := eq_true q278
                  refine st__ 51 (c7a__ BK270.out (c4a__ BK277.out (cha__ HB.out hw278_0 (cha__ HB.out hw278_1 (cha__ HB.out hw278_2 (che__ HB.out hw278_3)))))) fun hHeld => ?_; refine with_tabW impl_ValidState.tab7 impl_ValidState.bits7 (fun HT_ HW_ => ?_)
                  generalize w50.drew = w51 at BK270 BK275 BK277 HB HR278_3 hx278_0 hx278_1 hx278_2 hx278_3 hHeld ⊢
                  refine v_ 0 ?_
                  refine v_ 1 ?_
                  refine v_ 2 ?_
                  refine v_ 3 ?_
                  refine v_ 5 ?_
                  refine v_ 6 ?_
                  refine v_ 10 ?_
                  refine t_ 4 ?_
                  refine v_ 7 ?_
                  refine v_ 8 ?_
                  refine t_ 9 ?_
                  refine t_ 11 ?_
                  refine v_ 12 ?_
                  refine v_ 13 ?_
                  refine v_ 14 ?_
                  refine v_ 15 ?_
                  refine v_ 17 ?_
                  refine t_ 16 ?_
                  refine t_ 18 ?_
                  refine o_ 19 fun K hK => ?_
                  refine gs__ Try.func55 #[.agg #[.string ((rd_T91 l0_4 x64_2).f2.f0), .slice A276_3 ((rd_T91 l0_4 x64_2).f2.f1).length c276_3], .int .i64 a0_0] ?_
                  with_reducible refine (impl_thingOk.calls k2 ((rd_T91 l0_4 x64_2).f2.f0) _ _ ((rd_T91 l0_4 x64_2).f2.f1) a0_0 true _ ?side1 ?side2 A38.out).mono ?_
                  (case side1 => repeat (first | exact (Kd.C_below HR276_3.out HB.out) | (with_reducible refine Kd.C_alloc ?_ _) | (with_reducible refine Kd.C_drewN ?_ _) | (with_reducible refine Kd.C_drew ?_)))
                  (case side2 => exact HC276_3.out)
                  rintro e w52 ⟨rfl, hb⟩
                  refine ⟨_, rfl, ?_⟩
                  replace BK270 := am__ (blb__ BK270.out hb)
                  replace BK275 := am__ (blb__ BK275.out hb)
                  replace BK277 := am__ (blb__ BK277.out hb)
                  replace HB := am__ (below_step (bel__) hb)
                  (try clear hb)
                  (try clear hb2)
                  (try clear hk)
                  (try clear hi)
                  refine hK.out _ _ ⟨bc__ BK270.out 0, bc__ BK270.out 1, bc__ BK270.out 2, bc__ BK270.out 3, bc__ BK270.out 4, bc__ BK270.out 5, bc__ BK270.out 6, bc__ BK277.out 0, bc__ BK277.out 1, bc__ BK277.out 2, bc__ BK277.out 3, (hd__ HB.out hw278_0), (hd__ HB.out hw278_1), (hd__ HB.out hw278_2), (hd__ HB.out hw278_3)⟩ (fun hHeld => ?_)
                  clear hK K
                  refine na__ 88 ?_
                  refine v_ 20 ?_
                  refine v_ 21 ?_
                  refine v_ 22 ?_
                  refine v_ 23 ?_
                  refine v_ 25 ?_
                  refine v_ 28 ?_
                  refine t_ 24 ?_
                  refine t_ 26 ?_
                  refine t_ 29 ?_
                  refine o_ 27 fun K hK => ?_
                  refine gs__ Try.func57 #[.agg #[.string ((rd_T91 l0_4 x64_2).f2.f0), .slice A276_3 ((rd_T91 l0_4 x64_2).f2.f1).length c276_3]] ?_
                  with_reducible refine (impl_form.calls k2 ((rd_T91 l0_4 x64_2).f2.f0) _ _ ((rd_T91 l0_4 x64_2).f2.f1) t280 _ ?side1 ?side2 A40.out).mono ?_
                  (case side1 => repeat (first | exact (Kd.C_below HR276_3.out HB.out) | (with_reducible refine Kd.C_alloc ?_ _) | (with_reducible refine Kd.C_drewN ?_ _) | (with_reducible refine Kd.C_drew ?_)))
                  (case side2 => exact HC276_3.out)
                  rintro e w53 ⟨rfl, hb⟩
                  refine ⟨_, rfl, ?_⟩
                  replace BK270 := am__ (blb__ BK270.out hb)
                  replace BK275 := am__ (blb__ BK275.out hb)
                  replace BK277 := am__ (blb__ BK277.out hb)
                  replace HB := am__ (below_step (bel__) hb)
                  (try clear hb)
                  (try clear hb2)
                  (try clear hk)
                  (try clear hi)
                  refine hK.out _ _ ⟨bc__ BK270.out 0, bc__ BK270.out 1, bc__ BK270.out 2, bc__ BK270.out 3, bc__ BK270.out 4, bc__ BK270.out 5, bc__ BK270.out 6, bc__ BK277.out 0, bc__ BK277.out 1, bc__ BK277.out 2, bc__ BK277.out 3, (hd__ HB.out hw278_0), (hd__ HB.out hw278_1), (hd__ HB.out hw278_2), (hd__ HB.out hw278_3)⟩ (fun hHeld => ?_)
                  clear hK K
                  refine na__ 96 ?_
                  refine o_ 30 fun K hK => ?_
                  refine gs__ Try.func56 #[.string t280, .int .i64 a0_0] ?_
                  with_reducible refine (impl_Sum.calls k2 t280 a0_0 t281 _ A41.out).mono ?_
                  rintro e w54 ⟨rfl, hb⟩
                  refine ⟨_, rfl, ?_⟩
                  replace BK270 := am__ (blb__ BK270.out hb)
                  replace BK275 := am__ (blb__ BK275.out hb)
                  replace BK277 := am__ (blb__ BK277.out hb)
                  replace HB := am__ (below_step (bel__) hb)
                  (try clear hb)
                  (try clear hb2)
                  (try clear hk)
                  (try clear hi)
                  refine hK.out _ _ ⟨bc__ BK270.out 0, bc__ BK270.out 1, bc__ BK270.out 2, bc__ BK270.out 3, bc__ BK270.out 4, bc__ BK270.out 5, bc__ BK270.out 6, bc__ BK277.out 0, bc__ BK277.out 1, bc__ BK277.out 2, bc__ BK277.out 3, (hd__ HB.out hw278_0), (hd__ HB.out hw278_1), (hd__ HB.out hw278_2), (hd__ HB.out hw278_3)⟩ (fun hHeld => ?_)
                  clear hK K
                  refine na__ 99 ?_
                  refine v_ 31 ?_
                  refine v_ 32 ?_
                  refine v_ 33 ?_
                  refine v_ 34 ?_
                  refine t_ 35 ?_
                  refine v_ 36 ?_
                  refine v_ 37 ?_
                  refine v_ 38 ?_
                  refine v_ 39 ?_
                  refine v_ 41 ?_
                  refine t_ 40 ?_
                  refine t_ 42 ?_
                  refine v_ 43 ?_
                  refine v_ 44 ?_
                  refine v_ 45 ?_
                  refine u_ 46 ?_
                  refine u_ 47 ?_
                  refine u_ 48 ?_
                  refine u_ 49 ?_
                  refine v_ 50 ?_
                  refine done_ (done_of HT_.out (by kernel_rfl)) ?_
                  try go_wp2
                  go_meet
                  case rel => exact ⟨_, (true), (rf__), H', ⟨by have := HJ1.out; have := HK2.out; first | omega | exact Nat.le_refl _⟩, ⟨blk__ BK270.out⟩, ⟨blk__ BK275.out⟩, ⟨blk__ BK277.out⟩, ⟨bel__⟩⟩
                 ·as_aux_lemma =>
                  rw [if_neg c49] at H
                  have c49b0 : decide (a0_3 < ((rd_T91 l0_4 x64_2).f1)) = false := decide_eq_false c49
                  clear c49
                  have H' := Aside0.mk H
                  clear H
                  try go_wp2
                  obtain ⟨w55, hw_⟩ : ∃ W_, W_ = ((((w29.setCell ⟨gb277, 0, none⟩ (.string ((rd_T91 l0_4 x64_2).f0))).setCell ⟨gb277, 1, none⟩ (.int .i64 ((rd_T91 l0_4 x64_2).f1))).setCell ⟨gb277, 2, none⟩ (.string ((rd_T91 l0_4 x64_2).f2.f0))).setCell ⟨gb277, 3, none⟩ (.slice A276_3 ((rd_T91 l0_4 x64_2).f2.f1).length c276_3)) := ⟨_, rfl⟩
                  have n0_ : Aside0 (w55.heap[gb270]? = some (.cells #[.int .i64 a0_0, .int .i64 a0_1, .int .i64 a0_2, .int .i64 a0_3, .slice (some ad276) l0_4.length c0_4, .slice A0_5 l0_5.length c0_5, .slice A0_6 l0_6.length c0_6] 33 (0, 0))) := ⟨by rw [hw_]; exact blf4__ BK270.out⟩
                  have n1_ : Aside0 (w55.heap[gb275]? = some (mobj x276000_2)) := ⟨by rw [hw_]; exact bmf__ BK275.out⟩
                  have n2_ : Aside0 (w55.heap[gb277]? = some (.cells #[.string ((rd_T91 l0_4 x64_2).f0), .int .i64 ((rd_T91 l0_4 x64_2).f1), .string ((rd_T91 l0_4 x64_2).f2.f0), .slice A276_3 ((rd_T91 l0_4 x64_2).f2.f1).length c276_3] 91 (0, 0))) := ⟨by rw [hw_]; exact bpu__ BK277.out⟩
                  have n3_ : Aside0 (Below w.heap.size w w55) := ⟨by rw [hw_]; exact bel__⟩
                  rw [← hw_]
                  clear hw_
                  replace BK270 := n0_
                  replace BK275 := n1_
                  replace BK277 := n2_
                  replace HB := n3_
                  clear n0_ n1_ n2_ n3_
                  replace BK270 := am__ (blk_drew BK270.out)
                  replace BK275 := am__ (blk_drew BK275.out)
                  replace BK277 := am__ (blk_drew BK277.out)
                  replace HB := am__ (below_drew1 HB.out)
                  have p278 : 0 ≤ ((ji34) : Int) := of_decide_eq_true (by first | (with_reducible assumption) | assumption)
                  have q278 : (ji34) < (l0_4.length : Int) := of_decide_eq_true (by first | (with_reducible assumption) | assumption)
                  obtain ⟨ad278, A278_3, c278_3, e278, hx278_0, hx278_1, hx278_2, hx278_3, hl278_3, hi278_3⟩ := at_T91 HR0_4.out (ji34) p278 q278
                  have hw278_3 := hx278_3
                  have hw278_2 := hx278_2
                  have hw278_1 := hx278_1
                  have hw278_0 := hx278_0
                  obtain rfl : ad276 = ad278 := (by injection e278)
                  try replace hx278_0 := hb__ HB.out hx278_0
                  try replace hx278_1 := hb__ HB.out hx278_1
                  try replace hx278_2 := hb__ HB.out hx278_2
                  try replace hx278_3 := hb__ HB.out hx278_3
                  have HR278_3 := Aside0.mk hi278_3
                  have HC278_3 := Aside0.mk hl278_3
                  clear hi278_3 hl278_3
                  replace p278 := eq_true p278
                  replace q278 := eq_true q278
                  refine st__ 51 (c7a__ BK270.out (c4a__ BK277.out (cma__ BK275.out (cha__ HB.out hw278_0 (cha__ HB.out hw278_1 (cha__ HB.out hw278_2 (che__ HB.out hw278_3))))))) fun hHeld => ?_; refine with_tabW impl_ValidState.tab7 impl_ValidState.bits7 (fun HT_ HW_ => ?_)
                  generalize w55.drew = w56 at BK270 BK275 BK277 HB HR278_3 hx278_0 hx278_1 hx278_2 hx278_3 hHeld ⊢
                  refine v_ 0 ?_
                  refine v_ 1 ?_
                  refine v_ 2 ?_
                  refine v_ 3 ?_
                  refine v_ 5 ?_
                  refine v_ 6 ?_
                  refine v_ 10 ?_
                  refine t_ 4 ?_
                  refine v_ 7 ?_
                  refine v_ 8 ?_
                  refine t_ 9 ?_
                  refine t_ 11 ?_
                  refine v_ 12 ?_
                  refine v_ 13 ?_
                  refine v_ 14 ?_
                  refine v_ 15 ?_
                  refine v_ 17 ?_
                  refine t_ 16 ?_
                  refine t_ 18 ?_
                  refine o_ 19 fun K hK => ?_
                  refine gs__ Try.func55 #[.agg #[.string ((rd_T91 l0_4 x64_2).f2.f0), .slice A276_3 ((rd_T91 l0_4 x64_2).f2.f1).length c276_3], .int .i64 a0_0] ?_
                  with_reducible refine (impl_thingOk.calls k2 ((rd_T91 l0_4 x64_2).f2.f0) _ _ ((rd_T91 l0_4 x64_2).f2.f1) a0_0 true _ ?side1 ?side2 A38.out).mono ?_
                  (case side1 => repeat (first | exact (Kd.C_below HR276_3.out HB.out) | (with_reducible refine Kd.C_alloc ?_ _) | (with_reducible refine Kd.C_drewN ?_ _) | (with_reducible refine Kd.C_drew ?_)))
                  (case side2 => exact HC276_3.out)
                  rintro e w57 ⟨rfl, hb⟩
                  refine ⟨_, rfl, ?_⟩
                  replace BK270 := am__ (blb__ BK270.out hb)
                  replace BK275 := am__ (blb__ BK275.out hb)
                  replace BK277 := am__ (blb__ BK277.out hb)
                  replace HB := am__ (below_step (bel__) hb)
                  (try clear hb)
                  (try clear hb2)
                  (try clear hk)
                  (try clear hi)
                  refine hK.out _ _ ⟨bc__ BK270.out 0, bc__ BK270.out 1, bc__ BK270.out 2, bc__ BK270.out 3, bc__ BK270.out 4, bc__ BK270.out 5, bc__ BK270.out 6, bc__ BK277.out 0, bc__ BK277.out 1, bc__ BK277.out 2, bc__ BK277.out 3, BK275.out, (hd__ HB.out hw278_0), (hd__ HB.out hw278_1), (hd__ HB.out hw278_2), (hd__ HB.out hw278_3)⟩ (fun hHeld => ?_)
                  clear hK K
                  refine na__ 88 ?_
                  refine v_ 20 ?_
                  refine v_ 21 ?_
                  refine v_ 22 ?_
                  refine v_ 23 ?_
                  refine v_ 25 ?_
                  refine v_ 28 ?_
                  refine t_ 24 ?_
                  refine t_ 26 ?_
                  refine t_ 29 ?_
                  refine o_ 27 fun K hK => ?_
                  refine gs__ Try.func57 #[.agg #[.string ((rd_T91 l0_4 x64_2).f2.f0), .slice A276_3 ((rd_T91 l0_4 x64_2).f2.f1).length c276_3]] ?_
                  with_reducible refine (impl_form.calls k2 ((rd_T91 l0_4 x64_2).f2.f0) _ _ ((rd_T91 l0_4 x64_2).f2.f1) t280 _ ?side1 ?side2 A40.out).mono ?_
                  (case side1 => repeat (first | exact (Kd.C_below HR276_3.out HB.out) | (with_reducible refine Kd.C_alloc ?_ _) | (with_reducible refine Kd.C_drewN ?_ _) | (with_reducible refine Kd.C_drew ?_)))
                  (case side2 => exact HC276_3.out)
                  rintro e w58 ⟨rfl, hb⟩
                  refine ⟨_, rfl, ?_⟩
                  replace BK270 := am__ (blb__ BK270.out hb)
                  replace BK275 := am__ (blb__ BK275.out hb)
                  replace BK277 := am__ (blb__ BK277.out hb)
                  replace HB := am__ (below_step (bel__) hb)
                  (try clear hb)
                  (try clear hb2)
                  (try clear hk)
                  (try clear hi)
                  refine hK.out _ _ ⟨bc__ BK270.out 0, bc__ BK270.out 1, bc__ BK270.out 2, bc__ BK270.out 3, bc__ BK270.out 4, bc__ BK270.out 5, bc__ BK270.out 6, bc__ BK277.out 0, bc__ BK277.out 1, bc__ BK277.out 2, bc__ BK277.out 3, BK275.out, (hd__ HB.out hw278_0), (hd__ HB.out hw278_1), (hd__ HB.out hw278_2), (hd__ HB.out hw278_3)⟩ (fun hHeld => ?_)
                  clear hK K
                  refine na__ 96 ?_
                  refine o_ 30 fun K hK => ?_
                  refine gs__ Try.func56 #[.string t280, .int .i64 a0_0] ?_
                  with_reducible refine (impl_Sum.calls k2 t280 a0_0 t281 _ A41.out).mono ?_
                  rintro e w59 ⟨rfl, hb⟩
                  refine ⟨_, rfl, ?_⟩
                  replace BK270 := am__ (blb__ BK270.out hb)
                  replace BK275 := am__ (blb__ BK275.out hb)
                  replace BK277 := am__ (blb__ BK277.out hb)
                  replace HB := am__ (below_step (bel__) hb)
                  (try clear hb)
                  (try clear hb2)
                  (try clear hk)
                  (try clear hi)
                  refine hK.out _ _ ⟨bc__ BK270.out 0, bc__ BK270.out 1, bc__ BK270.out 2, bc__ BK270.out 3, bc__ BK270.out 4, bc__ BK270.out 5, bc__ BK270.out 6, bc__ BK277.out 0, bc__ BK277.out 1, bc__ BK277.out 2, bc__ BK277.out 3, BK275.out, (hd__ HB.out hw278_0), (hd__ HB.out hw278_1), (hd__ HB.out hw278_2), (hd__ HB.out hw278_3)⟩ (fun hHeld => ?_)
                  clear hK K
                  refine na__ 99 ?_
                  refine v_ 31 ?_
                  refine v_ 32 ?_
                  refine v_ 33 ?_
                  refine v_ 34 ?_
                  refine t_ 35 ?_
                  refine v_ 36 ?_
                  refine v_ 37 ?_
                  refine v_ 38 ?_
                  refine v_ 39 ?_
                  refine v_ 41 ?_
                  refine t_ 40 ?_
                  refine t_ 42 ?_
                  refine v_ 43 ?_
                  refine v_ 44 ?_
                  refine v_ 45 ?_
                  refine v_ 46 ?_
                  refine v_ 47 ?_
                  refine t_ 48 ?_
                  refine take_ (i := 49) (N := some 118) (v := ?_) (a' := ?_) (mk__ 51 1125899906842623) rfl rfl (take_ofW HT_.out HW_.out (by kernel_rfl)) (fun _ _ _ h => h) (Or.inl ⟨by rfl, ?_⟩) hHeld ?_ ?_
                  rotate_left
                  ·rintro w' ⟨s0, s1, s2, s3, s4, s5, s6, s7, s8, s9, s10, s11, s12, s13, s14, s15⟩
                   refine Eq.trans (look_exec s11 (by rfl) Try.underlying89 Try.underlying3 (by kernel_rfl) (by rfl) (by rfl)) ?_
                   with_reducible rfl
                  rotate_left
                  ·simp only [Act.put, List.setIfInBounds_toArray, List.set_cons_zero, List.set_cons_succ, i64_w, i32_w]
                   rfl
                  refine v_ 50 ?_
                  refine done_ (done_of HT_.out (by kernel_rfl)) ?_
                  try go_wp2
                  go_meet
                  case rel => exact ⟨_, (x276000_2.contains ((rd_T91 l0_4 x64_2).f1)), (rf__), H', ⟨by have := HJ1.out; have := HK2.out; first | omega | exact Nat.le_refl _⟩, ⟨blk__ BK270.out⟩, ⟨blk__ BK275.out⟩, ⟨blk__ BK277.out⟩, ⟨bel__⟩⟩
               ·as_aux_lemma =>
                rw [if_neg c42] at H
                have c42b0 : (((rd_T91 l0_4 x64_2).f0).toList == t281.toList) = false := beq_eq_false_iff_ne.mpr c42
                have c42b1 : (((rd_T91 l0_4 x64_2).f0).toList != t281.toList) = true := bne_iff_ne.mpr c42
                have H' := Aside0.mk H
                clear H
                try go_wp2
                obtain ⟨w60, hw_⟩ : ∃ W_, W_ = ((((w29.setCell ⟨gb277, 0, none⟩ (.string ((rd_T91 l0_4 x64_2).f0))).setCell ⟨gb277, 1, none⟩ (.int .i64 ((rd_T91 l0_4 x64_2).f1))).setCell ⟨gb277, 2, none⟩ (.string ((rd_T91 l0_4 x64_2).f2.f0))).setCell ⟨gb277, 3, none⟩ (.slice A276_3 ((rd_T91 l0_4 x64_2).f2.f1).length c276_3)) := ⟨_, rfl⟩
                have n0_ : Aside0 (w60.heap[gb270]? = some (.cells #[.int .i64 a0_0, .int .i64 a0_1, .int .i64 a0_2, .int .i64 a0_3, .slice (some ad276) l0_4.length c0_4, .slice A0_5 l0_5.length c0_5, .slice A0_6 l0_6.length c0_6] 33 (0, 0))) := ⟨by rw [hw_]; exact blf4__ BK270.out⟩
                have n1_ : Aside0 (w60.heap[gb275]? = some (mobj x276000_2)) := ⟨by rw [hw_]; exact bmf__ BK275.out⟩
                have n2_ : Aside0 (w60.heap[gb277]? = some (.cells #[.string ((rd_T91 l0_4 x64_2).f0), .int .i64 ((rd_T91 l0_4 x64_2).f1), .string ((rd_T91 l0_4 x64_2).f2.f0), .slice A276_3 ((rd_T91 l0_4 x64_2).f2.f1).length c276_3] 91 (0, 0))) := ⟨by rw [hw_]; exact bpu__ BK277.out⟩
                have n3_ : Aside0 (Below w.heap.size w w60) := ⟨by rw [hw_]; exact bel__⟩
                rw [← hw_]
                clear hw_
                replace BK270 := n0_
                replace BK275 := n1_
                replace BK277 := n2_
                replace HB := n3_
                clear n0_ n1_ n2_ n3_
                replace BK270 := am__ (blk_drew BK270.out)
                replace BK275 := am__ (blk_drew BK275.out)
                replace BK277 := am__ (blk_drew BK277.out)
                replace HB := am__ (below_drew1 HB.out)
                have p278 : 0 ≤ ((ji34) : Int) := of_decide_eq_true (by first | (with_reducible assumption) | assumption)
                have q278 : (ji34) < (l0_4.length : Int) := of_decide_eq_true (by first | (with_reducible assumption) | assumption)
                obtain ⟨ad278, A278_3, c278_3, e278, hx278_0, hx278_1, hx278_2, hx278_3, hl278_3, hi278_3⟩ := at_T91 HR0_4.out (ji34) p278 q278
                have hw278_3 := hx278_3
                have hw278_2 := hx278_2
                have hw278_1 := hx278_1
                have hw278_0 := hx278_0
                obtain rfl : ad276 = ad278 := (by injection e278)
                try replace hx278_0 := hb__ HB.out hx278_0
                try replace hx278_1 := hb__ HB.out hx278_1
                try replace hx278_2 := hb__ HB.out hx278_2
                try replace hx278_3 := hb__ HB.out hx278_3
                have HR278_3 := Aside0.mk hi278_3
                have HC278_3 := Aside0.mk hl278_3
                clear hi278_3 hl278_3
                replace p278 := eq_true p278
                replace q278 := eq_true q278
                refine st__ 51 (c7a__ BK270.out (c4a__ BK277.out (cha__ HB.out hw278_0 (cha__ HB.out hw278_1 (cha__ HB.out hw278_2 (che__ HB.out hw278_3)))))) fun hHeld => ?_; refine with_tabW impl_ValidState.tab7 impl_ValidState.bits7 (fun HT_ HW_ => ?_)
                generalize w60.drew = w61 at BK270 BK275 BK277 HB HR278_3 hx278_0 hx278_1 hx278_2 hx278_3 hHeld ⊢
                refine v_ 0 ?_
                refine v_ 1 ?_
                refine v_ 2 ?_
                refine v_ 3 ?_
                refine v_ 5 ?_
                refine v_ 6 ?_
                refine v_ 10 ?_
                refine t_ 4 ?_
                refine v_ 7 ?_
                refine v_ 8 ?_
                refine t_ 9 ?_
                refine t_ 11 ?_
                refine v_ 12 ?_
                refine v_ 13 ?_
                refine v_ 14 ?_
                refine v_ 15 ?_
                refine v_ 17 ?_
                refine t_ 16 ?_
                refine t_ 18 ?_
                refine o_ 19 fun K hK => ?_
                refine gs__ Try.func55 #[.agg #[.string ((rd_T91 l0_4 x64_2).f2.f0), .slice A276_3 ((rd_T91 l0_4 x64_2).f2.f1).length c276_3], .int .i64 a0_0] ?_
                with_reducible refine (impl_thingOk.calls k2 ((rd_T91 l0_4 x64_2).f2.f0) _ _ ((rd_T91 l0_4 x64_2).f2.f1) a0_0 true _ ?side1 ?side2 A38.out).mono ?_
                (case side1 => repeat (first | exact (Kd.C_below HR276_3.out HB.out) | (with_reducible refine Kd.C_alloc ?_ _) | (with_reducible refine Kd.C_drewN ?_ _) | (with_reducible refine Kd.C_drew ?_)))
                (case side2 => exact HC276_3.out)
                rintro e w62 ⟨rfl, hb⟩
                refine ⟨_, rfl, ?_⟩
                replace BK270 := am__ (blb__ BK270.out hb)
                replace BK275 := am__ (blb__ BK275.out hb)
                replace BK277 := am__ (blb__ BK277.out hb)
                replace HB := am__ (below_step (bel__) hb)
                (try clear hb)
                (try clear hb2)
                (try clear hk)
                (try clear hi)
                refine hK.out _ _ ⟨bc__ BK270.out 0, bc__ BK270.out 1, bc__ BK270.out 2, bc__ BK270.out 3, bc__ BK270.out 4, bc__ BK270.out 5, bc__ BK270.out 6, bc__ BK277.out 0, bc__ BK277.out 1, bc__ BK277.out 2, bc__ BK277.out 3, (hd__ HB.out hw278_0), (hd__ HB.out hw278_1), (hd__ HB.out hw278_2), (hd__ HB.out hw278_3)⟩ (fun hHeld => ?_)
                clear hK K
                refine na__ 88 ?_
                refine v_ 20 ?_
                refine v_ 21 ?_
                refine v_ 22 ?_
                refine v_ 23 ?_
                refine v_ 25 ?_
                refine v_ 28 ?_
                refine t_ 24 ?_
                refine t_ 26 ?_
                refine t_ 29 ?_
                refine o_ 27 fun K hK => ?_
                refine gs__ Try.func57 #[.agg #[.string ((rd_T91 l0_4 x64_2).f2.f0), .slice A276_3 ((rd_T91 l0_4 x64_2).f2.f1).length c276_3]] ?_
                with_reducible refine (impl_form.calls k2 ((rd_T91 l0_4 x64_2).f2.f0) _ _ ((rd_T91 l0_4 x64_2).f2.f1) t280 _ ?side1 ?side2 A40.out).mono ?_
                (case side1 => repeat (first | exact (Kd.C_below HR276_3.out HB.out) | (with_reducible refine Kd.C_alloc ?_ _) | (with_reducible refine Kd.C_drewN ?_ _) | (with_reducible refine Kd.C_drew ?_)))
                (case side2 => exact HC276_3.out)
                rintro e w63 ⟨rfl, hb⟩
                refine ⟨_, rfl, ?_⟩
                replace BK270 := am__ (blb__ BK270.out hb)
                replace BK275 := am__ (blb__ BK275.out hb)
                replace BK277 := am__ (blb__ BK277.out hb)
                replace HB := am__ (below_step (bel__) hb)
                (try clear hb)
                (try clear hb2)
                (try clear hk)
                (try clear hi)
                refine hK.out _ _ ⟨bc__ BK270.out 0, bc__ BK270.out 1, bc__ BK270.out 2, bc__ BK270.out 3, bc__ BK270.out 4, bc__ BK270.out 5, bc__ BK270.out 6, bc__ BK277.out 0, bc__ BK277.out 1, bc__ BK277.out 2, bc__ BK277.out 3, (hd__ HB.out hw278_0), (hd__ HB.out hw278_1), (hd__ HB.out hw278_2), (hd__ HB.out hw278_3)⟩ (fun hHeld => ?_)
                clear hK K
                refine na__ 96 ?_
                refine o_ 30 fun K hK => ?_
                refine gs__ Try.func56 #[.string t280, .int .i64 a0_0] ?_
                with_reducible refine (impl_Sum.calls k2 t280 a0_0 t281 _ A41.out).mono ?_
                rintro e w64 ⟨rfl, hb⟩
                refine ⟨_, rfl, ?_⟩
                replace BK270 := am__ (blb__ BK270.out hb)
                replace BK275 := am__ (blb__ BK275.out hb)
                replace BK277 := am__ (blb__ BK277.out hb)
                replace HB := am__ (below_step (bel__) hb)
                (try clear hb)
                (try clear hb2)
                (try clear hk)
                (try clear hi)
                refine hK.out _ _ ⟨bc__ BK270.out 0, bc__ BK270.out 1, bc__ BK270.out 2, bc__ BK270.out 3, bc__ BK270.out 4, bc__ BK270.out 5, bc__ BK270.out 6, bc__ BK277.out 0, bc__ BK277.out 1, bc__ BK277.out 2, bc__ BK277.out 3, (hd__ HB.out hw278_0), (hd__ HB.out hw278_1), (hd__ HB.out hw278_2), (hd__ HB.out hw278_3)⟩ (fun hHeld => ?_)
                clear hK K
                refine na__ 99 ?_
                refine v_ 31 ?_
                refine v_ 32 ?_
                refine v_ 33 ?_
                refine u_ 34 ?_
                refine u_ 35 ?_
                refine u_ 36 ?_
                refine v_ 37 ?_
                refine v_ 38 ?_
                refine u_ 39 ?_
                refine u_ 40 ?_
                refine u_ 41 ?_
                refine u_ 42 ?_
                refine u_ 43 ?_
                refine v_ 44 ?_
                refine v_ 45 ?_
                refine u_ 46 ?_
                refine u_ 47 ?_
                refine u_ 48 ?_
                refine u_ 49 ?_
                refine v_ 50 ?_
                refine done_ (done_of HT_.out (by kernel_rfl)) ?_
                try go_wp2
                go_meet
                case rel => exact ⟨_, (true), (rf__), H', ⟨by have := HJ1.out; have := HK2.out; first | omega | exact Nat.le_refl _⟩, ⟨blk__ BK270.out⟩, ⟨blk__ BK275.out⟩, ⟨blk__ BK277.out⟩, ⟨bel__⟩⟩
              ·as_aux_lemma =>
               replace c39 := Bool.eq_false_iff.mpr c39
               subst c39
               have H1 : (impl_ValidState.j2 k2 l0_4 (l0_4.length : Int) x64_2 true a0_0 a0_1 a0_2 a0_3 l0_4 l0_5 l0_6 x276000_2) = some r := by rw [if_neg (show ¬ (false = true) by decide)] at H; exact H
               clear H
               have H := H1
               clear H1
               have H' := Aside0.mk H
               clear H
               try go_wp2
               obtain ⟨w65, hw_⟩ : ∃ W_, W_ = ((((w29.setCell ⟨gb277, 0, none⟩ (.string ((rd_T91 l0_4 x64_2).f0))).setCell ⟨gb277, 1, none⟩ (.int .i64 ((rd_T91 l0_4 x64_2).f1))).setCell ⟨gb277, 2, none⟩ (.string ((rd_T91 l0_4 x64_2).f2.f0))).setCell ⟨gb277, 3, none⟩ (.slice A276_3 ((rd_T91 l0_4 x64_2).f2.f1).length c276_3)) := ⟨_, rfl⟩
               have n0_ : Aside0 (w65.heap[gb270]? = some (.cells #[.int .i64 a0_0, .int .i64 a0_1, .int .i64 a0_2, .int .i64 a0_3, .slice (some ad276) l0_4.length c0_4, .slice A0_5 l0_5.length c0_5, .slice A0_6 l0_6.length c0_6] 33 (0, 0))) := ⟨by rw [hw_]; exact blf4__ BK270.out⟩
               have n1_ : Aside0 (w65.heap[gb275]? = some (mobj x276000_2)) := ⟨by rw [hw_]; exact bmf__ BK275.out⟩
               have n2_ : Aside0 (w65.heap[gb277]? = some (.cells #[.string ((rd_T91 l0_4 x64_2).f0), .int .i64 ((rd_T91 l0_4 x64_2).f1), .string ((rd_T91 l0_4 x64_2).f2.f0), .slice A276_3 ((rd_T91 l0_4 x64_2).f2.f1).length c276_3] 91 (0, 0))) := ⟨by rw [hw_]; exact bpu__ BK277.out⟩
               have n3_ : Aside0 (Below w.heap.size w w65) := ⟨by rw [hw_]; exact bel__⟩
               rw [← hw_]
               clear hw_
               replace BK270 := n0_
               replace BK275 := n1_
               replace BK277 := n2_
               replace HB := n3_
               clear n0_ n1_ n2_ n3_
               replace BK270 := am__ (blk_drew BK270.out)
               replace BK275 := am__ (blk_drew BK275.out)
               replace BK277 := am__ (blk_drew BK277.out)
               replace HB := am__ (below_drew1 HB.out)
               have p278 : 0 ≤ ((ji34) : Int) := of_decide_eq_true (by first | (with_reducible assumption) | assumption)
               have q278 : (ji34) < (l0_4.length : Int) := of_decide_eq_true (by first | (with_reducible assumption) | assumption)
               obtain ⟨ad278, A278_3, c278_3, e278, hx278_0, hx278_1, hx278_2, hx278_3, hl278_3, hi278_3⟩ := at_T91 HR0_4.out (ji34) p278 q278
               have hw278_3 := hx278_3
               have hw278_2 := hx278_2
               have hw278_1 := hx278_1
               have hw278_0 := hx278_0
               obtain rfl : ad276 = ad278 := (by injection e278)
               try replace hx278_0 := hb__ HB.out hx278_0
               try replace hx278_1 := hb__ HB.out hx278_1
               try replace hx278_2 := hb__ HB.out hx278_2
               try replace hx278_3 := hb__ HB.out hx278_3
               have HR278_3 := Aside0.mk hi278_3
               have HC278_3 := Aside0.mk hl278_3
               clear hi278_3 hl278_3
               replace p278 := eq_true p278
               replace q278 := eq_true q278
               refine st__ 51 (c7a__ BK270.out (c4a__ BK277.out (cha__ HB.out hw278_0 (cha__ HB.out hw278_1 (cha__ HB.out hw278_2 (che__ HB.out hw278_3)))))) fun hHeld => ?_; refine with_tabW impl_ValidState.tab7 impl_ValidState.bits7 (fun HT_ HW_ => ?_)
               generalize w65.drew = w66 at BK270 BK275 BK277 HB HR278_3 hx278_0 hx278_1 hx278_2 hx278_3 hHeld ⊢
               refine v_ 0 ?_
               refine v_ 1 ?_
               refine v_ 2 ?_
               refine v_ 3 ?_
               refine v_ 5 ?_
               refine v_ 6 ?_
               refine v_ 10 ?_
               refine t_ 4 ?_
               refine v_ 7 ?_
               refine v_ 8 ?_
               refine t_ 9 ?_
               refine t_ 11 ?_
               refine v_ 12 ?_
               refine v_ 13 ?_
               refine v_ 14 ?_
               refine v_ 15 ?_
               refine v_ 17 ?_
               refine t_ 16 ?_
               refine t_ 18 ?_
               refine o_ 19 fun K hK => ?_
               refine gs__ Try.func55 #[.agg #[.string ((rd_T91 l0_4 x64_2).f2.f0), .slice A276_3 ((rd_T91 l0_4 x64_2).f2.f1).length c276_3], .int .i64 a0_0] ?_
               with_reducible refine (impl_thingOk.calls k2 ((rd_T91 l0_4 x64_2).f2.f0) _ _ ((rd_T91 l0_4 x64_2).f2.f1) a0_0 false _ ?side1 ?side2 A38.out).mono ?_
               (case side1 => repeat (first | exact (Kd.C_below HR276_3.out HB.out) | (with_reducible refine Kd.C_alloc ?_ _) | (with_reducible refine Kd.C_drewN ?_ _) | (with_reducible refine Kd.C_drew ?_)))
               (case side2 => exact HC276_3.out)
               rintro e w67 ⟨rfl, hb⟩
               refine ⟨_, rfl, ?_⟩
               replace BK270 := am__ (blb__ BK270.out hb)
               replace BK275 := am__ (blb__ BK275.out hb)
               replace BK277 := am__ (blb__ BK277.out hb)
               replace HB := am__ (below_step (bel__) hb)
               (try clear hb)
               (try clear hb2)
               (try clear hk)
               (try clear hi)
               refine hK.out _ _ ⟨bc__ BK270.out 0, bc__ BK270.out 1, bc__ BK270.out 2, bc__ BK270.out 3, bc__ BK270.out 4, bc__ BK270.out 5, bc__ BK270.out 6, bc__ BK277.out 0, bc__ BK277.out 1, bc__ BK277.out 2, bc__ BK277.out 3, (hd__ HB.out hw278_0), (hd__ HB.out hw278_1), (hd__ HB.out hw278_2), (hd__ HB.out hw278_3)⟩ (fun hHeld => ?_)
               clear hK K
               refine na__ 88 ?_
               refine v_ 20 ?_
               refine v_ 21 ?_
               refine v_ 22 ?_
               refine u_ 23 ?_
               refine u_ 24 ?_
               refine u_ 25 ?_
               refine u_ 26 ?_
               refine u_ 27 ?_
               refine u_ 28 ?_
               refine u_ 29 ?_
               refine u_ 30 ?_
               refine u_ 31 ?_
               refine v_ 32 ?_
               refine v_ 33 ?_
               refine u_ 34 ?_
               refine u_ 35 ?_
               refine u_ 36 ?_
               refine v_ 37 ?_
               refine v_ 38 ?_
               refine u_ 39 ?_
               refine u_ 40 ?_
               refine u_ 41 ?_
               refine u_ 42 ?_
               refine u_ 43 ?_
               refine v_ 44 ?_
               refine v_ 45 ?_
               refine u_ 46 ?_
               refine u_ 47 ?_
               refine u_ 48 ?_
               refine u_ 49 ?_
               refine v_ 50 ?_
               refine done_ (done_of HT_.out (by kernel_rfl)) ?_
               try go_wp2
               go_meet
               case rel => exact ⟨_, (true), (rf__), H', ⟨by have := HJ1.out; have := HK2.out; first | omega | exact Nat.le_refl _⟩, ⟨blk__ BK270.out⟩, ⟨blk__ BK275.out⟩, ⟨blk__ BK277.out⟩, ⟨bel__⟩⟩
             ·as_aux_lemma =>
              rw [if_neg c37] at H
              have c37b0 : (Op.bytesLess (((rd_T91 l0_4 (ji34)).f0).toList) (((rd_T91 l0_4 x64_2).f0).toList)) = false := by simpa using c37
              clear c37
              have H' := Aside0.mk H
              clear H
              try go_wp2
              obtain ⟨w68, hw_⟩ : ∃ W_, W_ = ((((w29.setCell ⟨gb277, 0, none⟩ (.string ((rd_T91 l0_4 x64_2).f0))).setCell ⟨gb277, 1, none⟩ (.int .i64 ((rd_T91 l0_4 x64_2).f1))).setCell ⟨gb277, 2, none⟩ (.string ((rd_T91 l0_4 x64_2).f2.f0))).setCell ⟨gb277, 3, none⟩ (.slice A276_3 ((rd_T91 l0_4 x64_2).f2.f1).length c276_3)) := ⟨_, rfl⟩
              have n0_ : Aside0 (w68.heap[gb270]? = some (.cells #[.int .i64 a0_0, .int .i64 a0_1, .int .i64 a0_2, .int .i64 a0_3, .slice (some ad276) l0_4.length c0_4, .slice A0_5 l0_5.length c0_5, .slice A0_6 l0_6.length c0_6] 33 (0, 0))) := ⟨by rw [hw_]; exact blf4__ BK270.out⟩
              have n1_ : Aside0 (w68.heap[gb275]? = some (mobj x276000_2)) := ⟨by rw [hw_]; exact bmf__ BK275.out⟩
              have n2_ : Aside0 (w68.heap[gb277]? = some (.cells #[.string ((rd_T91 l0_4 x64_2).f0), .int .i64 ((rd_T91 l0_4 x64_2).f1), .string ((rd_T91 l0_4 x64_2).f2.f0), .slice A276_3 ((rd_T91 l0_4 x64_2).f2.f1).length c276_3] 91 (0, 0))) := ⟨by rw [hw_]; exact bpu__ BK277.out⟩
              have n3_ : Aside0 (Below w.heap.size w w68) := ⟨by rw [hw_]; exact bel__⟩
              rw [← hw_]
              clear hw_
              replace BK270 := n0_
              replace BK275 := n1_
              replace BK277 := n2_
              replace HB := n3_
              clear n0_ n1_ n2_ n3_
              replace BK270 := am__ (blk_drew BK270.out)
              replace BK275 := am__ (blk_drew BK275.out)
              replace BK277 := am__ (blk_drew BK277.out)
              replace HB := am__ (below_drew1 HB.out)
              have p278 : 0 ≤ ((ji34) : Int) := of_decide_eq_true (by first | (with_reducible assumption) | assumption)
              have q278 : (ji34) < (l0_4.length : Int) := of_decide_eq_true (by first | (with_reducible assumption) | assumption)
              obtain ⟨ad278, A278_3, c278_3, e278, hx278_0, hx278_1, hx278_2, hx278_3, hl278_3, hi278_3⟩ := at_T91 HR0_4.out (ji34) p278 q278
              have hw278_3 := hx278_3
              have hw278_2 := hx278_2
              have hw278_1 := hx278_1
              have hw278_0 := hx278_0
              obtain rfl : ad276 = ad278 := (by injection e278)
              try replace hx278_0 := hb__ HB.out hx278_0
              try replace hx278_1 := hb__ HB.out hx278_1
              try replace hx278_2 := hb__ HB.out hx278_2
              try replace hx278_3 := hb__ HB.out hx278_3
              have HR278_3 := Aside0.mk hi278_3
              have HC278_3 := Aside0.mk hl278_3
              clear hi278_3 hl278_3
              replace p278 := eq_true p278
              replace q278 := eq_true q278
              refine st__ 51 (c7a__ BK270.out (c4a__ BK277.out (cha__ HB.out hw278_0 (cha__ HB.out hw278_1 (cha__ HB.out hw278_2 (che__ HB.out hw278_3)))))) fun hHeld => ?_; refine with_tabW impl_ValidState.tab7 impl_ValidState.bits7 (fun HT_ HW_ => ?_)
              generalize w68.drew = w69 at BK270 BK275 BK277 HB HR278_3 hx278_0 hx278_1 hx278_2 hx278_3 hHeld ⊢
              refine v_ 0 ?_
              refine v_ 1 ?_
              refine v_ 2 ?_
              refine v_ 3 ?_
              refine v_ 5 ?_
              refine v_ 6 ?_
              refine v_ 10 ?_
              refine t_ 4 ?_
              refine v_ 7 ?_
              refine v_ 8 ?_
              refine t_ 9 ?_
              refine t_ 11 ?_
              refine v_ 12 ?_
              refine v_ 13 ?_
              refine v_ 14 ?_
              refine u_ 15 ?_
              refine u_ 16 ?_
              refine u_ 17 ?_
              refine u_ 18 ?_
              refine u_ 19 ?_
              refine u_ 20 ?_
              refine v_ 21 ?_
              refine v_ 22 ?_
              refine u_ 23 ?_
              refine u_ 24 ?_
              refine u_ 25 ?_
              refine u_ 26 ?_
              refine u_ 27 ?_
              refine u_ 28 ?_
              refine u_ 29 ?_
              refine u_ 30 ?_
              refine u_ 31 ?_
              refine v_ 32 ?_
              refine v_ 33 ?_
              refine u_ 34 ?_
              refine u_ 35 ?_
              refine u_ 36 ?_
              refine v_ 37 ?_
              refine v_ 38 ?_
              refine u_ 39 ?_
              refine u_ 40 ?_
              refine u_ 41 ?_
              refine u_ 42 ?_
              refine u_ 43 ?_
              refine v_ 44 ?_
              refine v_ 45 ?_
              refine u_ 46 ?_
              refine u_ 47 ?_
              refine u_ 48 ?_
              refine u_ 49 ?_
              refine v_ 50 ?_
              refine done_ (done_of HT_.out (by kernel_rfl)) ?_
              try go_wp2
              go_meet
              case rel => exact ⟨_, (true), (rf__), H', ⟨by have := HJ1.out; have := HK2.out; first | omega | exact Nat.le_refl _⟩, ⟨blk__ BK270.out⟩, ⟨blk__ BK275.out⟩, ⟨blk__ BK277.out⟩, ⟨bel__⟩⟩
            ·rw [if_neg c36] at H
             exact absurd H (by simp)
           ·rw [if_neg c35] at H
            exact absurd H (by simp)
          ·as_aux_lemma =>
           rw [if_neg c33] at H
           have c33b0 : decide (0 < x64_2) = false := decide_eq_false c33
           clear c33
           (first | rw [c33b0] | (simp only [i64_w, i32_w]; rw [c33b0]) | skip)
           replace H := Option.bind_eq_some_iff.mp H
           obtain ⟨t282, A700, H⟩ := H
           have A70 := Aside0.mk A700
           clear A700
           by_cases c71 : t282 = true
           ·as_aux_lemma =>
            subst c71
            rw [if_pos rfl] at H
            replace H := Option.bind_eq_some_iff.mp H
            obtain ⟨t283, A720, H⟩ := H
            have A72 := Aside0.mk A720
            clear A720
            replace H := Option.bind_eq_some_iff.mp H
            obtain ⟨t284, A730, H⟩ := H
            have A73 := Aside0.mk A730
            clear A730
            by_cases c74 : ((rd_T91 l0_4 x64_2).f0).toList = t284.toList
            ·as_aux_lemma =>
             rw [if_pos c74] at H
             have c74b0 : (((rd_T91 l0_4 x64_2).f0).toList == t284.toList) = true := beq_iff_eq.mpr c74
             have c74b1 : (((rd_T91 l0_4 x64_2).f0).toList != t284.toList) = false := bne_eq_false_iff_eq.mpr c74
             clear c74
             by_cases c75 : ((rd_T91 l0_4 x64_2).f1) < 1
             ·as_aux_lemma =>
              rw [if_pos c75] at H
              have c75b0 := decide_eq_true c75
              clear c75
              have H' := Aside0.mk H
              clear H
              try go_wp2
              obtain ⟨w76, hw_⟩ : ∃ W_, W_ = ((((w29.setCell ⟨gb277, 0, none⟩ (.string ((rd_T91 l0_4 x64_2).f0))).setCell ⟨gb277, 1, none⟩ (.int .i64 ((rd_T91 l0_4 x64_2).f1))).setCell ⟨gb277, 2, none⟩ (.string ((rd_T91 l0_4 x64_2).f2.f0))).setCell ⟨gb277, 3, none⟩ (.slice A276_3 ((rd_T91 l0_4 x64_2).f2.f1).length c276_3)) := ⟨_, rfl⟩
              have n0_ : Aside0 (w76.heap[gb270]? = some (.cells #[.int .i64 a0_0, .int .i64 a0_1, .int .i64 a0_2, .int .i64 a0_3, .slice (some ad276) l0_4.length c0_4, .slice A0_5 l0_5.length c0_5, .slice A0_6 l0_6.length c0_6] 33 (0, 0))) := ⟨by rw [hw_]; exact blf4__ BK270.out⟩
              have n1_ : Aside0 (w76.heap[gb275]? = some (mobj x276000_2)) := ⟨by rw [hw_]; exact bmf__ BK275.out⟩
              have n2_ : Aside0 (w76.heap[gb277]? = some (.cells #[.string ((rd_T91 l0_4 x64_2).f0), .int .i64 ((rd_T91 l0_4 x64_2).f1), .string ((rd_T91 l0_4 x64_2).f2.f0), .slice A276_3 ((rd_T91 l0_4 x64_2).f2.f1).length c276_3] 91 (0, 0))) := ⟨by rw [hw_]; exact bpu__ BK277.out⟩
              have n3_ : Aside0 (Below w.heap.size w w76) := ⟨by rw [hw_]; exact bel__⟩
              rw [← hw_]
              clear hw_
              replace BK270 := n0_
              replace BK275 := n1_
              replace BK277 := n2_
              replace HB := n3_
              clear n0_ n1_ n2_ n3_
              replace BK270 := am__ (blk_drew BK270.out)
              replace BK275 := am__ (blk_drew BK275.out)
              replace BK277 := am__ (blk_drew BK277.out)
              replace HB := am__ (below_drew1 HB.out)
              refine st__ 51 (c4a__ BK277.out (c7e__ BK270.out)) fun hHeld => ?_; refine with_tabW impl_ValidState.tab7 impl_ValidState.bits7 (fun HT_ HW_ => ?_)
              generalize w76.drew = w77 at BK270 BK275 BK277 HB hHeld ⊢
              refine v_ 0 ?_
              refine v_ 1 ?_
              refine v_ 2 ?_
              refine u_ 3 ?_
              refine u_ 4 ?_
              refine u_ 5 ?_
              refine u_ 6 ?_
              refine u_ 7 ?_
              refine u_ 8 ?_
              refine u_ 9 ?_
              refine u_ 10 ?_
              refine u_ 11 ?_
              refine u_ 12 ?_
              refine v_ 13 ?_
              refine v_ 14 ?_
              refine v_ 15 ?_
              refine v_ 17 ?_
              refine t_ 16 ?_
              refine t_ 18 ?_
              refine o_ 19 fun K hK => ?_
              refine gs__ Try.func55 #[.agg #[.string ((rd_T91 l0_4 x64_2).f2.f0), .slice A276_3 ((rd_T91 l0_4 x64_2).f2.f1).length c276_3], .int .i64 a0_0] ?_
              with_reducible refine (impl_thingOk.calls k2 ((rd_T91 l0_4 x64_2).f2.f0) _ _ ((rd_T91 l0_4 x64_2).f2.f1) a0_0 true _ ?side1 ?side2 A70.out).mono ?_
              (case side1 => repeat (first | exact (Kd.C_below HR276_3.out HB.out) | (with_reducible refine Kd.C_alloc ?_ _) | (with_reducible refine Kd.C_drewN ?_ _) | (with_reducible refine Kd.C_drew ?_)))
              (case side2 => exact HC276_3.out)
              rintro e w78 ⟨rfl, hb⟩
              refine ⟨_, rfl, ?_⟩
              replace BK270 := am__ (blb__ BK270.out hb)
              replace BK275 := am__ (blb__ BK275.out hb)
              replace BK277 := am__ (blb__ BK277.out hb)
              replace HB := am__ (below_step (bel__) hb)
              (try clear hb)
              (try clear hb2)
              (try clear hk)
              (try clear hi)
              refine hK.out _ _ ⟨bc__ BK277.out 0, bc__ BK277.out 1, bc__ BK277.out 2, bc__ BK277.out 3, bc__ BK270.out 0, bc__ BK270.out 1, bc__ BK270.out 2, bc__ BK270.out 3, bc__ BK270.out 4, bc__ BK270.out 5, bc__ BK270.out 6⟩ (fun hHeld => ?_)
              clear hK K
              refine na__ 88 ?_
              refine v_ 20 ?_
              refine v_ 21 ?_
              refine v_ 22 ?_
              refine v_ 23 ?_
              refine v_ 25 ?_
              refine v_ 28 ?_
              refine t_ 24 ?_
              refine t_ 26 ?_
              refine t_ 29 ?_
              refine o_ 27 fun K hK => ?_
              refine gs__ Try.func57 #[.agg #[.string ((rd_T91 l0_4 x64_2).f2.f0), .slice A276_3 ((rd_T91 l0_4 x64_2).f2.f1).length c276_3]] ?_
              with_reducible refine (impl_form.calls k2 ((rd_T91 l0_4 x64_2).f2.f0) _ _ ((rd_T91 l0_4 x64_2).f2.f1) t283 _ ?side1 ?side2 A72.out).mono ?_
              (case side1 => repeat (first | exact (Kd.C_below HR276_3.out HB.out) | (with_reducible refine Kd.C_alloc ?_ _) | (with_reducible refine Kd.C_drewN ?_ _) | (with_reducible refine Kd.C_drew ?_)))
              (case side2 => exact HC276_3.out)
              rintro e w79 ⟨rfl, hb⟩
              refine ⟨_, rfl, ?_⟩
              replace BK270 := am__ (blb__ BK270.out hb)
              replace BK275 := am__ (blb__ BK275.out hb)
              replace BK277 := am__ (blb__ BK277.out hb)
              replace HB := am__ (below_step (bel__) hb)
              (try clear hb)
              (try clear hb2)
              (try clear hk)
              (try clear hi)
              refine hK.out _ _ ⟨bc__ BK277.out 0, bc__ BK277.out 1, bc__ BK277.out 2, bc__ BK277.out 3, bc__ BK270.out 0, bc__ BK270.out 1, bc__ BK270.out 2, bc__ BK270.out 3, bc__ BK270.out 4, bc__ BK270.out 5, bc__ BK270.out 6⟩ (fun hHeld => ?_)
              clear hK K
              refine na__ 96 ?_
              refine o_ 30 fun K hK => ?_
              refine gs__ Try.func56 #[.string t283, .int .i64 a0_0] ?_
              with_reducible refine (impl_Sum.calls k2 t283 a0_0 t284 _ A73.out).mono ?_
              rintro e w80 ⟨rfl, hb⟩
              refine ⟨_, rfl, ?_⟩
              replace BK270 := am__ (blb__ BK270.out hb)
              replace BK275 := am__ (blb__ BK275.out hb)
              replace BK277 := am__ (blb__ BK277.out hb)
              replace HB := am__ (below_step (bel__) hb)
              (try clear hb)
              (try clear hb2)
              (try clear hk)
              (try clear hi)
              refine hK.out _ _ ⟨bc__ BK277.out 0, bc__ BK277.out 1, bc__ BK277.out 2, bc__ BK277.out 3, bc__ BK270.out 0, bc__ BK270.out 1, bc__ BK270.out 2, bc__ BK270.out 3, bc__ BK270.out 4, bc__ BK270.out 5, bc__ BK270.out 6⟩ (fun hHeld => ?_)
              clear hK K
              refine na__ 99 ?_
              refine v_ 31 ?_
              refine v_ 32 ?_
              refine v_ 33 ?_
              refine v_ 34 ?_
              refine t_ 35 ?_
              refine v_ 36 ?_
              refine v_ 37 ?_
              refine v_ 38 ?_
              refine u_ 39 ?_
              refine u_ 40 ?_
              refine u_ 41 ?_
              refine u_ 42 ?_
              refine u_ 43 ?_
              refine v_ 44 ?_
              refine v_ 45 ?_
              refine u_ 46 ?_
              refine u_ 47 ?_
              refine u_ 48 ?_
              refine u_ 49 ?_
              refine v_ 50 ?_
              refine done_ (done_of HT_.out (by kernel_rfl)) ?_
              try go_wp2
              go_meet
              case rel => exact ⟨_, (true), (rf__), H', ⟨by have := HJ1.out; have := HK2.out; first | omega | exact Nat.le_refl _⟩, ⟨blk__ BK270.out⟩, ⟨blk__ BK275.out⟩, ⟨blk__ BK277.out⟩, ⟨bel__⟩⟩
             ·as_aux_lemma =>
              rw [if_neg c75] at H
              have c75b0 := decide_eq_false c75
              clear c75
              by_cases c81 : ((rd_T91 l0_4 x64_2).f1) > a0_3
              ·as_aux_lemma =>
               rw [if_pos c81] at H
               have c81b0 : decide (a0_3 < ((rd_T91 l0_4 x64_2).f1)) = true := decide_eq_true c81
               clear c81
               have H' := Aside0.mk H
               clear H
               try go_wp2
               obtain ⟨w82, hw_⟩ : ∃ W_, W_ = ((((w29.setCell ⟨gb277, 0, none⟩ (.string ((rd_T91 l0_4 x64_2).f0))).setCell ⟨gb277, 1, none⟩ (.int .i64 ((rd_T91 l0_4 x64_2).f1))).setCell ⟨gb277, 2, none⟩ (.string ((rd_T91 l0_4 x64_2).f2.f0))).setCell ⟨gb277, 3, none⟩ (.slice A276_3 ((rd_T91 l0_4 x64_2).f2.f1).length c276_3)) := ⟨_, rfl⟩
               have n0_ : Aside0 (w82.heap[gb270]? = some (.cells #[.int .i64 a0_0, .int .i64 a0_1, .int .i64 a0_2, .int .i64 a0_3, .slice (some ad276) l0_4.length c0_4, .slice A0_5 l0_5.length c0_5, .slice A0_6 l0_6.length c0_6] 33 (0, 0))) := ⟨by rw [hw_]; exact blf4__ BK270.out⟩
               have n1_ : Aside0 (w82.heap[gb275]? = some (mobj x276000_2)) := ⟨by rw [hw_]; exact bmf__ BK275.out⟩
               have n2_ : Aside0 (w82.heap[gb277]? = some (.cells #[.string ((rd_T91 l0_4 x64_2).f0), .int .i64 ((rd_T91 l0_4 x64_2).f1), .string ((rd_T91 l0_4 x64_2).f2.f0), .slice A276_3 ((rd_T91 l0_4 x64_2).f2.f1).length c276_3] 91 (0, 0))) := ⟨by rw [hw_]; exact bpu__ BK277.out⟩
               have n3_ : Aside0 (Below w.heap.size w w82) := ⟨by rw [hw_]; exact bel__⟩
               rw [← hw_]
               clear hw_
               replace BK270 := n0_
               replace BK275 := n1_
               replace BK277 := n2_
               replace HB := n3_
               clear n0_ n1_ n2_ n3_
               replace BK270 := am__ (blk_drew BK270.out)
               replace BK275 := am__ (blk_drew BK275.out)
               replace BK277 := am__ (blk_drew BK277.out)
               replace HB := am__ (below_drew1 HB.out)
               refine st__ 51 (c4a__ BK277.out (c7e__ BK270.out)) fun hHeld => ?_; refine with_tabW impl_ValidState.tab7 impl_ValidState.bits7 (fun HT_ HW_ => ?_)
               generalize w82.drew = w83 at BK270 BK275 BK277 HB hHeld ⊢
               refine v_ 0 ?_
               refine v_ 1 ?_
               refine v_ 2 ?_
               refine u_ 3 ?_
               refine u_ 4 ?_
               refine u_ 5 ?_
               refine u_ 6 ?_
               refine u_ 7 ?_
               refine u_ 8 ?_
               refine u_ 9 ?_
               refine u_ 10 ?_
               refine u_ 11 ?_
               refine u_ 12 ?_
               refine v_ 13 ?_
               refine v_ 14 ?_
               refine v_ 15 ?_
               refine v_ 17 ?_
               refine t_ 16 ?_
               refine t_ 18 ?_
               refine o_ 19 fun K hK => ?_
               refine gs__ Try.func55 #[.agg #[.string ((rd_T91 l0_4 x64_2).f2.f0), .slice A276_3 ((rd_T91 l0_4 x64_2).f2.f1).length c276_3], .int .i64 a0_0] ?_
               with_reducible refine (impl_thingOk.calls k2 ((rd_T91 l0_4 x64_2).f2.f0) _ _ ((rd_T91 l0_4 x64_2).f2.f1) a0_0 true _ ?side1 ?side2 A70.out).mono ?_
               (case side1 => repeat (first | exact (Kd.C_below HR276_3.out HB.out) | (with_reducible refine Kd.C_alloc ?_ _) | (with_reducible refine Kd.C_drewN ?_ _) | (with_reducible refine Kd.C_drew ?_)))
               (case side2 => exact HC276_3.out)
               rintro e w84 ⟨rfl, hb⟩
               refine ⟨_, rfl, ?_⟩
               replace BK270 := am__ (blb__ BK270.out hb)
               replace BK275 := am__ (blb__ BK275.out hb)
               replace BK277 := am__ (blb__ BK277.out hb)
               replace HB := am__ (below_step (bel__) hb)
               (try clear hb)
               (try clear hb2)
               (try clear hk)
               (try clear hi)
               refine hK.out _ _ ⟨bc__ BK277.out 0, bc__ BK277.out 1, bc__ BK277.out 2, bc__ BK277.out 3, bc__ BK270.out 0, bc__ BK270.out 1, bc__ BK270.out 2, bc__ BK270.out 3, bc__ BK270.out 4, bc__ BK270.out 5, bc__ BK270.out 6⟩ (fun hHeld => ?_)
               clear hK K
               refine na__ 88 ?_
               refine v_ 20 ?_
               refine v_ 21 ?_
               refine v_ 22 ?_
               refine v_ 23 ?_
               refine v_ 25 ?_
               refine v_ 28 ?_
               refine t_ 24 ?_
               refine t_ 26 ?_
               refine t_ 29 ?_
               refine o_ 27 fun K hK => ?_
               refine gs__ Try.func57 #[.agg #[.string ((rd_T91 l0_4 x64_2).f2.f0), .slice A276_3 ((rd_T91 l0_4 x64_2).f2.f1).length c276_3]] ?_
               with_reducible refine (impl_form.calls k2 ((rd_T91 l0_4 x64_2).f2.f0) _ _ ((rd_T91 l0_4 x64_2).f2.f1) t283 _ ?side1 ?side2 A72.out).mono ?_
               (case side1 => repeat (first | exact (Kd.C_below HR276_3.out HB.out) | (with_reducible refine Kd.C_alloc ?_ _) | (with_reducible refine Kd.C_drewN ?_ _) | (with_reducible refine Kd.C_drew ?_)))
               (case side2 => exact HC276_3.out)
               rintro e w85 ⟨rfl, hb⟩
               refine ⟨_, rfl, ?_⟩
               replace BK270 := am__ (blb__ BK270.out hb)
               replace BK275 := am__ (blb__ BK275.out hb)
               replace BK277 := am__ (blb__ BK277.out hb)
               replace HB := am__ (below_step (bel__) hb)
               (try clear hb)
               (try clear hb2)
               (try clear hk)
               (try clear hi)
               refine hK.out _ _ ⟨bc__ BK277.out 0, bc__ BK277.out 1, bc__ BK277.out 2, bc__ BK277.out 3, bc__ BK270.out 0, bc__ BK270.out 1, bc__ BK270.out 2, bc__ BK270.out 3, bc__ BK270.out 4, bc__ BK270.out 5, bc__ BK270.out 6⟩ (fun hHeld => ?_)
               clear hK K
               refine na__ 96 ?_
               refine o_ 30 fun K hK => ?_
               refine gs__ Try.func56 #[.string t283, .int .i64 a0_0] ?_
               with_reducible refine (impl_Sum.calls k2 t283 a0_0 t284 _ A73.out).mono ?_
               rintro e w86 ⟨rfl, hb⟩
               refine ⟨_, rfl, ?_⟩
               replace BK270 := am__ (blb__ BK270.out hb)
               replace BK275 := am__ (blb__ BK275.out hb)
               replace BK277 := am__ (blb__ BK277.out hb)
               replace HB := am__ (below_step (bel__) hb)
               (try clear hb)
               (try clear hb2)
               (try clear hk)
               (try clear hi)
               refine hK.out _ _ ⟨bc__ BK277.out 0, bc__ BK277.out 1, bc__ BK277.out 2, bc__ BK277.out 3, bc__ BK270.out 0, bc__ BK270.out 1, bc__ BK270.out 2, bc__ BK270.out 3, bc__ BK270.out 4, bc__ BK270.out 5, bc__ BK270.out 6⟩ (fun hHeld => ?_)
               clear hK K
               refine na__ 99 ?_
               refine v_ 31 ?_
               refine v_ 32 ?_
               refine v_ 33 ?_
               refine v_ 34 ?_
               refine t_ 35 ?_
               refine v_ 36 ?_
               refine v_ 37 ?_
               refine v_ 38 ?_
               refine v_ 39 ?_
               refine v_ 41 ?_
               refine t_ 40 ?_
               refine t_ 42 ?_
               refine v_ 43 ?_
               refine v_ 44 ?_
               refine v_ 45 ?_
               refine u_ 46 ?_
               refine u_ 47 ?_
               refine u_ 48 ?_
               refine u_ 49 ?_
               refine v_ 50 ?_
               refine done_ (done_of HT_.out (by kernel_rfl)) ?_
               try go_wp2
               go_meet
               case rel => exact ⟨_, (true), (rf__), H', ⟨by have := HJ1.out; have := HK2.out; first | omega | exact Nat.le_refl _⟩, ⟨blk__ BK270.out⟩, ⟨blk__ BK275.out⟩, ⟨blk__ BK277.out⟩, ⟨bel__⟩⟩
              ·as_aux_lemma =>
               rw [if_neg c81] at H
               have c81b0 : decide (a0_3 < ((rd_T91 l0_4 x64_2).f1)) = false := decide_eq_false c81
               clear c81
               have H' := Aside0.mk H
               clear H
               try go_wp2
               obtain ⟨w87, hw_⟩ : ∃ W_, W_ = ((((w29.setCell ⟨gb277, 0, none⟩ (.string ((rd_T91 l0_4 x64_2).f0))).setCell ⟨gb277, 1, none⟩ (.int .i64 ((rd_T91 l0_4 x64_2).f1))).setCell ⟨gb277, 2, none⟩ (.string ((rd_T91 l0_4 x64_2).f2.f0))).setCell ⟨gb277, 3, none⟩ (.slice A276_3 ((rd_T91 l0_4 x64_2).f2.f1).length c276_3)) := ⟨_, rfl⟩
               have n0_ : Aside0 (w87.heap[gb270]? = some (.cells #[.int .i64 a0_0, .int .i64 a0_1, .int .i64 a0_2, .int .i64 a0_3, .slice (some ad276) l0_4.length c0_4, .slice A0_5 l0_5.length c0_5, .slice A0_6 l0_6.length c0_6] 33 (0, 0))) := ⟨by rw [hw_]; exact blf4__ BK270.out⟩
               have n1_ : Aside0 (w87.heap[gb275]? = some (mobj x276000_2)) := ⟨by rw [hw_]; exact bmf__ BK275.out⟩
               have n2_ : Aside0 (w87.heap[gb277]? = some (.cells #[.string ((rd_T91 l0_4 x64_2).f0), .int .i64 ((rd_T91 l0_4 x64_2).f1), .string ((rd_T91 l0_4 x64_2).f2.f0), .slice A276_3 ((rd_T91 l0_4 x64_2).f2.f1).length c276_3] 91 (0, 0))) := ⟨by rw [hw_]; exact bpu__ BK277.out⟩
               have n3_ : Aside0 (Below w.heap.size w w87) := ⟨by rw [hw_]; exact bel__⟩
               rw [← hw_]
               clear hw_
               replace BK270 := n0_
               replace BK275 := n1_
               replace BK277 := n2_
               replace HB := n3_
               clear n0_ n1_ n2_ n3_
               replace BK270 := am__ (blk_drew BK270.out)
               replace BK275 := am__ (blk_drew BK275.out)
               replace BK277 := am__ (blk_drew BK277.out)
               replace HB := am__ (below_drew1 HB.out)
               refine st__ 51 (c4a__ BK277.out (c7a__ BK270.out (cme__ BK275.out))) fun hHeld => ?_; refine with_tabW impl_ValidState.tab7 impl_ValidState.bits7 (fun HT_ HW_ => ?_)
               generalize w87.drew = w88 at BK270 BK275 BK277 HB hHeld ⊢
               refine v_ 0 ?_
               refine v_ 1 ?_
               refine v_ 2 ?_
               refine u_ 3 ?_
               refine u_ 4 ?_
               refine u_ 5 ?_
               refine u_ 6 ?_
               refine u_ 7 ?_
               refine u_ 8 ?_
               refine u_ 9 ?_
               refine u_ 10 ?_
               refine u_ 11 ?_
               refine u_ 12 ?_
               refine v_ 13 ?_
               refine v_ 14 ?_
               refine v_ 15 ?_
               refine v_ 17 ?_
               refine t_ 16 ?_
               refine t_ 18 ?_
               refine o_ 19 fun K hK => ?_
               refine gs__ Try.func55 #[.agg #[.string ((rd_T91 l0_4 x64_2).f2.f0), .slice A276_3 ((rd_T91 l0_4 x64_2).f2.f1).length c276_3], .int .i64 a0_0] ?_
               with_reducible refine (impl_thingOk.calls k2 ((rd_T91 l0_4 x64_2).f2.f0) _ _ ((rd_T91 l0_4 x64_2).f2.f1) a0_0 true _ ?side1 ?side2 A70.out).mono ?_
               (case side1 => repeat (first | exact (Kd.C_below HR276_3.out HB.out) | (with_reducible refine Kd.C_alloc ?_ _) | (with_reducible refine Kd.C_drewN ?_ _) | (with_reducible refine Kd.C_drew ?_)))
               (case side2 => exact HC276_3.out)
               rintro e w89 ⟨rfl, hb⟩
               refine ⟨_, rfl, ?_⟩
               replace BK270 := am__ (blb__ BK270.out hb)
               replace BK275 := am__ (blb__ BK275.out hb)
               replace BK277 := am__ (blb__ BK277.out hb)
               replace HB := am__ (below_step (bel__) hb)
               (try clear hb)
               (try clear hb2)
               (try clear hk)
               (try clear hi)
               refine hK.out _ _ ⟨bc__ BK277.out 0, bc__ BK277.out 1, bc__ BK277.out 2, bc__ BK277.out 3, bc__ BK270.out 0, bc__ BK270.out 1, bc__ BK270.out 2, bc__ BK270.out 3, bc__ BK270.out 4, bc__ BK270.out 5, bc__ BK270.out 6, BK275.out⟩ (fun hHeld => ?_)
               clear hK K
               refine na__ 88 ?_
               refine v_ 20 ?_
               refine v_ 21 ?_
               refine v_ 22 ?_
               refine v_ 23 ?_
               refine v_ 25 ?_
               refine v_ 28 ?_
               refine t_ 24 ?_
               refine t_ 26 ?_
               refine t_ 29 ?_
               refine o_ 27 fun K hK => ?_
               refine gs__ Try.func57 #[.agg #[.string ((rd_T91 l0_4 x64_2).f2.f0), .slice A276_3 ((rd_T91 l0_4 x64_2).f2.f1).length c276_3]] ?_
               with_reducible refine (impl_form.calls k2 ((rd_T91 l0_4 x64_2).f2.f0) _ _ ((rd_T91 l0_4 x64_2).f2.f1) t283 _ ?side1 ?side2 A72.out).mono ?_
               (case side1 => repeat (first | exact (Kd.C_below HR276_3.out HB.out) | (with_reducible refine Kd.C_alloc ?_ _) | (with_reducible refine Kd.C_drewN ?_ _) | (with_reducible refine Kd.C_drew ?_)))
               (case side2 => exact HC276_3.out)
               rintro e w90 ⟨rfl, hb⟩
               refine ⟨_, rfl, ?_⟩
               replace BK270 := am__ (blb__ BK270.out hb)
               replace BK275 := am__ (blb__ BK275.out hb)
               replace BK277 := am__ (blb__ BK277.out hb)
               replace HB := am__ (below_step (bel__) hb)
               (try clear hb)
               (try clear hb2)
               (try clear hk)
               (try clear hi)
               refine hK.out _ _ ⟨bc__ BK277.out 0, bc__ BK277.out 1, bc__ BK277.out 2, bc__ BK277.out 3, bc__ BK270.out 0, bc__ BK270.out 1, bc__ BK270.out 2, bc__ BK270.out 3, bc__ BK270.out 4, bc__ BK270.out 5, bc__ BK270.out 6, BK275.out⟩ (fun hHeld => ?_)
               clear hK K
               refine na__ 96 ?_
               refine o_ 30 fun K hK => ?_
               refine gs__ Try.func56 #[.string t283, .int .i64 a0_0] ?_
               with_reducible refine (impl_Sum.calls k2 t283 a0_0 t284 _ A73.out).mono ?_
               rintro e w91 ⟨rfl, hb⟩
               refine ⟨_, rfl, ?_⟩
               replace BK270 := am__ (blb__ BK270.out hb)
               replace BK275 := am__ (blb__ BK275.out hb)
               replace BK277 := am__ (blb__ BK277.out hb)
               replace HB := am__ (below_step (bel__) hb)
               (try clear hb)
               (try clear hb2)
               (try clear hk)
               (try clear hi)
               refine hK.out _ _ ⟨bc__ BK277.out 0, bc__ BK277.out 1, bc__ BK277.out 2, bc__ BK277.out 3, bc__ BK270.out 0, bc__ BK270.out 1, bc__ BK270.out 2, bc__ BK270.out 3, bc__ BK270.out 4, bc__ BK270.out 5, bc__ BK270.out 6, BK275.out⟩ (fun hHeld => ?_)
               clear hK K
               refine na__ 99 ?_
               refine v_ 31 ?_
               refine v_ 32 ?_
               refine v_ 33 ?_
               refine v_ 34 ?_
               refine t_ 35 ?_
               refine v_ 36 ?_
               refine v_ 37 ?_
               refine v_ 38 ?_
               refine v_ 39 ?_
               refine v_ 41 ?_
               refine t_ 40 ?_
               refine t_ 42 ?_
               refine v_ 43 ?_
               refine v_ 44 ?_
               refine v_ 45 ?_
               refine v_ 46 ?_
               refine v_ 47 ?_
               refine t_ 48 ?_
               refine take_ (i := 49) (N := some 118) (v := ?_) (a' := ?_) (mk__ 51 1125899906842623) rfl rfl (take_ofW HT_.out HW_.out (by kernel_rfl)) (fun _ _ _ h => h) (Or.inl ⟨by rfl, ?_⟩) hHeld ?_ ?_
               rotate_left
               ·rintro w' ⟨s0, s1, s2, s3, s4, s5, s6, s7, s8, s9, s10, s11⟩
                refine Eq.trans (look_exec s11 (by rfl) Try.underlying89 Try.underlying3 (by kernel_rfl) (by rfl) (by rfl)) ?_
                with_reducible rfl
               rotate_left
               ·simp only [Act.put, List.setIfInBounds_toArray, List.set_cons_zero, List.set_cons_succ, i64_w, i32_w]
                rfl
               refine v_ 50 ?_
               refine done_ (done_of HT_.out (by kernel_rfl)) ?_
               try go_wp2
               go_meet
               case rel => exact ⟨_, (x276000_2.contains ((rd_T91 l0_4 x64_2).f1)), (rf__), H', ⟨by have := HJ1.out; have := HK2.out; first | omega | exact Nat.le_refl _⟩, ⟨blk__ BK270.out⟩, ⟨blk__ BK275.out⟩, ⟨blk__ BK277.out⟩, ⟨bel__⟩⟩
            ·as_aux_lemma =>
             rw [if_neg c74] at H
             have c74b0 : (((rd_T91 l0_4 x64_2).f0).toList == t284.toList) = false := beq_eq_false_iff_ne.mpr c74
             have c74b1 : (((rd_T91 l0_4 x64_2).f0).toList != t284.toList) = true := bne_iff_ne.mpr c74
             have H' := Aside0.mk H
             clear H
             try go_wp2
             obtain ⟨w92, hw_⟩ : ∃ W_, W_ = ((((w29.setCell ⟨gb277, 0, none⟩ (.string ((rd_T91 l0_4 x64_2).f0))).setCell ⟨gb277, 1, none⟩ (.int .i64 ((rd_T91 l0_4 x64_2).f1))).setCell ⟨gb277, 2, none⟩ (.string ((rd_T91 l0_4 x64_2).f2.f0))).setCell ⟨gb277, 3, none⟩ (.slice A276_3 ((rd_T91 l0_4 x64_2).f2.f1).length c276_3)) := ⟨_, rfl⟩
             have n0_ : Aside0 (w92.heap[gb270]? = some (.cells #[.int .i64 a0_0, .int .i64 a0_1, .int .i64 a0_2, .int .i64 a0_3, .slice (some ad276) l0_4.length c0_4, .slice A0_5 l0_5.length c0_5, .slice A0_6 l0_6.length c0_6] 33 (0, 0))) := ⟨by rw [hw_]; exact blf4__ BK270.out⟩
             have n1_ : Aside0 (w92.heap[gb275]? = some (mobj x276000_2)) := ⟨by rw [hw_]; exact bmf__ BK275.out⟩
             have n2_ : Aside0 (w92.heap[gb277]? = some (.cells #[.string ((rd_T91 l0_4 x64_2).f0), .int .i64 ((rd_T91 l0_4 x64_2).f1), .string ((rd_T91 l0_4 x64_2).f2.f0), .slice A276_3 ((rd_T91 l0_4 x64_2).f2.f1).length c276_3] 91 (0, 0))) := ⟨by rw [hw_]; exact bpu__ BK277.out⟩
             have n3_ : Aside0 (Below w.heap.size w w92) := ⟨by rw [hw_]; exact bel__⟩
             rw [← hw_]
             clear hw_
             replace BK270 := n0_
             replace BK275 := n1_
             replace BK277 := n2_
             replace HB := n3_
             clear n0_ n1_ n2_ n3_
             replace BK270 := am__ (blk_drew BK270.out)
             replace BK275 := am__ (blk_drew BK275.out)
             replace BK277 := am__ (blk_drew BK277.out)
             replace HB := am__ (below_drew1 HB.out)
             refine st__ 51 (c4a__ BK277.out (c7e__ BK270.out)) fun hHeld => ?_; refine with_tabW impl_ValidState.tab7 impl_ValidState.bits7 (fun HT_ HW_ => ?_)
             generalize w92.drew = w93 at BK270 BK275 BK277 HB hHeld ⊢
             refine v_ 0 ?_
             refine v_ 1 ?_
             refine v_ 2 ?_
             refine u_ 3 ?_
             refine u_ 4 ?_
             refine u_ 5 ?_
             refine u_ 6 ?_
             refine u_ 7 ?_
             refine u_ 8 ?_
             refine u_ 9 ?_
             refine u_ 10 ?_
             refine u_ 11 ?_
             refine u_ 12 ?_
             refine v_ 13 ?_
             refine v_ 14 ?_
             refine v_ 15 ?_
             refine v_ 17 ?_
             refine t_ 16 ?_
             refine t_ 18 ?_
             refine o_ 19 fun K hK => ?_
             refine gs__ Try.func55 #[.agg #[.string ((rd_T91 l0_4 x64_2).f2.f0), .slice A276_3 ((rd_T91 l0_4 x64_2).f2.f1).length c276_3], .int .i64 a0_0] ?_
             with_reducible refine (impl_thingOk.calls k2 ((rd_T91 l0_4 x64_2).f2.f0) _ _ ((rd_T91 l0_4 x64_2).f2.f1) a0_0 true _ ?side1 ?side2 A70.out).mono ?_
             (case side1 => repeat (first | exact (Kd.C_below HR276_3.out HB.out) | (with_reducible refine Kd.C_alloc ?_ _) | (with_reducible refine Kd.C_drewN ?_ _) | (with_reducible refine Kd.C_drew ?_)))
             (case side2 => exact HC276_3.out)
             rintro e w94 ⟨rfl, hb⟩
             refine ⟨_, rfl, ?_⟩
             replace BK270 := am__ (blb__ BK270.out hb)
             replace BK275 := am__ (blb__ BK275.out hb)
             replace BK277 := am__ (blb__ BK277.out hb)
             replace HB := am__ (below_step (bel__) hb)
             (try clear hb)
             (try clear hb2)
             (try clear hk)
             (try clear hi)
             refine hK.out _ _ ⟨bc__ BK277.out 0, bc__ BK277.out 1, bc__ BK277.out 2, bc__ BK277.out 3, bc__ BK270.out 0, bc__ BK270.out 1, bc__ BK270.out 2, bc__ BK270.out 3, bc__ BK270.out 4, bc__ BK270.out 5, bc__ BK270.out 6⟩ (fun hHeld => ?_)
             clear hK K
             refine na__ 88 ?_
             refine v_ 20 ?_
             refine v_ 21 ?_
             refine v_ 22 ?_
             refine v_ 23 ?_
             refine v_ 25 ?_
             refine v_ 28 ?_
             refine t_ 24 ?_
             refine t_ 26 ?_
             refine t_ 29 ?_
             refine o_ 27 fun K hK => ?_
             refine gs__ Try.func57 #[.agg #[.string ((rd_T91 l0_4 x64_2).f2.f0), .slice A276_3 ((rd_T91 l0_4 x64_2).f2.f1).length c276_3]] ?_
             with_reducible refine (impl_form.calls k2 ((rd_T91 l0_4 x64_2).f2.f0) _ _ ((rd_T91 l0_4 x64_2).f2.f1) t283 _ ?side1 ?side2 A72.out).mono ?_
             (case side1 => repeat (first | exact (Kd.C_below HR276_3.out HB.out) | (with_reducible refine Kd.C_alloc ?_ _) | (with_reducible refine Kd.C_drewN ?_ _) | (with_reducible refine Kd.C_drew ?_)))
             (case side2 => exact HC276_3.out)
             rintro e w95 ⟨rfl, hb⟩
             refine ⟨_, rfl, ?_⟩
             replace BK270 := am__ (blb__ BK270.out hb)
             replace BK275 := am__ (blb__ BK275.out hb)
             replace BK277 := am__ (blb__ BK277.out hb)
             replace HB := am__ (below_step (bel__) hb)
             (try clear hb)
             (try clear hb2)
             (try clear hk)
             (try clear hi)
             refine hK.out _ _ ⟨bc__ BK277.out 0, bc__ BK277.out 1, bc__ BK277.out 2, bc__ BK277.out 3, bc__ BK270.out 0, bc__ BK270.out 1, bc__ BK270.out 2, bc__ BK270.out 3, bc__ BK270.out 4, bc__ BK270.out 5, bc__ BK270.out 6⟩ (fun hHeld => ?_)
             clear hK K
             refine na__ 96 ?_
             refine o_ 30 fun K hK => ?_
             refine gs__ Try.func56 #[.string t283, .int .i64 a0_0] ?_
             with_reducible refine (impl_Sum.calls k2 t283 a0_0 t284 _ A73.out).mono ?_
             rintro e w96 ⟨rfl, hb⟩
             refine ⟨_, rfl, ?_⟩
             replace BK270 := am__ (blb__ BK270.out hb)
             replace BK275 := am__ (blb__ BK275.out hb)
             replace BK277 := am__ (blb__ BK277.out hb)
             replace HB := am__ (below_step (bel__) hb)
             (try clear hb)
             (try clear hb2)
             (try clear hk)
             (try clear hi)
             refine hK.out _ _ ⟨bc__ BK277.out 0, bc__ BK277.out 1, bc__ BK277.out 2, bc__ BK277.out 3, bc__ BK270.out 0, bc__ BK270.out 1, bc__ BK270.out 2, bc__ BK270.out 3, bc__ BK270.out 4, bc__ BK270.out 5, bc__ BK270.out 6⟩ (fun hHeld => ?_)
             clear hK K
             refine na__ 99 ?_
             refine v_ 31 ?_
             refine v_ 32 ?_
             refine v_ 33 ?_
             refine u_ 34 ?_
             refine u_ 35 ?_
             refine u_ 36 ?_
             refine v_ 37 ?_
             refine v_ 38 ?_
             refine u_ 39 ?_
             refine u_ 40 ?_
             refine u_ 41 ?_
             refine u_ 42 ?_
             refine u_ 43 ?_
             refine v_ 44 ?_
             refine v_ 45 ?_
             refine u_ 46 ?_
             refine u_ 47 ?_
             refine u_ 48 ?_
             refine u_ 49 ?_
             refine v_ 50 ?_
             refine done_ (done_of HT_.out (by kernel_rfl)) ?_
             try go_wp2
             go_meet
             case rel => exact ⟨_, (true), (rf__), H', ⟨by have := HJ1.out; have := HK2.out; first | omega | exact Nat.le_refl _⟩, ⟨blk__ BK270.out⟩, ⟨blk__ BK275.out⟩, ⟨blk__ BK277.out⟩, ⟨bel__⟩⟩
           ·as_aux_lemma =>
            replace c71 := Bool.eq_false_iff.mpr c71
            subst c71
            have H1 : (impl_ValidState.j2 k2 l0_4 (l0_4.length : Int) x64_2 true a0_0 a0_1 a0_2 a0_3 l0_4 l0_5 l0_6 x276000_2) = some r := by rw [if_neg (show ¬ (false = true) by decide)] at H; exact H
            clear H
            have H := H1
            clear H1
            have H' := Aside0.mk H
            clear H
            try go_wp2
            obtain ⟨w97, hw_⟩ : ∃ W_, W_ = ((((w29.setCell ⟨gb277, 0, none⟩ (.string ((rd_T91 l0_4 x64_2).f0))).setCell ⟨gb277, 1, none⟩ (.int .i64 ((rd_T91 l0_4 x64_2).f1))).setCell ⟨gb277, 2, none⟩ (.string ((rd_T91 l0_4 x64_2).f2.f0))).setCell ⟨gb277, 3, none⟩ (.slice A276_3 ((rd_T91 l0_4 x64_2).f2.f1).length c276_3)) := ⟨_, rfl⟩
            have n0_ : Aside0 (w97.heap[gb270]? = some (.cells #[.int .i64 a0_0, .int .i64 a0_1, .int .i64 a0_2, .int .i64 a0_3, .slice (some ad276) l0_4.length c0_4, .slice A0_5 l0_5.length c0_5, .slice A0_6 l0_6.length c0_6] 33 (0, 0))) := ⟨by rw [hw_]; exact blf4__ BK270.out⟩
            have n1_ : Aside0 (w97.heap[gb275]? = some (mobj x276000_2)) := ⟨by rw [hw_]; exact bmf__ BK275.out⟩
            have n2_ : Aside0 (w97.heap[gb277]? = some (.cells #[.string ((rd_T91 l0_4 x64_2).f0), .int .i64 ((rd_T91 l0_4 x64_2).f1), .string ((rd_T91 l0_4 x64_2).f2.f0), .slice A276_3 ((rd_T91 l0_4 x64_2).f2.f1).length c276_3] 91 (0, 0))) := ⟨by rw [hw_]; exact bpu__ BK277.out⟩
            have n3_ : Aside0 (Below w.heap.size w w97) := ⟨by rw [hw_]; exact bel__⟩
            rw [← hw_]
            clear hw_
            replace BK270 := n0_
            replace BK275 := n1_
            replace BK277 := n2_
            replace HB := n3_
            clear n0_ n1_ n2_ n3_
            replace BK270 := am__ (blk_drew BK270.out)
            replace BK275 := am__ (blk_drew BK275.out)
            replace BK277 := am__ (blk_drew BK277.out)
            replace HB := am__ (below_drew1 HB.out)
            refine st__ 51 (c4a__ BK277.out (c7e__ BK270.out)) fun hHeld => ?_; refine with_tabW impl_ValidState.tab7 impl_ValidState.bits7 (fun HT_ HW_ => ?_)
            generalize w97.drew = w98 at BK270 BK275 BK277 HB hHeld ⊢
            refine v_ 0 ?_
            refine v_ 1 ?_
            refine v_ 2 ?_
            refine u_ 3 ?_
            refine u_ 4 ?_
            refine u_ 5 ?_
            refine u_ 6 ?_
            refine u_ 7 ?_
            refine u_ 8 ?_
            refine u_ 9 ?_
            refine u_ 10 ?_
            refine u_ 11 ?_
            refine u_ 12 ?_
            refine v_ 13 ?_
            refine v_ 14 ?_
            refine v_ 15 ?_
            refine v_ 17 ?_
            refine t_ 16 ?_
            refine t_ 18 ?_
            refine o_ 19 fun K hK => ?_
            refine gs__ Try.func55 #[.agg #[.string ((rd_T91 l0_4 x64_2).f2.f0), .slice A276_3 ((rd_T91 l0_4 x64_2).f2.f1).length c276_3], .int .i64 a0_0] ?_
            with_reducible refine (impl_thingOk.calls k2 ((rd_T91 l0_4 x64_2).f2.f0) _ _ ((rd_T91 l0_4 x64_2).f2.f1) a0_0 false _ ?side1 ?side2 A70.out).mono ?_
            (case side1 => repeat (first | exact (Kd.C_below HR276_3.out HB.out) | (with_reducible refine Kd.C_alloc ?_ _) | (with_reducible refine Kd.C_drewN ?_ _) | (with_reducible refine Kd.C_drew ?_)))
            (case side2 => exact HC276_3.out)
            rintro e w99 ⟨rfl, hb⟩
            refine ⟨_, rfl, ?_⟩
            replace BK270 := am__ (blb__ BK270.out hb)
            replace BK275 := am__ (blb__ BK275.out hb)
            replace BK277 := am__ (blb__ BK277.out hb)
            replace HB := am__ (below_step (bel__) hb)
            (try clear hb)
            (try clear hb2)
            (try clear hk)
            (try clear hi)
            refine hK.out _ _ ⟨bc__ BK277.out 0, bc__ BK277.out 1, bc__ BK277.out 2, bc__ BK277.out 3, bc__ BK270.out 0, bc__ BK270.out 1, bc__ BK270.out 2, bc__ BK270.out 3, bc__ BK270.out 4, bc__ BK270.out 5, bc__ BK270.out 6⟩ (fun hHeld => ?_)
            clear hK K
            refine na__ 88 ?_
            refine v_ 20 ?_
            refine v_ 21 ?_
            refine v_ 22 ?_
            refine u_ 23 ?_
            refine u_ 24 ?_
            refine u_ 25 ?_
            refine u_ 26 ?_
            refine u_ 27 ?_
            refine u_ 28 ?_
            refine u_ 29 ?_
            refine u_ 30 ?_
            refine u_ 31 ?_
            refine v_ 32 ?_
            refine v_ 33 ?_
            refine u_ 34 ?_
            refine u_ 35 ?_
            refine u_ 36 ?_
            refine v_ 37 ?_
            refine v_ 38 ?_
            refine u_ 39 ?_
            refine u_ 40 ?_
            refine u_ 41 ?_
            refine u_ 42 ?_
            refine u_ 43 ?_
            refine v_ 44 ?_
            refine v_ 45 ?_
            refine u_ 46 ?_
            refine u_ 47 ?_
            refine u_ 48 ?_
            refine u_ 49 ?_
            refine v_ 50 ?_
            refine done_ (done_of HT_.out (by kernel_rfl)) ?_
            try go_wp2
            go_meet
            case rel => exact ⟨_, (true), (rf__), H', ⟨by have := HJ1.out; have := HK2.out; first | omega | exact Nat.le_refl _⟩, ⟨blk__ BK270.out⟩, ⟨blk__ BK275.out⟩, ⟨blk__ BK277.out⟩, ⟨bel__⟩⟩
         case rest =>
          clear HC28
          try clear c2
          try clear p2
          try clear c5
          try clear c7
          try clear c27
          try clear c55
          try clear c56
          try clear c57
          try clear c71
          obtain ⟨kq, x119_27, rfl, HA, HJ27, BK270, BK275, BK277, HB⟩ := hcut
          cases kq with
          | zero => exact absurd HA.out (by simp [impl_ValidState.j2])
          | succ kj27 =>
           have H := HA.out
           clear HA
           simp only [impl_ValidState.j2] at H
           by_cases c100 : x119_27 = true
           ·subst c100
            rw [if_pos rfl] at H
            obtain rfl := Option.some.inj H
            go_wp2
            go_ret
            exact ⟨ee__, bel__⟩
           ·replace c100 := Bool.eq_false_iff.mpr c100
            subst c100
            have H1 : (impl_ValidState.l0 kj27 l0_4 (l0_4.length : Int) (wrap64 (x64_2 + 1)) a0_0 a0_1 a0_2 a0_3 l0_4 l0_5 l0_6 (ins ((rd_T91 l0_4 x64_2).f1) x276000_2)) = some r := by rw [if_neg (show ¬ (false = true) by decide)] at H; exact H
            clear H
            have H := H1
            clear H1
            have H' := Aside0.mk H
            clear H
            have hnb101 := NB275_270.out
            have hnc101 := NB270_275.out
            have hnb102 := NB275_277.out
            have hnc102 := NB277_275.out
            have hczm_ : wc.cell? ⟨gb277, 1, none⟩ = some (.int .i64 ((rd_T91 l0_4 x64_2).f1)) := (blk_cell BK277.out 1).trans rfl
            go_wp2_with (first | ((with_reducible refine gate_put rfl ?_); refine put_event BK275.out (by rfl) (by rfl) Try.underlying89 Try.underlying3 (by rfl) (by rfl) ?_; intro wm hbm hgm; replace BK270 := am__ (blk_grown BK270.out hgm (fun h_ => NB270_275.out (by injection h_))); replace BK277 := am__ (blk_grown BK277.out hgm (fun h_ => NB277_275.out (by injection h_))); replace BK275 := Aside0.mk hbm; replace HB := am__ (Below.grown HB.out hgm HB.out.size (fun k_ e_ => by injection e_ with e_; exact e_ ▸ GE275.out)); clear hbm hgm))
            go_roundg kj27
            case measure => have := HJ1.out; have := HK2.out; have := HJ27.out; omega
            case rel => exact ⟨(wrap64 (x64_2 + 1)), (ins ((rd_T91 l0_4 x64_2).f1) x276000_2), (rf__), H', ⟨by have := HJ1.out; have := HK2.out; have := HJ27.out; omega⟩, ⟨BK270.out⟩, ⟨BK275.out⟩, ⟨bel__⟩⟩
        ·rw [if_neg c27] at H
         exact absurd H (by simp)
       ·rw [if_neg c26] at H
        exact absurd H (by simp)
      ·as_aux_lemma =>
       rw [if_neg c25] at H
       have c25b0 := decide_eq_false c25
       clear c25
       have H' := Aside0.mk H
       clear H
       have hnb104 := NB270_275.out
       have hnc104 := NB275_270.out
       obtain ⟨hcz105_0, hcz105_1, hcz105_2, hcz105_3, hcz105_4, hcz105_5, hcz105_6, hfz105_0, hfz105_1, hfz105_2, hfz105_3, hfz105_4, hfz105_5, hfz105_6⟩ := bk7__ BK270.out
       go_wp2
       go_loopg [127] k2 (fun kq v127 w' => ∃ (x127_3 : Int), v127 = .int .i64 x127_3 ∧ Aside0 (impl_ValidState.l1 kq l0_4 (l0_4.length : Int) x127_3 a0_0 a0_1 a0_2 a0_3 l0_4 l0_5 l0_6 = some r) ∧ Aside0 (kq ≤ k2) ∧ Aside0 (w'.heap[gb270]? = some (.cells #[.int .i64 a0_0, .int .i64 a0_1, .int .i64 a0_2, .int .i64 a0_3, (.slice A0_4 l0_4.length c0_4), (.slice A0_5 l0_5.length c0_5), (.slice A0_6 l0_6.length c0_6)] 33 (0, 0))) ∧ Aside0 (w'.heap[gb275]? = some (mobj x276000_2)) ∧ Aside0 (Below w.heap.size w w'))
       case atStart => exact ⟨(0), (rf__), H', ⟨Nat.le_refl _⟩, ⟨blk__ BK270.out⟩, ⟨blk__ BK275.out⟩, ⟨bel__⟩⟩
       case round =>
        as_aux_lemma =>
        clear H'
        try clear c1
        try clear c2
        try clear p2
        try clear c5
        try clear p6
        try clear c7
        try clear c10
        try clear c25
        try clear c25b0
        try clear c26
        try clear c27
        try clear c55
        try clear c56
        try clear c57
        try clear p64
        try clear c71
        try clear c100
        try clear c101
        try clear c102
        try clear c104
        try clear hcz103_0 hfz103_0
        try clear hcz105_0 hcz105_1 hcz105_2 hcz105_3 hcz105_4 hcz105_5 hcz105_6 hfz105_0 hfz105_1 hfz105_2 hfz105_3 hfz105_4 hfz105_5 hfz105_6
        try clear p2
        obtain ⟨x127_3, rfl, HA, HK3, BK270, BK275, HB⟩ := hrel
        cases gk with
        | zero => exact absurd HA.out (by simp [impl_ValidState.l1])
        | succ k3 =>
         have H := HA.out
         clear HA
         simp only [impl_ValidState.l1] at H
         by_cases c106 : x127_3 < (l0_4.length : Int)
         ·as_aux_lemma =>
          rw [if_pos c106] at H
          have c106b0 := decide_eq_true c106
          clear c106
          by_cases c107 : 0 ≤ x127_3
          ·as_aux_lemma =>
           rw [if_pos c107] at H
           have c107b0 := decide_eq_true c107
           clear c107
           by_cases c108 : x127_3 < (l0_4.length : Int)
           ·as_aux_lemma =>
            rw [if_pos c108] at H
            have c108b0 := decide_eq_true c108
            clear c108
            have H' := Aside0.mk H
            clear H
            have p285 : 0 ≤ (x127_3 : Int) := of_decide_eq_true (by first | (with_reducible assumption) | assumption)
            have q285 : x127_3 < (l0_4.length : Int) := of_decide_eq_true (by first | (with_reducible assumption) | assumption)
            obtain ⟨ad285, A285_3, c285_3, e285, hx285_0, hx285_1, hx285_2, hx285_3, hl285_3, hi285_3⟩ := at_T91 HR0_4.out x127_3 p285 q285
            cases e285
            try replace hx285_0 := hb__ HB.out hx285_0
            try replace hx285_1 := hb__ HB.out hx285_1
            try replace hx285_2 := hb__ HB.out hx285_2
            try replace hx285_3 := hb__ HB.out hx285_3
            have HR285_3 := Aside0.mk hi285_3
            have HC285_3 := Aside0.mk hl285_3
            clear hi285_3 hl285_3
            replace p285 := eq_true p285
            replace q285 := eq_true q285
            go_wp2_with (first | ((with_reducible refine gate_dst (N := 7) rfl ?_); (try (refine gate_guard (by rfl) ?_; dsimp only)); refine be__ 7 #[.string (⟨#[]⟩ : ByteArray), .int .i64 0, .string (⟨#[]⟩ : ByteArray), .slice none 0 0] 91 ?_; intro gb286 hg w109 hbox hb; have BK286 := am__ (hbox); have GW286 := am__ ((bsz__ hg bel__ : w.heap.size ≤ gb286)); have GE286 := am__ ((bsz__ hg bel__ : w.heap.size ≤ gb286)); replace HB := am__ (below_step (bel__) hb); have NB270_286 := am__ ((nl__ hg BK270.out : gb270 ≠ gb286)); have NB286_270 := am__ ((ng__ hg BK270.out : gb286 ≠ gb270)); replace BK270 := am__ (blb__ BK270.out hb); have NB275_286 := am__ ((nlt__ hg (blk_lt (g := gb275) (o := mobj x276000_2) (blk__ BK275.out)) : gb275 ≠ gb286)); have NB286_275 := am__ ((ngt__ hg (blk_lt (g := gb275) (o := mobj x276000_2) (blk__ BK275.out)) : gb286 ≠ gb275)); replace BK275 := am__ (blb__ BK275.out hb); clear hb hbox hg; have hnb110 := NB286_270.out; have hnc110 := NB270_286.out; have hnb111 := NB286_275.out; have hnc111 := NB275_286.out; obtain ⟨hcz112_0, hcz112_1, hcz112_2, hcz112_3, hfz112_0, hfz112_1, hfz112_2, hfz112_3⟩ := bk4__ BK286.out))
            go_loopg [135] k3 (fun kq v135 w' => ∃ (x135_4 : Int), v135 = .int .i64 x135_4 ∧ Aside0 (impl_ValidState.l2 kq l0_4 (l0_4.length : Int) x127_3 ((rd_T91 l0_4 x127_3).f2.f1) (((rd_T91 l0_4 x127_3).f2.f1).length : Int) x135_4 a0_0 a0_1 a0_2 a0_3 l0_4 l0_5 l0_6 ((rd_T91 l0_4 x127_3).f0) ((rd_T91 l0_4 x127_3).f1) ((rd_T91 l0_4 x127_3).f2.f0) ((rd_T91 l0_4 x127_3).f2.f1) = some r) ∧ Aside0 (kq ≤ k3) ∧ Aside0 (w'.heap[gb270]? = some (.cells #[.int .i64 a0_0, .int .i64 a0_1, .int .i64 a0_2, .int .i64 a0_3, (.slice (some ad285) l0_4.length c0_4), (.slice A0_5 l0_5.length c0_5), (.slice A0_6 l0_6.length c0_6)] 33 (0, 0))) ∧ Aside0 (w'.heap[gb275]? = some (mobj x276000_2)) ∧ Aside0 (w'.heap[gb286]? = some (.cells #[.string ((rd_T91 l0_4 x127_3).f0), .int .i64 ((rd_T91 l0_4 x127_3).f1), .string ((rd_T91 l0_4 x127_3).f2.f0), (.slice A285_3 ((rd_T91 l0_4 x127_3).f2.f1).length c285_3)] 91 (0, 0))) ∧ Aside0 (Below w.heap.size w w'))
            case atStart => exact ⟨(0), (rf__), H', ⟨Nat.le_refl _⟩, ⟨blf4__ BK270.out⟩, ⟨bmf__ BK275.out⟩, ⟨bpu__ BK286.out⟩, ⟨bel__⟩⟩
            case round =>
             as_aux_lemma =>
             clear H'
             try clear c1
             try clear c2
             try clear p2
             try clear q2
             try clear hx2
             try clear c5
             try clear p6
             try clear c7
             try clear c10
             try clear c11
             try clear c25
             try clear c25b0
             try clear c26
             try clear c27
             try clear c28
             try clear p28
             try clear q28
             try clear hx28
             try clear c55
             try clear c56
             try clear c57
             try clear p64
             try clear c71
             try clear c100
             try clear c101
             try clear c102
             try clear c104
             try clear c106
             try clear c106b0
             try clear c107
             try clear c107b0
             try clear c108
             try clear c108b0
             try clear c110
             try clear c111
             try clear hcz103_0 hfz103_0
             try clear hcz105_0 hcz105_1 hcz105_2 hcz105_3 hcz105_4 hcz105_5 hcz105_6 hfz105_0 hfz105_1 hfz105_2 hfz105_3 hfz105_4 hfz105_5 hfz105_6
             try clear hcz112_0 hcz112_1 hcz112_2 hcz112_3 hfz112_0 hfz112_1 hfz112_2 hfz112_3
             try clear hx285_0
             try clear hx285_1
             try clear hx285_2
             try clear hx285_3
             try clear p2
             try clear p285
             try clear p6
             try clear p64
             try clear q285
             obtain ⟨x135_4, rfl, HA, HK4, BK270, BK275, BK286, HB⟩ := hrel
             cases gk with
             | zero => exact absurd HA.out (by simp [impl_ValidState.l2])
             | succ k4 =>
              have H := HA.out
              clear HA
              simp only [impl_ValidState.l2] at H
              by_cases c113 : x135_4 < (((rd_T91 l0_4 x127_3).f2.f1).length : Int)
              ·as_aux_lemma =>
               rw [if_pos c113] at H
               have c113b0 := decide_eq_true c113
               clear c113
               by_cases c114 : 0 ≤ x135_4
               ·as_aux_lemma =>
                rw [if_pos c114] at H
                have c114b0 := decide_eq_true c114
                clear c114
                by_cases c115 : x135_4 < (((rd_T91 l0_4 x127_3).f2.f1).length : Int)
                ·as_aux_lemma =>
                 rw [if_pos c115] at H
                 have c115b0 := decide_eq_true c115
                 clear c115
                 replace H := Option.bind_eq_some_iff.mp H
                 obtain ⟨⟨t288, t289⟩, A1160, H⟩ := H
                 replace H : (if t289 = true then (if 0 ≤ t288 then (if t288 < (l0_4.length : Int) then (if ((rd_T91 l0_4 t288).f1) ≥ ((rd_T91 l0_4 x127_3).f1) then (some false) else (impl_ValidState.l2 k4 l0_4 (l0_4.length : Int) x127_3 ((rd_T91 l0_4 x127_3).f2.f1) (((rd_T91 l0_4 x127_3).f2.f1).length : Int) (wrap64 (x135_4 + 1)) a0_0 a0_1 a0_2 a0_3 l0_4 l0_5 l0_6 ((rd_T91 l0_4 x127_3).f0) ((rd_T91 l0_4 x127_3).f1) ((rd_T91 l0_4 x127_3).f2.f0) ((rd_T91 l0_4 x127_3).f2.f1))) else (none)) else (none)) else (some false)) = some r := H
                 have A116 := Aside0.mk A1160
                 clear A1160
                 by_cases c117 : t289 = true
                 ·as_aux_lemma =>
                  subst c117
                  rw [if_pos rfl] at H
                  by_cases c118 : 0 ≤ t288
                  ·as_aux_lemma =>
                   rw [if_pos c118] at H
                   have c118b0 := decide_eq_true c118
                   clear c118
                   by_cases c119 : t288 < (l0_4.length : Int)
                   ·as_aux_lemma =>
                    rw [if_pos c119] at H
                    have c119b0 := decide_eq_true c119
                    clear c119
                    by_cases c120 : ((rd_T91 l0_4 t288).f1) ≥ ((rd_T91 l0_4 x127_3).f1)
                    ·rw [if_pos c120] at H
                     have c120b0 : decide (((rd_T91 l0_4 x127_3).f1) ≤ ((rd_T91 l0_4 t288).f1)) = true := decide_eq_true c120
                     clear c120
                     obtain rfl := Option.some.inj H
                     have p287 : 0 ≤ (x135_4 : Int) := of_decide_eq_true (by first | (with_reducible assumption) | assumption)
                     have q287 : x135_4 < (((rd_T91 l0_4 x127_3).f2.f1).length : Int) := of_decide_eq_true (by first | (with_reducible assumption) | assumption)
                     obtain ⟨ad287, e287, hx287_0⟩ := Kd.at_string HR285_3.out x135_4 p287 q287
                     cases e287
                     try replace hx287_0 := hb__ HB.out hx287_0
                     replace p287 := eq_true p287
                     replace q287 := eq_true q287
                     try go_wp2_with (first | ((with_reducible refine gate_callee (f := 58) rfl ?_); refine gl__ (some 141) Try.func58 #[.pointer (some ⟨gb270, 0, none⟩), .string (rdOf ByteArray.empty ((rd_T91 l0_4 x127_3).f2.f1) x135_4)] ?_; (with_reducible refine (impl_State_thing.calls gb270 _ _ l0_4 (rdOf ByteArray.empty ((rd_T91 l0_4 x127_3).f2.f1) x135_4) t288 true _ ?side1 HC0_4.out ((blk_cell (g := gb270) (t := 33) (cs := #[.int .i64 a0_0, .int .i64 a0_1, .int .i64 a0_2, .int .i64 a0_3, .slice (some ad285) l0_4.length c0_4, .slice A0_5 l0_5.length c0_5, .slice A0_6 l0_6.length c0_6]) (blk__ BK270.out) 4).trans rfl) A116.out).mono ?_); (case side1 => repeat (first | exact (Kd.C_below HR0_4.out HB.out) | (with_reducible refine Kd.C_alloc ?_ _) | (with_reducible refine Kd.C_drewN ?_ _) | (with_reducible refine Kd.C_drew ?_))); rintro e w121 ⟨rfl, hb⟩; refine ⟨_, rfl, ?_⟩; replace BK270 := am__ (blb__ BK270.out hb); replace BK275 := am__ (blb__ BK275.out hb); replace BK286 := am__ (blb__ BK286.out hb); replace HB := am__ (below_step (bel__) hb); clear hb))
                     replace BK270 := am__ (blk_drew BK270.out)
                     replace BK275 := am__ (blk_drew BK275.out)
                     replace BK286 := am__ (blk_drew BK286.out)
                     replace HB := am__ (below_drew1 HB.out)
                     have p290 : 0 ≤ (t288 : Int) := of_decide_eq_true (by first | (with_reducible assumption) | assumption)
                     have q290 : t288 < (l0_4.length : Int) := of_decide_eq_true (by first | (with_reducible assumption) | assumption)
                     obtain ⟨ad290, A290_3, c290_3, e290, hx290_0, hx290_1, hx290_2, hx290_3, hl290_3, hi290_3⟩ := at_T91 HR0_4.out t288 p290 q290
                     have hw290_3 := hx290_3
                     have hw290_2 := hx290_2
                     have hw290_1 := hx290_1
                     have hw290_0 := hx290_0
                     obtain rfl : ad285 = ad290 := (by injection e290)
                     try replace hx290_0 := hb__ HB.out hx290_0
                     try replace hx290_1 := hb__ HB.out hx290_1
                     try replace hx290_2 := hb__ HB.out hx290_2
                     try replace hx290_3 := hb__ HB.out hx290_3
                     have HR290_3 := Aside0.mk hi290_3
                     have HC290_3 := Aside0.mk hl290_3
                     clear hi290_3 hl290_3
                     replace p290 := eq_true p290
                     replace q290 := eq_true q290
                     refine st__ 13 (c7a__ BK270.out (c4a__ BK286.out (cha__ HB.out hw290_0 (cha__ HB.out hw290_1 (cha__ HB.out hw290_2 (che__ HB.out hw290_3)))))) fun hHeld => ?_; refine with_tabW impl_ValidState.tab18 impl_ValidState.bits18 (fun HT_ HW_ => ?_)
                     generalize w121.drew = w122 at BK270 BK275 BK286 HB HR290_3 hx290_0 hx290_1 hx290_2 hx290_3 hHeld ⊢
                     refine v_ 0 ?_
                     refine v_ 1 ?_
                     refine v_ 2 ?_
                     refine v_ 3 ?_
                     refine v_ 5 ?_
                     refine v_ 9 ?_
                     refine t_ 4 ?_
                     refine v_ 6 ?_
                     refine v_ 7 ?_
                     refine t_ 8 ?_
                     refine t_ 10 ?_
                     refine v_ 11 ?_
                     refine v_ 12 ?_
                     refine done_ (done_of HT_.out (by kernel_rfl)) ?_
                     try go_wp2
                     go_ret
                     exact ⟨ee__, bel__⟩
                    ·rw [if_neg c120] at H
                     have c120b0 : decide (((rd_T91 l0_4 x127_3).f1) ≤ ((rd_T91 l0_4 t288).f1)) = false := decide_eq_false c120
                     clear c120
                     have H' := Aside0.mk H
                     clear H
                     have p287 : 0 ≤ (x135_4 : Int) := of_decide_eq_true (by first | (with_reducible assumption) | assumption)
                     have q287 : x135_4 < (((rd_T91 l0_4 x127_3).f2.f1).length : Int) := of_decide_eq_true (by first | (with_reducible assumption) | assumption)
                     obtain ⟨ad287, e287, hx287_0⟩ := Kd.at_string HR285_3.out x135_4 p287 q287
                     cases e287
                     try replace hx287_0 := hb__ HB.out hx287_0
                     replace p287 := eq_true p287
                     replace q287 := eq_true q287
                     try go_wp2_with (first | ((with_reducible refine gate_callee (f := 58) rfl ?_); refine gl__ (some 141) Try.func58 #[.pointer (some ⟨gb270, 0, none⟩), .string (rdOf ByteArray.empty ((rd_T91 l0_4 x127_3).f2.f1) x135_4)] ?_; (with_reducible refine (impl_State_thing.calls gb270 _ _ l0_4 (rdOf ByteArray.empty ((rd_T91 l0_4 x127_3).f2.f1) x135_4) t288 true _ ?side1 HC0_4.out ((blk_cell (g := gb270) (t := 33) (cs := #[.int .i64 a0_0, .int .i64 a0_1, .int .i64 a0_2, .int .i64 a0_3, .slice (some ad285) l0_4.length c0_4, .slice A0_5 l0_5.length c0_5, .slice A0_6 l0_6.length c0_6]) (blk__ BK270.out) 4).trans rfl) A116.out).mono ?_); (case side1 => repeat (first | exact (Kd.C_below HR0_4.out HB.out) | (with_reducible refine Kd.C_alloc ?_ _) | (with_reducible refine Kd.C_drewN ?_ _) | (with_reducible refine Kd.C_drew ?_))); rintro e w123 ⟨rfl, hb⟩; refine ⟨_, rfl, ?_⟩; replace BK270 := am__ (blb__ BK270.out hb); replace BK275 := am__ (blb__ BK275.out hb); replace BK286 := am__ (blb__ BK286.out hb); replace HB := am__ (below_step (bel__) hb); clear hb))
                     replace BK270 := am__ (blk_drew BK270.out)
                     replace BK275 := am__ (blk_drew BK275.out)
                     replace BK286 := am__ (blk_drew BK286.out)
                     replace HB := am__ (below_drew1 HB.out)
                     have p290 : 0 ≤ (t288 : Int) := of_decide_eq_true (by first | (with_reducible assumption) | assumption)
                     have q290 : t288 < (l0_4.length : Int) := of_decide_eq_true (by first | (with_reducible assumption) | assumption)
                     obtain ⟨ad290, A290_3, c290_3, e290, hx290_0, hx290_1, hx290_2, hx290_3, hl290_3, hi290_3⟩ := at_T91 HR0_4.out t288 p290 q290
                     have hw290_3 := hx290_3
                     have hw290_2 := hx290_2
                     have hw290_1 := hx290_1
                     have hw290_0 := hx290_0
                     obtain rfl : ad285 = ad290 := (by injection e290)
                     try replace hx290_0 := hb__ HB.out hx290_0
                     try replace hx290_1 := hb__ HB.out hx290_1
                     try replace hx290_2 := hb__ HB.out hx290_2
                     try replace hx290_3 := hb__ HB.out hx290_3
                     have HR290_3 := Aside0.mk hi290_3
                     have HC290_3 := Aside0.mk hl290_3
                     clear hi290_3 hl290_3
                     replace p290 := eq_true p290
                     replace q290 := eq_true q290
                     refine st__ 13 (c7a__ BK270.out (c4a__ BK286.out (cha__ HB.out hw290_0 (cha__ HB.out hw290_1 (cha__ HB.out hw290_2 (che__ HB.out hw290_3)))))) fun hHeld => ?_; refine with_tabW impl_ValidState.tab18 impl_ValidState.bits18 (fun HT_ HW_ => ?_)
                     generalize w123.drew = w124 at BK270 BK275 BK286 HB HR290_3 hx290_0 hx290_1 hx290_2 hx290_3 hHeld ⊢
                     refine v_ 0 ?_
                     refine v_ 1 ?_
                     refine v_ 2 ?_
                     refine v_ 3 ?_
                     refine v_ 5 ?_
                     refine v_ 9 ?_
                     refine t_ 4 ?_
                     refine v_ 6 ?_
                     refine v_ 7 ?_
                     refine t_ 8 ?_
                     refine t_ 10 ?_
                     refine v_ 11 ?_
                     refine v_ 12 ?_
                     refine done_ (done_of HT_.out (by kernel_rfl)) ?_
                     try go_wp2
                     go_roundg k4
                     case measure => have := HJ1.out; have := HK2.out; have := HK3.out; have := HK4.out; omega
                     case rel => exact ⟨(wrap64 (x135_4 + 1)), (rf__), H', ⟨by have := HJ1.out; have := HK2.out; have := HK3.out; have := HK4.out; omega⟩, ⟨blk__ BK270.out⟩, ⟨blk__ BK275.out⟩, ⟨blk__ BK286.out⟩, ⟨bel__⟩⟩
                   ·rw [if_neg c119] at H
                    exact absurd H (by simp)
                  ·rw [if_neg c118] at H
                   exact absurd H (by simp)
                 ·replace c117 := Bool.eq_false_iff.mpr c117
                  subst c117
                  have H1 : (some false) = some r := by rw [if_neg (show ¬ (false = true) by decide)] at H; exact H
                  clear H
                  have H := H1
                  clear H1
                  obtain rfl := Option.some.inj H
                  have p287 : 0 ≤ (x135_4 : Int) := of_decide_eq_true (by first | (with_reducible assumption) | assumption)
                  have q287 : x135_4 < (((rd_T91 l0_4 x127_3).f2.f1).length : Int) := of_decide_eq_true (by first | (with_reducible assumption) | assumption)
                  obtain ⟨ad287, e287, hx287_0⟩ := Kd.at_string HR285_3.out x135_4 p287 q287
                  cases e287
                  try replace hx287_0 := hb__ HB.out hx287_0
                  replace p287 := eq_true p287
                  replace q287 := eq_true q287
                  try go_wp2_with (first | ((with_reducible refine gate_callee (f := 58) rfl ?_); refine gl__ (some 141) Try.func58 #[.pointer (some ⟨gb270, 0, none⟩), .string (rdOf ByteArray.empty ((rd_T91 l0_4 x127_3).f2.f1) x135_4)] ?_; (with_reducible refine (impl_State_thing.calls gb270 _ _ l0_4 (rdOf ByteArray.empty ((rd_T91 l0_4 x127_3).f2.f1) x135_4) t288 false _ ?side1 HC0_4.out ((blk_cell (g := gb270) (t := 33) (cs := #[.int .i64 a0_0, .int .i64 a0_1, .int .i64 a0_2, .int .i64 a0_3, .slice (some ad285) l0_4.length c0_4, .slice A0_5 l0_5.length c0_5, .slice A0_6 l0_6.length c0_6]) (blk__ BK270.out) 4).trans rfl) A116.out).mono ?_); (case side1 => repeat (first | exact (Kd.C_below HR0_4.out HB.out) | (with_reducible refine Kd.C_alloc ?_ _) | (with_reducible refine Kd.C_drewN ?_ _) | (with_reducible refine Kd.C_drew ?_))); rintro e w125 ⟨rfl, hb⟩; refine ⟨_, rfl, ?_⟩; replace BK270 := am__ (blb__ BK270.out hb); replace BK275 := am__ (blb__ BK275.out hb); replace BK286 := am__ (blb__ BK286.out hb); replace HB := am__ (below_step (bel__) hb); clear hb))
                  replace BK270 := am__ (blk_drew BK270.out)
                  replace BK275 := am__ (blk_drew BK275.out)
                  replace BK286 := am__ (blk_drew BK286.out)
                  replace HB := am__ (below_drew1 HB.out)
                  refine st__ 13 ctr__ fun hHeld => ?_; refine with_tabW impl_ValidState.tab18 impl_ValidState.bits18 (fun HT_ HW_ => ?_)
                  generalize w125.drew = w126 at BK270 BK275 BK286 HB hHeld ⊢
                  refine v_ 0 ?_
                  refine v_ 1 ?_
                  refine v_ 2 ?_
                  refine u_ 3 ?_
                  refine u_ 4 ?_
                  refine u_ 5 ?_
                  refine u_ 6 ?_
                  refine u_ 7 ?_
                  refine u_ 8 ?_
                  refine u_ 9 ?_
                  refine u_ 10 ?_
                  refine u_ 11 ?_
                  refine v_ 12 ?_
                  refine done_ (done_of HT_.out (by kernel_rfl)) ?_
                  try go_wp2
                  go_ret
                  exact ⟨ee__, bel__⟩
                ·rw [if_neg c115] at H
                 exact absurd H (by simp)
               ·rw [if_neg c114] at H
                exact absurd H (by simp)
              ·rw [if_neg c113] at H
               have c113b0 := decide_eq_false c113
               clear c113
               have H' := Aside0.mk H
               clear H
               go_wp2
               go_roundg k4
               case measure => have := HJ1.out; have := HK2.out; have := HK3.out; have := HK4.out; omega
               case rel => exact ⟨(wrap64 (x127_3 + 1)), (rf__), H', ⟨by have := HJ1.out; have := HK2.out; have := HK3.out; have := HK4.out; omega⟩, ⟨blk__ BK270.out⟩, ⟨blk__ BK275.out⟩, ⟨bel__⟩⟩
           ·rw [if_neg c108] at H
            exact absurd H (by simp)
          ·rw [if_neg c107] at H
           exact absurd H (by simp)
         ·as_aux_lemma =>
          rw [if_neg c106] at H
          have c106b0 := decide_eq_false c106
          clear c106
          have H' := Aside0.mk H
          clear H
          have hnb127 := NB270_275.out
          have hnc127 := NB275_270.out
          obtain ⟨hcz128_0, hcz128_1, hcz128_2, hcz128_3, hcz128_4, hcz128_5, hcz128_6, hfz128_0, hfz128_1, hfz128_2, hfz128_3, hfz128_4, hfz128_5, hfz128_6⟩ := bk7__ BK270.out
          go_wp2
          go_loopg [162] k3 (fun kq v162 w' => ∃ (x162_4 : Int), v162 = .int .i64 x162_4 ∧ Aside0 (impl_ValidState.l3 kq l0_4 l0_5 (l0_5.length : Int) x162_4 a0_0 a0_1 a0_2 a0_3 l0_4 l0_5 l0_6 = some r) ∧ Aside0 (kq ≤ k3) ∧ Aside0 (w'.heap[gb270]? = some (.cells #[.int .i64 a0_0, .int .i64 a0_1, .int .i64 a0_2, .int .i64 a0_3, (.slice A0_4 l0_4.length c0_4), (.slice A0_5 l0_5.length c0_5), (.slice A0_6 l0_6.length c0_6)] 33 (0, 0))) ∧ Aside0 (w'.heap[gb275]? = some (mobj x276000_2)) ∧ Aside0 (Below w.heap.size w w'))
          case atStart => exact ⟨(0), (rf__), H', ⟨Nat.le_refl _⟩, ⟨blk__ BK270.out⟩, ⟨blk__ BK275.out⟩, ⟨bel__⟩⟩
          case round =>
           as_aux_lemma =>
           clear H'
           try clear c1
           try clear c2
           try clear p2
           try clear q2
           try clear hx2
           try clear c5
           try clear p6
           try clear c7
           try clear c10
           try clear c11
           try clear c12
           try clear c25
           try clear c25b0
           try clear c26
           try clear c27
           try clear c28
           try clear p28
           try clear q28
           try clear hx28
           try clear c29
           try clear p29
           try clear q29
           try clear hx29
           try clear c55
           try clear c56
           try clear c57
           try clear c58
           try clear p64
           try clear c71
           try clear c100
           try clear c101
           try clear c102
           try clear c104
           try clear c106
           try clear c106b0
           try clear c107
           try clear c107b0
           try clear c108
           try clear c108b0
           try clear c110
           try clear c111
           try clear c113
           try clear c113b0
           try clear c114
           try clear c114b0
           try clear c115
           try clear c115b0
           try clear c117
           try clear c118
           try clear c118b0
           try clear c119
           try clear c119b0
           try clear c120
           try clear c120b0
           try clear c127
           try clear hcz103_0 hfz103_0
           try clear hcz105_0 hcz105_1 hcz105_2 hcz105_3 hcz105_4 hcz105_5 hcz105_6 hfz105_0 hfz105_1 hfz105_2 hfz105_3 hfz105_4 hfz105_5 hfz105_6
           try clear hcz112_0 hcz112_1 hcz112_2 hcz112_3 hfz112_0 hfz112_1 hfz112_2 hfz112_3
           try clear hcz128_0 hcz128_1 hcz128_2 hcz128_3 hcz128_4 hcz128_5 hcz128_6 hfz128_0 hfz128_1 hfz128_2 hfz128_3 hfz128_4 hfz128_5 hfz128_6
           try clear hx285_0
           try clear hx285_1
           try clear hx285_2
           try clear hx285_3
           try clear hx287_0
           try clear hx290_0
           try clear hx290_1
           try clear hx290_2
           try clear hx290_3
           try clear p2
           try clear p28
           try clear p285
           try clear p287
           try clear p290
           try clear p6
           try clear p64
           try clear q2
           try clear q28
           try clear q285
           try clear q287
           try clear q290
           obtain ⟨x162_4, rfl, HA, HK4, BK270, BK275, HB⟩ := hrel
           cases gk with
           | zero => exact absurd HA.out (by simp [impl_ValidState.l3])
           | succ k4 =>
            have H := HA.out
            clear HA
            simp only [impl_ValidState.l3] at H
            by_cases c129 : x162_4 < (l0_5.length : Int)
            ·as_aux_lemma =>
             rw [if_pos c129] at H
             have c129b0 := decide_eq_true c129
             clear c129
             by_cases c130 : 0 ≤ x162_4
             ·as_aux_lemma =>
              rw [if_pos c130] at H
              have c130b0 := decide_eq_true c130
              clear c130
              by_cases c131 : x162_4 < (l0_5.length : Int)
              ·as_aux_lemma =>
               rw [if_pos c131] at H
               have c131b0 := decide_eq_true c131
               clear c131
               replace H := Option.bind_eq_some_iff.mp H
               obtain ⟨⟨t293, t294⟩, A1320, H⟩ := H
               replace H : (if t294 = true then ((impl_nameOk.f k4 ((rd_T82 l0_5 x162_4).f0)).bind fun t295 => (if t295 = true then (if x162_4 > 0 then (if 0 ≤ (wrap64 (x162_4 - 1)) then (if (wrap64 (x162_4 - 1)) < (l0_5.length : Int) then (impl_ValidState.j6 k4 l0_4 l0_5 (l0_5.length : Int) x162_4 (!(Op.bytesLess (((rd_T82 l0_5 (wrap64 (x162_4 - 1))).f0).toList) (((rd_T82 l0_5 x162_4).f0).toList))) a0_0 a0_1 a0_2 a0_3 l0_4 l0_5 l0_6) else (none)) else (none)) else (impl_ValidState.j6 k4 l0_4 l0_5 (l0_5.length : Int) x162_4 false a0_0 a0_1 a0_2 a0_3 l0_4 l0_5 l0_6)) else (impl_ValidState.j6 k4 l0_4 l0_5 (l0_5.length : Int) x162_4 true a0_0 a0_1 a0_2 a0_3 l0_4 l0_5 l0_6))) else (impl_ValidState.j6 k4 l0_4 l0_5 (l0_5.length : Int) x162_4 true a0_0 a0_1 a0_2 a0_3 l0_4 l0_5 l0_6)) = some r := H
               have A132 := Aside0.mk A1320
               clear A1320
               have HC133 := Aside0.mk H
               clear H
               have p291 : 0 ≤ (x162_4 : Int) := of_decide_eq_true (by first | (with_reducible assumption) | assumption)
               have q291 : x162_4 < (l0_5.length : Int) := of_decide_eq_true (by first | (with_reducible assumption) | assumption)
               obtain ⟨ad291, e291, hx291_0, hx291_1⟩ := at_T82 HR0_5.out x162_4 p291 q291
               cases e291
               try replace hx291_0 := hb__ HB.out hx291_0
               try replace hx291_1 := hb__ HB.out hx291_1
               replace p291 := eq_true p291
               replace q291 := eq_true q291
               go_upto_region 26 with (first | ((with_reducible refine gate_dst (N := 13) rfl ?_); (try (refine gate_guard (by rfl) ?_; dsimp only)); refine be__ 13 #[.string (⟨#[]⟩ : ByteArray), .string (⟨#[]⟩ : ByteArray)] 82 ?_; intro gb292 hg w134 hbox hb; have BK292 := am__ (hbox); have GW292 := am__ ((bsz__ hg bel__ : w.heap.size ≤ gb292)); have GE292 := am__ ((bsz__ hg bel__ : w.heap.size ≤ gb292)); replace HB := am__ (below_step (bel__) hb); have NB270_292 := am__ ((nl__ hg BK270.out : gb270 ≠ gb292)); have NB292_270 := am__ ((ng__ hg BK270.out : gb292 ≠ gb270)); replace BK270 := am__ (blb__ BK270.out hb); have NB275_292 := am__ ((nlt__ hg (blk_lt (g := gb275) (o := mobj x276000_2) (blk__ BK275.out)) : gb275 ≠ gb292)); have NB292_275 := am__ ((ngt__ hg (blk_lt (g := gb275) (o := mobj x276000_2) (blk__ BK275.out)) : gb292 ≠ gb275)); replace BK275 := am__ (blb__ BK275.out hb); clear hb hbox hg; have hnb135 := NB292_270.out; have hnc135 := NB270_292.out; have hnb136 := NB292_275.out; have hnc136 := NB275_292.out; obtain ⟨hcz137_0, hcz137_1, hfz137_0, hfz137_1⟩ := bk2__ BK292.out) | ((with_reducible refine gate_callee (f := 58) rfl ?_); refine gl__ (some 170) Try.func58 #[.pointer (some ⟨gb270, 0, none⟩), .string ((rd_T82 l0_5 x162_4).f1)] ?_; (with_reducible refine (impl_State_thing.calls gb270 _ _ l0_4 ((rd_T82 l0_5 x162_4).f1) t293 t294 _ ?side1 HC0_4.out ((blk_cell (g := gb270) (t := 33) (cs := #[.int .i64 a0_0, .int .i64 a0_1, .int .i64 a0_2, .int .i64 a0_3, .slice A0_4 l0_4.length c0_4, .slice (some ad291) l0_5.length c0_5, .slice A0_6 l0_6.length c0_6]) (blf2__ BK270.out) 4).trans rfl) A132.out).mono ?_); (case side1 => exact Kd.C_below HR0_4.out (bel__)); rintro e w138 ⟨rfl, hb⟩; refine ⟨_, rfl, ?_⟩; replace BK270 := am__ (blk_below (g := gb270) (o := .cells #[.int .i64 a0_0, .int .i64 a0_1, .int .i64 a0_2, .int .i64 a0_3, .slice A0_4 l0_4.length c0_4, .slice (some ad291) l0_5.length c0_5, .slice A0_6 l0_6.length c0_6] 33 (0, 0)) (blf2__ BK270.out) hb); replace BK275 := am__ (blk_below (g := gb275) (o := mobj x276000_2) (bmf__ BK275.out) hb); replace BK292 := am__ (blk_below (g := gb292) (o := .cells #[.string ((rd_T82 l0_5 x162_4).f0), .string ((rd_T82 l0_5 x162_4).f1)] 82 (0, 0)) (bpu__ BK292.out) hb); replace HB := am__ (below_step (bel__) hb); clear hb))
               (try simp only [Act.put, List.setIfInBounds_toArray, List.set_cons_zero, List.set_cons_succ])
               go_cut [196] (fun v196 wc => ∃ (kq : Nat) (x196_132 : Bool), v196 = .bool x196_132 ∧ Aside0 (impl_ValidState.j6 kq l0_4 l0_5 (l0_5.length : Int) x162_4 x196_132 a0_0 a0_1 a0_2 a0_3 l0_4 l0_5 l0_6 = some r) ∧ Aside0 (kq ≤ k4) ∧ Aside0 (wc.heap[gb270]? = some (.cells #[.int .i64 a0_0, .int .i64 a0_1, .int .i64 a0_2, .int .i64 a0_3, (.slice A0_4 l0_4.length c0_4), (.slice (some ad291) l0_5.length c0_5), (.slice A0_6 l0_6.length c0_6)] 33 (0, 0))) ∧ Aside0 (wc.heap[gb275]? = some (mobj x276000_2)) ∧ Aside0 (wc.heap[gb292]? = some (.cells #[.string ((rd_T82 l0_5 x162_4).f0), .string ((rd_T82 l0_5 x162_4).f1)] 82 (0, 0))) ∧ Aside0 (Below w.heap.size w wc))
               case first =>
                as_aux_lemma =>
                have H := HC133.out
                clear HC133
                by_cases c139 : t294 = true
                ·as_aux_lemma =>
                 subst c139
                 rw [if_pos rfl] at H
                 replace H := Option.bind_eq_some_iff.mp H
                 obtain ⟨t295, A1400, H⟩ := H
                 have A140 := Aside0.mk A1400
                 clear A1400
                 by_cases c141 : t295 = true
                 ·as_aux_lemma =>
                  subst c141
                  rw [if_pos rfl] at H
                  by_cases c142 : x162_4 > 0
                  ·as_aux_lemma =>
                   rw [if_pos c142] at H
                   have c142b0 : decide (0 < x162_4) = true := decide_eq_true c142
                   clear c142
                   (first | rw [c142b0] | (simp only [i64_w, i32_w]; rw [c142b0]) | skip)
                   obtain ⟨ji143, hji143⟩ : ∃ j_ : Int, (wrap64 (x162_4 - 1)) = j_ := ⟨_, rfl⟩
                   first | rw [hji143] at H | simp only [hji143] at H
                   (try rw [hji143] at A140)
                   have hji143w : (IntKind.i64.wrap (x162_4 - 1)) = ji143 := (i64_w _).trans hji143
                   by_cases c144 : 0 ≤ (ji143)
                   ·as_aux_lemma =>
                    rw [if_pos c144] at H
                    have c144b0 := decide_eq_true c144
                    clear c144
                    by_cases c145 : (ji143) < (l0_5.length : Int)
                    ·rw [if_pos c145] at H
                     have c145b0 := decide_eq_true c145
                     clear c145
                     have H' := Aside0.mk H
                     clear H
                     try go_wp2
                     replace BK270 := am__ (blk_drew BK270.out)
                     replace BK275 := am__ (blk_drew BK275.out)
                     replace BK292 := am__ (blk_drew BK292.out)
                     replace HB := am__ (below_drew1 HB.out)
                     have p296 : 0 ≤ ((ji143) : Int) := of_decide_eq_true (by first | (with_reducible assumption) | assumption)
                     have q296 : (ji143) < (l0_5.length : Int) := of_decide_eq_true (by first | (with_reducible assumption) | assumption)
                     obtain ⟨ad296, e296, hx296_0, hx296_1⟩ := at_T82 HR0_5.out (ji143) p296 q296
                     have hw296_1 := hx296_1
                     have hw296_0 := hx296_0
                     obtain rfl : ad291 = ad296 := (by injection e296)
                     try replace hx296_0 := hb__ HB.out hx296_0
                     try replace hx296_1 := hb__ HB.out hx296_1
                     replace p296 := eq_true p296
                     replace q296 := eq_true q296
                     refine st__ 24 (c2a__ BK292.out (c7a__ BK270.out (cha__ HB.out hw296_0 (che__ HB.out hw296_1)))) fun hHeld => ?_; refine with_tabW impl_ValidState.tab26 impl_ValidState.bits26 (fun HT_ HW_ => ?_)
                     generalize w138.drew = w146 at BK270 BK275 BK292 HB hx296_0 hx296_1 hHeld ⊢
                     refine v_ 0 ?_
                     refine v_ 1 ?_
                     refine v_ 2 ?_
                     refine v_ 3 ?_
                     refine t_ 4 ?_
                     refine o_ 5 fun K hK => ?_
                     refine gs__ Try.func59 #[.string ((rd_T82 l0_5 x162_4).f0)] ?_
                     with_reducible refine (impl_nameOk.calls k4 ((rd_T82 l0_5 x162_4).f0) true _ A140.out).mono ?_
                     rintro e w' ⟨rfl, ⟨nd, rfl⟩⟩
                     refine ⟨_, rfl, ?_⟩
                     refine hK.out _ _ ⟨bc__ BK292.out 0, bc__ BK292.out 1, bc__ BK270.out 0, bc__ BK270.out 1, bc__ BK270.out 2, bc__ BK270.out 3, bc__ BK270.out 4, bc__ BK270.out 5, bc__ BK270.out 6, (hd__ HB.out hw296_0), (hd__ HB.out hw296_1)⟩ (fun hHeld => ?_)
                     clear hK K
                     refine na__ 178 ?_
                     refine v_ 6 ?_
                     refine v_ 7 ?_
                     refine v_ 8 ?_
                     refine v_ 9 ?_
                     refine v_ 10 ?_
                     refine v_ 11 ?_
                     refine v_ 12 ?_
                     refine v_ 14 ?_
                     refine v_ 15 ?_
                     refine v_ 19 ?_
                     refine t_ 13 ?_
                     refine v_ 16 ?_
                     refine v_ 17 ?_
                     refine t_ 18 ?_
                     refine t_ 20 ?_
                     refine v_ 21 ?_
                     refine v_ 22 ?_
                     refine v_ 23 ?_
                     refine done_ (done_of HT_.out (by kernel_rfl)) ?_
                     try go_wp2
                     go_meet
                     case rel => exact ⟨_, (!(Op.bytesLess (((rd_T82 l0_5 (ji143)).f0).toList) (((rd_T82 l0_5 x162_4).f0).toList))), (by first | rfl | (simp; done) | (simp only [← hji143] <;> (first | rfl | simp)) | (simp [*]; done)), H', ⟨by have := HJ1.out; have := HK2.out; have := HK3.out; have := HK4.out; first | omega | exact Nat.le_refl _⟩, ⟨blk__ BK270.out⟩, ⟨blk__ BK275.out⟩, ⟨blk__ BK292.out⟩, ⟨bel__⟩⟩
                    ·rw [if_neg c145] at H
                     exact absurd H (by simp)
                   ·rw [if_neg c144] at H
                    exact absurd H (by simp)
                  ·rw [if_neg c142] at H
                   have c142b0 : decide (0 < x162_4) = false := decide_eq_false c142
                   clear c142
                   (first | rw [c142b0] | (simp only [i64_w, i32_w]; rw [c142b0]) | skip)
                   have H' := Aside0.mk H
                   clear H
                   try go_wp2
                   replace BK270 := am__ (blk_drew BK270.out)
                   replace BK275 := am__ (blk_drew BK275.out)
                   replace BK292 := am__ (blk_drew BK292.out)
                   replace HB := am__ (below_drew1 HB.out)
                   refine st__ 24 (c2e__ BK292.out) fun hHeld => ?_; refine with_tabW impl_ValidState.tab26 impl_ValidState.bits26 (fun HT_ HW_ => ?_)
                   generalize w138.drew = w147 at BK270 BK275 BK292 HB hHeld ⊢
                   refine v_ 0 ?_
                   refine v_ 1 ?_
                   refine v_ 2 ?_
                   refine v_ 3 ?_
                   refine t_ 4 ?_
                   refine o_ 5 fun K hK => ?_
                   refine gs__ Try.func59 #[.string ((rd_T82 l0_5 x162_4).f0)] ?_
                   with_reducible refine (impl_nameOk.calls k4 ((rd_T82 l0_5 x162_4).f0) true _ A140.out).mono ?_
                   rintro e w' ⟨rfl, ⟨nd, rfl⟩⟩
                   refine ⟨_, rfl, ?_⟩
                   refine hK.out _ _ ⟨bc__ BK292.out 0, bc__ BK292.out 1⟩ (fun hHeld => ?_)
                   clear hK K
                   refine na__ 178 ?_
                   refine v_ 6 ?_
                   refine v_ 7 ?_
                   refine v_ 8 ?_
                   refine v_ 9 ?_
                   refine v_ 10 ?_
                   refine v_ 11 ?_
                   refine u_ 12 ?_
                   refine u_ 13 ?_
                   refine u_ 14 ?_
                   refine u_ 15 ?_
                   refine u_ 16 ?_
                   refine u_ 17 ?_
                   refine u_ 18 ?_
                   refine u_ 19 ?_
                   refine u_ 20 ?_
                   refine u_ 21 ?_
                   refine v_ 22 ?_
                   refine v_ 23 ?_
                   refine done_ (done_of HT_.out (by kernel_rfl)) ?_
                   try go_wp2
                   go_meet
                   case rel => exact ⟨_, (false), (rf__), H', ⟨by have := HJ1.out; have := HK2.out; have := HK3.out; have := HK4.out; first | omega | exact Nat.le_refl _⟩, ⟨blk__ BK270.out⟩, ⟨blk__ BK275.out⟩, ⟨blk__ BK292.out⟩, ⟨bel__⟩⟩
                 ·replace c141 := Bool.eq_false_iff.mpr c141
                  subst c141
                  have H1 : (impl_ValidState.j6 k4 l0_4 l0_5 (l0_5.length : Int) x162_4 true a0_0 a0_1 a0_2 a0_3 l0_4 l0_5 l0_6) = some r := by rw [if_neg (show ¬ (false = true) by decide)] at H; exact H
                  clear H
                  have H := H1
                  clear H1
                  have H' := Aside0.mk H
                  clear H
                  try go_wp2
                  replace BK270 := am__ (blk_drew BK270.out)
                  replace BK275 := am__ (blk_drew BK275.out)
                  replace BK292 := am__ (blk_drew BK292.out)
                  replace HB := am__ (below_drew1 HB.out)
                  refine st__ 24 (c2e__ BK292.out) fun hHeld => ?_; refine with_tabW impl_ValidState.tab26 impl_ValidState.bits26 (fun HT_ HW_ => ?_)
                  generalize w138.drew = w148 at BK270 BK275 BK292 HB hHeld ⊢
                  refine v_ 0 ?_
                  refine v_ 1 ?_
                  refine v_ 2 ?_
                  refine v_ 3 ?_
                  refine t_ 4 ?_
                  refine o_ 5 fun K hK => ?_
                  refine gs__ Try.func59 #[.string ((rd_T82 l0_5 x162_4).f0)] ?_
                  with_reducible refine (impl_nameOk.calls k4 ((rd_T82 l0_5 x162_4).f0) false _ A140.out).mono ?_
                  rintro e w' ⟨rfl, ⟨nd, rfl⟩⟩
                  refine ⟨_, rfl, ?_⟩
                  refine hK.out _ _ ⟨bc__ BK292.out 0, bc__ BK292.out 1⟩ (fun hHeld => ?_)
                  clear hK K
                  refine na__ 178 ?_
                  refine v_ 6 ?_
                  refine v_ 7 ?_
                  refine v_ 8 ?_
                  refine u_ 9 ?_
                  refine u_ 10 ?_
                  refine u_ 11 ?_
                  refine u_ 12 ?_
                  refine u_ 13 ?_
                  refine u_ 14 ?_
                  refine u_ 15 ?_
                  refine u_ 16 ?_
                  refine u_ 17 ?_
                  refine u_ 18 ?_
                  refine u_ 19 ?_
                  refine u_ 20 ?_
                  refine u_ 21 ?_
                  refine u_ 22 ?_
                  refine v_ 23 ?_
                  refine done_ (done_of HT_.out (by kernel_rfl)) ?_
                  try go_wp2
                  go_meet
                  case rel => exact ⟨_, (true), (rf__), H', ⟨by have := HJ1.out; have := HK2.out; have := HK3.out; have := HK4.out; first | omega | exact Nat.le_refl _⟩, ⟨blk__ BK270.out⟩, ⟨blk__ BK275.out⟩, ⟨blk__ BK292.out⟩, ⟨bel__⟩⟩
                ·replace c139 := Bool.eq_false_iff.mpr c139
                 subst c139
                 have H1 : (impl_ValidState.j6 k4 l0_4 l0_5 (l0_5.length : Int) x162_4 true a0_0 a0_1 a0_2 a0_3 l0_4 l0_5 l0_6) = some r := by rw [if_neg (show ¬ (false = true) by decide)] at H; exact H
                 clear H
                 have H := H1
                 clear H1
                 have H' := Aside0.mk H
                 clear H
                 try go_wp2
                 replace BK270 := am__ (blk_drew BK270.out)
                 replace BK275 := am__ (blk_drew BK275.out)
                 replace BK292 := am__ (blk_drew BK292.out)
                 replace HB := am__ (below_drew1 HB.out)
                 refine st__ 24 ctr__ fun hHeld => ?_; refine with_tabW impl_ValidState.tab26 impl_ValidState.bits26 (fun HT_ HW_ => ?_)
                 generalize w138.drew = w149 at BK270 BK275 BK292 HB hHeld ⊢
                 refine v_ 0 ?_
                 refine v_ 1 ?_
                 refine v_ 2 ?_
                 refine u_ 3 ?_
                 refine u_ 4 ?_
                 refine u_ 5 ?_
                 refine u_ 6 ?_
                 refine v_ 7 ?_
                 refine v_ 8 ?_
                 refine u_ 9 ?_
                 refine u_ 10 ?_
                 refine u_ 11 ?_
                 refine u_ 12 ?_
                 refine u_ 13 ?_
                 refine u_ 14 ?_
                 refine u_ 15 ?_
                 refine u_ 16 ?_
                 refine u_ 17 ?_
                 refine u_ 18 ?_
                 refine u_ 19 ?_
                 refine u_ 20 ?_
                 refine u_ 21 ?_
                 refine u_ 22 ?_
                 refine v_ 23 ?_
                 refine done_ (done_of HT_.out (by kernel_rfl)) ?_
                 try go_wp2
                 go_meet
                 case rel => exact ⟨_, (true), (rf__), H', ⟨by have := HJ1.out; have := HK2.out; have := HK3.out; have := HK4.out; first | omega | exact Nat.le_refl _⟩, ⟨blk__ BK270.out⟩, ⟨blk__ BK275.out⟩, ⟨blk__ BK292.out⟩, ⟨bel__⟩⟩
               case rest =>
                clear HC133
                try clear c1
                try clear p2
                try clear c5
                try clear c13
                try clear c14
                try clear c59
                try clear c139
                try clear c141
                try clear c142
                try clear c142b0
                try clear c144
                try clear c145
                obtain ⟨kq, x196_132, rfl, HA, HJ132, BK270, BK275, BK292, HB⟩ := hcut
                cases kq with
                | zero => exact absurd HA.out (by simp [impl_ValidState.j6])
                | succ kj132 =>
                 have H := HA.out
                 clear HA
                 simp only [impl_ValidState.j6] at H
                 by_cases c150 : x196_132 = true
                 ·subst c150
                  rw [if_pos rfl] at H
                  obtain rfl := Option.some.inj H
                  go_wp2
                  go_ret
                  exact ⟨ee__, bel__⟩
                 ·replace c150 := Bool.eq_false_iff.mpr c150
                  subst c150
                  have H1 : (impl_ValidState.l3 kj132 l0_4 l0_5 (l0_5.length : Int) (wrap64 (x162_4 + 1)) a0_0 a0_1 a0_2 a0_3 l0_4 l0_5 l0_6) = some r := by rw [if_neg (show ¬ (false = true) by decide)] at H; exact H
                  clear H
                  have H := H1
                  clear H1
                  have H' := Aside0.mk H
                  clear H
                  go_wp2
                  go_roundg kj132
                  case measure => have := HJ1.out; have := HK2.out; have := HK3.out; have := HK4.out; have := HJ132.out; omega
                  case rel => exact ⟨(wrap64 (x162_4 + 1)), (rf__), H', ⟨by have := HJ1.out; have := HK2.out; have := HK3.out; have := HK4.out; have := HJ132.out; omega⟩, ⟨blk__ BK270.out⟩, ⟨blk__ BK275.out⟩, ⟨bel__⟩⟩
              ·rw [if_neg c131] at H
               exact absurd H (by simp)
             ·rw [if_neg c130] at H
              exact absurd H (by simp)
            ·as_aux_lemma =>
             rw [if_neg c129] at H
             have c129b0 := decide_eq_false c129
             clear c129
             have H' := Aside0.mk H
             clear H
             have hnb151 := NB270_275.out
             have hnc151 := NB275_270.out
             obtain ⟨hcz152_0, hcz152_1, hcz152_2, hcz152_3, hcz152_4, hcz152_5, hcz152_6, hfz152_0, hfz152_1, hfz152_2, hfz152_3, hfz152_4, hfz152_5, hfz152_6⟩ := bk7__ BK270.out
             go_wp2
             go_loopg [201] k4 (fun kq v201 w' => ∃ (x201_5 : Int), v201 = .int .i64 x201_5 ∧ Aside0 (impl_ValidState.l4 kq l0_4 l0_6 (l0_6.length : Int) x201_5 a0_0 a0_1 a0_2 a0_3 l0_4 l0_5 l0_6 = some r) ∧ Aside0 (kq ≤ k4) ∧ Aside0 (w'.heap[gb270]? = some (.cells #[.int .i64 a0_0, .int .i64 a0_1, .int .i64 a0_2, .int .i64 a0_3, (.slice A0_4 l0_4.length c0_4), (.slice A0_5 l0_5.length c0_5), (.slice A0_6 l0_6.length c0_6)] 33 (0, 0))) ∧ Aside0 (w'.heap[gb275]? = some (mobj x276000_2)) ∧ Aside0 (Below w.heap.size w w'))
             case atStart => exact ⟨(0), (rf__), H', ⟨Nat.le_refl _⟩, ⟨blk__ BK270.out⟩, ⟨blk__ BK275.out⟩, ⟨bel__⟩⟩
             case round =>
              as_aux_lemma =>
              clear H'
              try clear c1
              try clear p2
              try clear c5
              try clear p6
              try clear c12
              try clear c13
              try clear c14
              try clear c15
              try clear c59
              try clear p64
              try clear c129
              try clear c129b0
              try clear c130
              try clear c131
              try clear c139
              try clear c141
              try clear c142
              try clear c142b0
              try clear c144
              try clear c145
              try clear c150
              try clear c151
              try clear hcz152_0 hcz152_1 hcz152_2 hcz152_3 hcz152_4 hcz152_5 hcz152_6 hfz152_0 hfz152_1 hfz152_2 hfz152_3 hfz152_4 hfz152_5 hfz152_6
              try clear p2
              obtain ⟨x201_5, rfl, HA, HK5, BK270, BK275, HB⟩ := hrel
              cases gk with
              | zero => exact absurd HA.out (by simp [impl_ValidState.l4])
              | succ k5 =>
               have H := HA.out
               clear HA
               simp only [impl_ValidState.l4] at H
               by_cases c153 : x201_5 < (l0_6.length : Int)
               ·as_aux_lemma =>
                rw [if_pos c153] at H
                have c153b0 := decide_eq_true c153
                clear c153
                by_cases c154 : 0 ≤ x201_5
                ·as_aux_lemma =>
                 rw [if_pos c154] at H
                 have c154b0 := decide_eq_true c154
                 clear c154
                 by_cases c155 : x201_5 < (l0_6.length : Int)
                 ·as_aux_lemma =>
                  rw [if_pos c155] at H
                  have c155b0 := decide_eq_true c155
                  clear c155
                  replace H := Option.bind_eq_some_iff.mp H
                  obtain ⟨⟨t299, t300⟩, A1560, H⟩ := H
                  replace H : (if t300 = true then (if ((rd_T85 l0_6 x201_5).f0) < 1 then (impl_ValidState.j8 k5 l0_4 l0_6 (l0_6.length : Int) x201_5 true a0_0 a0_1 a0_2 a0_3 l0_4 l0_5 l0_6) else (if ((rd_T85 l0_6 x201_5).f0) > a0_2 then (impl_ValidState.j8 k5 l0_4 l0_6 (l0_6.length : Int) x201_5 true a0_0 a0_1 a0_2 a0_3 l0_4 l0_5 l0_6) else (if x201_5 > 0 then (if 0 ≤ (wrap64 (x201_5 - 1)) then (if (wrap64 (x201_5 - 1)) < (l0_6.length : Int) then (if ((rd_T85 l0_6 (wrap64 (x201_5 - 1))).f0) ≥ ((rd_T85 l0_6 x201_5).f0) then (impl_ValidState.j8 k5 l0_4 l0_6 (l0_6.length : Int) x201_5 true a0_0 a0_1 a0_2 a0_3 l0_4 l0_5 l0_6) else (if ((rd_T85 l0_6 x201_5).f2) ≤ a0_1 then (impl_ValidState.j8 k5 l0_4 l0_6 (l0_6.length : Int) x201_5 true a0_0 a0_1 a0_2 a0_3 l0_4 l0_5 l0_6) else (impl_ValidState.j8 k5 l0_4 l0_6 (l0_6.length : Int) x201_5 (decide (((rd_T85 l0_6 x201_5).f2) > (wrap64 (a0_1 + 100000)))) a0_0 a0_1 a0_2 a0_3 l0_4 l0_5 l0_6))) else (none)) else (none)) else (if ((rd_T85 l0_6 x201_5).f2) ≤ a0_1 then (impl_ValidState.j8 k5 l0_4 l0_6 (l0_6.length : Int) x201_5 true a0_0 a0_1 a0_2 a0_3 l0_4 l0_5 l0_6) else (impl_ValidState.j8 k5 l0_4 l0_6 (l0_6.length : Int) x201_5 (decide (((rd_T85 l0_6 x201_5).f2) > (wrap64 (a0_1 + 100000)))) a0_0 a0_1 a0_2 a0_3 l0_4 l0_5 l0_6))))) else (impl_ValidState.j8 k5 l0_4 l0_6 (l0_6.length : Int) x201_5 true a0_0 a0_1 a0_2 a0_3 l0_4 l0_5 l0_6)) = some r := H
                  have A156 := Aside0.mk A1560
                  clear A1560
                  have HC157 := Aside0.mk H
                  clear H
                  have p297 : 0 ≤ (x201_5 : Int) := of_decide_eq_true (by first | (with_reducible assumption) | assumption)
                  have q297 : x201_5 < (l0_6.length : Int) := of_decide_eq_true (by first | (with_reducible assumption) | assumption)
                  obtain ⟨ad297, e297, hx297_0, hx297_1, hx297_2⟩ := at_T85 HR0_6.out x201_5 p297 q297
                  cases e297
                  try replace hx297_0 := hb__ HB.out hx297_0
                  try replace hx297_1 := hb__ HB.out hx297_1
                  try replace hx297_2 := hb__ HB.out hx297_2
                  replace p297 := eq_true p297
                  replace q297 := eq_true q297
                  go_upto_region 33 with (first | ((with_reducible refine gate_dst (N := 17) rfl ?_); (try (refine gate_guard (by rfl) ?_; dsimp only)); refine be__ 17 #[.int .i64 0, .string (⟨#[]⟩ : ByteArray), .int .i64 0] 85 ?_; intro gb298 hg w158 hbox hb; have BK298 := am__ (hbox); have GW298 := am__ ((bsz__ hg bel__ : w.heap.size ≤ gb298)); have GE298 := am__ ((bsz__ hg bel__ : w.heap.size ≤ gb298)); replace HB := am__ (below_step (bel__) hb); have NB270_298 := am__ ((nl__ hg BK270.out : gb270 ≠ gb298)); have NB298_270 := am__ ((ng__ hg BK270.out : gb298 ≠ gb270)); replace BK270 := am__ (blb__ BK270.out hb); have NB275_298 := am__ ((nlt__ hg (blk_lt (g := gb275) (o := mobj x276000_2) (blk__ BK275.out)) : gb275 ≠ gb298)); have NB298_275 := am__ ((ngt__ hg (blk_lt (g := gb275) (o := mobj x276000_2) (blk__ BK275.out)) : gb298 ≠ gb275)); replace BK275 := am__ (blb__ BK275.out hb); clear hb hbox hg; have hnb159 := NB298_270.out; have hnc159 := NB270_298.out; have hnb160 := NB298_275.out; have hnc160 := NB275_298.out; obtain ⟨hcz161_0, hcz161_1, hcz161_2, hfz161_0, hfz161_1, hfz161_2⟩ := bk3__ BK298.out) | ((with_reducible refine gate_callee (f := 58) rfl ?_); refine gl__ (some 209) Try.func58 #[.pointer (some ⟨gb270, 0, none⟩), .string ((rd_T85 l0_6 x201_5).f1)] ?_; (with_reducible refine (impl_State_thing.calls gb270 _ _ l0_4 ((rd_T85 l0_6 x201_5).f1) t299 t300 _ ?side1 HC0_4.out ((blk_cell (g := gb270) (t := 33) (cs := #[.int .i64 a0_0, .int .i64 a0_1, .int .i64 a0_2, .int .i64 a0_3, .slice A0_4 l0_4.length c0_4, .slice A0_5 l0_5.length c0_5, .slice (some ad297) l0_6.length c0_6]) (blf3__ BK270.out) 4).trans rfl) A156.out).mono ?_); (case side1 => exact Kd.C_below HR0_4.out (bel__)); rintro e w162 ⟨rfl, hb⟩; refine ⟨_, rfl, ?_⟩; replace BK270 := am__ (blk_below (g := gb270) (o := .cells #[.int .i64 a0_0, .int .i64 a0_1, .int .i64 a0_2, .int .i64 a0_3, .slice A0_4 l0_4.length c0_4, .slice A0_5 l0_5.length c0_5, .slice (some ad297) l0_6.length c0_6] 33 (0, 0)) (blf3__ BK270.out) hb); replace BK275 := am__ (blk_below (g := gb275) (o := mobj x276000_2) (bmf__ BK275.out) hb); replace BK298 := am__ (blk_below (g := gb298) (o := .cells #[.int .i64 ((rd_T85 l0_6 x201_5).f0), .string ((rd_T85 l0_6 x201_5).f1), .int .i64 ((rd_T85 l0_6 x201_5).f2)] 85 (0, 0)) (bpu__ BK298.out) hb); replace HB := am__ (below_step (bel__) hb); clear hb))
                  (try simp only [Act.put, List.setIfInBounds_toArray, List.set_cons_zero, List.set_cons_succ])
                  go_cut [256] (fun v256 wc => ∃ (kq : Nat) (x256_156 : Bool), v256 = .bool x256_156 ∧ Aside0 (impl_ValidState.j8 kq l0_4 l0_6 (l0_6.length : Int) x201_5 x256_156 a0_0 a0_1 a0_2 a0_3 l0_4 l0_5 l0_6 = some r) ∧ Aside0 (kq ≤ k5) ∧ Aside0 (wc.heap[gb270]? = some (.cells #[.int .i64 a0_0, .int .i64 a0_1, .int .i64 a0_2, .int .i64 a0_3, (.slice A0_4 l0_4.length c0_4), (.slice A0_5 l0_5.length c0_5), (.slice (some ad297) l0_6.length c0_6)] 33 (0, 0))) ∧ Aside0 (wc.heap[gb275]? = some (mobj x276000_2)) ∧ Aside0 (wc.heap[gb298]? = some (.cells #[.int .i64 ((rd_T85 l0_6 x201_5).f0), .string ((rd_T85 l0_6 x201_5).f1), .int .i64 ((rd_T85 l0_6 x201_5).f2)] 85 (0, 0))) ∧ Aside0 (Below w.heap.size w wc))
                  case first =>
                   as_aux_lemma =>
                   have H := HC157.out
                   clear HC157
                   by_cases c163 : t300 = true
                   ·as_aux_lemma =>
                    subst c163
                    rw [if_pos rfl] at H
                    by_cases c164 : ((rd_T85 l0_6 x201_5).f0) < 1
                    ·as_aux_lemma =>
                     rw [if_pos c164] at H
                     have c164b0 := decide_eq_true c164
                     clear c164
                     (first | rw [c164b0] | (simp only [i64_w, i32_w]; rw [c164b0]) | skip)
                     have H' := Aside0.mk H
                     clear H
                     try go_wp2
                     replace BK270 := am__ (blk_drew BK270.out)
                     replace BK275 := am__ (blk_drew BK275.out)
                     replace BK298 := am__ (blk_drew BK298.out)
                     replace HB := am__ (below_drew1 HB.out)
                     refine st__ 45 (c3e__ BK298.out) fun hHeld => ?_; refine with_tabW impl_ValidState.tab33 impl_ValidState.bits33 (fun HT_ HW_ => ?_)
                     generalize w162.drew = w165 at BK270 BK275 BK298 HB hHeld ⊢
                     refine v_ 0 ?_
                     refine v_ 1 ?_
                     refine v_ 2 ?_
                     refine v_ 3 ?_
                     refine t_ 4 ?_
                     refine v_ 5 ?_
                     refine v_ 6 ?_
                     refine v_ 7 ?_
                     refine u_ 8 ?_
                     refine u_ 9 ?_
                     refine u_ 10 ?_
                     refine u_ 11 ?_
                     refine u_ 12 ?_
                     refine v_ 13 ?_
                     refine v_ 14 ?_
                     refine u_ 15 ?_
                     refine u_ 16 ?_
                     refine u_ 17 ?_
                     refine u_ 18 ?_
                     refine u_ 19 ?_
                     refine u_ 20 ?_
                     refine u_ 21 ?_
                     refine u_ 22 ?_
                     refine u_ 23 ?_
                     refine u_ 24 ?_
                     refine u_ 25 ?_
                     refine u_ 26 ?_
                     refine u_ 27 ?_
                     refine u_ 28 ?_
                     refine v_ 29 ?_
                     refine v_ 30 ?_
                     refine u_ 31 ?_
                     refine u_ 32 ?_
                     refine u_ 33 ?_
                     refine u_ 34 ?_
                     refine u_ 35 ?_
                     refine v_ 36 ?_
                     refine v_ 37 ?_
                     refine u_ 38 ?_
                     refine u_ 39 ?_
                     refine u_ 40 ?_
                     refine u_ 41 ?_
                     refine u_ 42 ?_
                     refine u_ 43 ?_
                     refine v_ 44 ?_
                     refine done_ (done_of HT_.out (by kernel_rfl)) ?_
                     try go_wp2
                     go_meet
                     case rel => exact ⟨_, (true), (rf__), H', ⟨by have := HJ1.out; have := HK2.out; have := HK3.out; have := HK4.out; have := HK5.out; first | omega | exact Nat.le_refl _⟩, ⟨blk__ BK270.out⟩, ⟨blk__ BK275.out⟩, ⟨blk__ BK298.out⟩, ⟨bel__⟩⟩
                    ·as_aux_lemma =>
                     rw [if_neg c164] at H
                     have c164b0 := decide_eq_false c164
                     clear c164
                     (first | rw [c164b0] | (simp only [i64_w, i32_w]; rw [c164b0]) | skip)
                     by_cases c166 : ((rd_T85 l0_6 x201_5).f0) > a0_2
                     ·as_aux_lemma =>
                      rw [if_pos c166] at H
                      have c166b0 : decide (a0_2 < ((rd_T85 l0_6 x201_5).f0)) = true := decide_eq_true c166
                      clear c166
                      have H' := Aside0.mk H
                      clear H
                      try go_wp2
                      replace BK270 := am__ (blk_drew BK270.out)
                      replace BK275 := am__ (blk_drew BK275.out)
                      replace BK298 := am__ (blk_drew BK298.out)
                      replace HB := am__ (below_drew1 HB.out)
                      refine st__ 45 (c3a__ BK298.out (c7e__ BK270.out)) fun hHeld => ?_; refine with_tabW impl_ValidState.tab33 impl_ValidState.bits33 (fun HT_ HW_ => ?_)
                      generalize w162.drew = w167 at BK270 BK275 BK298 HB hHeld ⊢
                      refine v_ 0 ?_
                      refine v_ 1 ?_
                      refine v_ 2 ?_
                      refine v_ 3 ?_
                      refine t_ 4 ?_
                      refine v_ 5 ?_
                      refine v_ 6 ?_
                      refine v_ 7 ?_
                      refine v_ 8 ?_
                      refine v_ 10 ?_
                      refine t_ 9 ?_
                      refine t_ 11 ?_
                      refine v_ 12 ?_
                      refine v_ 13 ?_
                      refine v_ 14 ?_
                      refine u_ 15 ?_
                      refine u_ 16 ?_
                      refine u_ 17 ?_
                      refine u_ 18 ?_
                      refine u_ 19 ?_
                      refine u_ 20 ?_
                      refine u_ 21 ?_
                      refine u_ 22 ?_
                      refine u_ 23 ?_
                      refine u_ 24 ?_
                      refine u_ 25 ?_
                      refine u_ 26 ?_
                      refine u_ 27 ?_
                      refine u_ 28 ?_
                      refine v_ 29 ?_
                      refine v_ 30 ?_
                      refine u_ 31 ?_
                      refine u_ 32 ?_
                      refine u_ 33 ?_
                      refine u_ 34 ?_
                      refine u_ 35 ?_
                      refine v_ 36 ?_
                      refine v_ 37 ?_
                      refine u_ 38 ?_
                      refine u_ 39 ?_
                      refine u_ 40 ?_
                      refine u_ 41 ?_
                      refine u_ 42 ?_
                      refine u_ 43 ?_
                      refine v_ 44 ?_
                      refine done_ (done_of HT_.out (by kernel_rfl)) ?_
                      try go_wp2
                      go_meet
                      case rel => exact ⟨_, (true), (rf__), H', ⟨by have := HJ1.out; have := HK2.out; have := HK3.out; have := HK4.out; have := HK5.out; first | omega | exact Nat.le_refl _⟩, ⟨blk__ BK270.out⟩, ⟨blk__ BK275.out⟩, ⟨blk__ BK298.out⟩, ⟨bel__⟩⟩
                     ·as_aux_lemma =>
                      rw [if_neg c166] at H
                      have c166b0 : decide (a0_2 < ((rd_T85 l0_6 x201_5).f0)) = false := decide_eq_false c166
                      clear c166
                      by_cases c168 : x201_5 > 0
                      ·as_aux_lemma =>
                       rw [if_pos c168] at H
                       have c168b0 : decide (0 < x201_5) = true := decide_eq_true c168
                       clear c168
                       obtain ⟨ji169, hji169⟩ : ∃ j_ : Int, (wrap64 (x201_5 - 1)) = j_ := ⟨_, rfl⟩
                       first | rw [hji169] at H | simp only [hji169] at H
                       have hji169w : (IntKind.i64.wrap (x201_5 - 1)) = ji169 := (i64_w _).trans hji169
                       by_cases c170 : 0 ≤ (ji169)
                       ·as_aux_lemma =>
                        rw [if_pos c170] at H
                        have c170b0 := decide_eq_true c170
                        clear c170
                        by_cases c171 : (ji169) < (l0_6.length : Int)
                        ·as_aux_lemma =>
                         rw [if_pos c171] at H
                         have c171b0 := decide_eq_true c171
                         clear c171
                         by_cases c172 : ((rd_T85 l0_6 (ji169)).f0) ≥ ((rd_T85 l0_6 x201_5).f0)
                         ·as_aux_lemma =>
                          rw [if_pos c172] at H
                          have c172b0 : decide (((rd_T85 l0_6 x201_5).f0) ≤ ((rd_T85 l0_6 (ji169)).f0)) = true := decide_eq_true c172
                          clear c172
                          have H' := Aside0.mk H
                          clear H
                          try go_wp2
                          replace BK270 := am__ (blk_drew BK270.out)
                          replace BK275 := am__ (blk_drew BK275.out)
                          replace BK298 := am__ (blk_drew BK298.out)
                          replace HB := am__ (below_drew1 HB.out)
                          have p301 : 0 ≤ ((ji169) : Int) := of_decide_eq_true (by first | (with_reducible assumption) | assumption)
                          have q301 : (ji169) < (l0_6.length : Int) := of_decide_eq_true (by first | (with_reducible assumption) | assumption)
                          obtain ⟨ad301, e301, hx301_0, hx301_1, hx301_2⟩ := at_T85 HR0_6.out (ji169) p301 q301
                          have hw301_2 := hx301_2
                          have hw301_1 := hx301_1
                          have hw301_0 := hx301_0
                          obtain rfl : ad297 = ad301 := (by injection e301)
                          try replace hx301_0 := hb__ HB.out hx301_0
                          try replace hx301_1 := hb__ HB.out hx301_1
                          try replace hx301_2 := hb__ HB.out hx301_2
                          replace p301 := eq_true p301
                          replace q301 := eq_true q301
                          refine st__ 45 (c3a__ BK298.out (c7a__ BK270.out (cha__ HB.out hw301_0 (cha__ HB.out hw301_1 (che__ HB.out hw301_2))))) fun hHeld => ?_; refine with_tabW impl_ValidState.tab33 impl_ValidState.bits33 (fun HT_ HW_ => ?_)
                          generalize w162.drew = w173 at BK270 BK275 BK298 HB hx301_0 hx301_1 hx301_2 hHeld ⊢
                          refine v_ 0 ?_
                          refine v_ 1 ?_
                          refine v_ 2 ?_
                          refine v_ 3 ?_
                          refine t_ 4 ?_
                          refine v_ 5 ?_
                          refine v_ 6 ?_
                          refine v_ 7 ?_
                          refine v_ 8 ?_
                          refine v_ 10 ?_
                          refine t_ 9 ?_
                          refine t_ 11 ?_
                          refine v_ 12 ?_
                          refine v_ 13 ?_
                          refine v_ 14 ?_
                          refine v_ 15 ?_
                          refine v_ 16 ?_
                          refine v_ 17 ?_
                          refine v_ 18 ?_
                          refine v_ 20 ?_
                          refine v_ 21 ?_
                          refine v_ 25 ?_
                          refine t_ 19 ?_
                          refine v_ 22 ?_
                          refine v_ 23 ?_
                          refine t_ 24 ?_
                          refine t_ 26 ?_
                          refine v_ 27 ?_
                          refine v_ 28 ?_
                          refine v_ 29 ?_
                          refine v_ 30 ?_
                          refine u_ 31 ?_
                          refine u_ 32 ?_
                          refine u_ 33 ?_
                          refine u_ 34 ?_
                          refine u_ 35 ?_
                          refine v_ 36 ?_
                          refine v_ 37 ?_
                          refine u_ 38 ?_
                          refine u_ 39 ?_
                          refine u_ 40 ?_
                          refine u_ 41 ?_
                          refine u_ 42 ?_
                          refine u_ 43 ?_
                          refine v_ 44 ?_
                          refine done_ (done_of HT_.out (by kernel_rfl)) ?_
                          try go_wp2
                          go_meet
                          case rel => exact ⟨_, (true), (rf__), H', ⟨by have := HJ1.out; have := HK2.out; have := HK3.out; have := HK4.out; have := HK5.out; first | omega | exact Nat.le_refl _⟩, ⟨blk__ BK270.out⟩, ⟨blk__ BK275.out⟩, ⟨blk__ BK298.out⟩, ⟨bel__⟩⟩
                         ·as_aux_lemma =>
                          rw [if_neg c172] at H
                          have c172b0 : decide (((rd_T85 l0_6 x201_5).f0) ≤ ((rd_T85 l0_6 (ji169)).f0)) = false := decide_eq_false c172
                          clear c172
                          by_cases c174 : ((rd_T85 l0_6 x201_5).f2) ≤ a0_1
                          ·as_aux_lemma =>
                           rw [if_pos c174] at H
                           have c174b0 := decide_eq_true c174
                           clear c174
                           have H' := Aside0.mk H
                           clear H
                           try go_wp2
                           replace BK270 := am__ (blk_drew BK270.out)
                           replace BK275 := am__ (blk_drew BK275.out)
                           replace BK298 := am__ (blk_drew BK298.out)
                           replace HB := am__ (below_drew1 HB.out)
                           have p301 : 0 ≤ ((ji169) : Int) := of_decide_eq_true (by first | (with_reducible assumption) | assumption)
                           have q301 : (ji169) < (l0_6.length : Int) := of_decide_eq_true (by first | (with_reducible assumption) | assumption)
                           obtain ⟨ad301, e301, hx301_0, hx301_1, hx301_2⟩ := at_T85 HR0_6.out (ji169) p301 q301
                           have hw301_2 := hx301_2
                           have hw301_1 := hx301_1
                           have hw301_0 := hx301_0
                           obtain rfl : ad297 = ad301 := (by injection e301)
                           try replace hx301_0 := hb__ HB.out hx301_0
                           try replace hx301_1 := hb__ HB.out hx301_1
                           try replace hx301_2 := hb__ HB.out hx301_2
                           replace p301 := eq_true p301
                           replace q301 := eq_true q301
                           refine st__ 45 (c3a__ BK298.out (c7a__ BK270.out (cha__ HB.out hw301_0 (cha__ HB.out hw301_1 (che__ HB.out hw301_2))))) fun hHeld => ?_; refine with_tabW impl_ValidState.tab33 impl_ValidState.bits33 (fun HT_ HW_ => ?_)
                           generalize w162.drew = w175 at BK270 BK275 BK298 HB hx301_0 hx301_1 hx301_2 hHeld ⊢
                           refine v_ 0 ?_
                           refine v_ 1 ?_
                           refine v_ 2 ?_
                           refine v_ 3 ?_
                           refine t_ 4 ?_
                           refine v_ 5 ?_
                           refine v_ 6 ?_
                           refine v_ 7 ?_
                           refine v_ 8 ?_
                           refine v_ 10 ?_
                           refine t_ 9 ?_
                           refine t_ 11 ?_
                           refine v_ 12 ?_
                           refine v_ 13 ?_
                           refine v_ 14 ?_
                           refine v_ 15 ?_
                           refine v_ 16 ?_
                           refine v_ 17 ?_
                           refine v_ 18 ?_
                           refine v_ 20 ?_
                           refine v_ 21 ?_
                           refine v_ 25 ?_
                           refine t_ 19 ?_
                           refine v_ 22 ?_
                           refine v_ 23 ?_
                           refine t_ 24 ?_
                           refine t_ 26 ?_
                           refine v_ 27 ?_
                           refine v_ 28 ?_
                           refine v_ 29 ?_
                           refine v_ 30 ?_
                           refine v_ 31 ?_
                           refine v_ 33 ?_
                           refine t_ 32 ?_
                           refine t_ 34 ?_
                           refine v_ 35 ?_
                           refine v_ 36 ?_
                           refine v_ 37 ?_
                           refine u_ 38 ?_
                           refine u_ 39 ?_
                           refine u_ 40 ?_
                           refine u_ 41 ?_
                           refine u_ 42 ?_
                           refine u_ 43 ?_
                           refine v_ 44 ?_
                           refine done_ (done_of HT_.out (by kernel_rfl)) ?_
                           try go_wp2
                           go_meet
                           case rel => exact ⟨_, (true), (rf__), H', ⟨by have := HJ1.out; have := HK2.out; have := HK3.out; have := HK4.out; have := HK5.out; first | omega | exact Nat.le_refl _⟩, ⟨blk__ BK270.out⟩, ⟨blk__ BK275.out⟩, ⟨blk__ BK298.out⟩, ⟨bel__⟩⟩
                          ·as_aux_lemma =>
                           rw [if_neg c174] at H
                           have c174b0 := decide_eq_false c174
                           clear c174
                           have H' := Aside0.mk H
                           clear H
                           try go_wp2
                           replace BK270 := am__ (blk_drew BK270.out)
                           replace BK275 := am__ (blk_drew BK275.out)
                           replace BK298 := am__ (blk_drew BK298.out)
                           replace HB := am__ (below_drew1 HB.out)
                           have p301 : 0 ≤ ((ji169) : Int) := of_decide_eq_true (by first | (with_reducible assumption) | assumption)
                           have q301 : (ji169) < (l0_6.length : Int) := of_decide_eq_true (by first | (with_reducible assumption) | assumption)
                           obtain ⟨ad301, e301, hx301_0, hx301_1, hx301_2⟩ := at_T85 HR0_6.out (ji169) p301 q301
                           have hw301_2 := hx301_2
                           have hw301_1 := hx301_1
                           have hw301_0 := hx301_0
                           obtain rfl : ad297 = ad301 := (by injection e301)
                           try replace hx301_0 := hb__ HB.out hx301_0
                           try replace hx301_1 := hb__ HB.out hx301_1
                           try replace hx301_2 := hb__ HB.out hx301_2
                           replace p301 := eq_true p301
                           replace q301 := eq_true q301
                           refine st__ 45 (c3a__ BK298.out (c7a__ BK270.out (cha__ HB.out hw301_0 (cha__ HB.out hw301_1 (che__ HB.out hw301_2))))) fun hHeld => ?_; refine with_tabW impl_ValidState.tab33 impl_ValidState.bits33 (fun HT_ HW_ => ?_)
                           generalize w162.drew = w176 at BK270 BK275 BK298 HB hx301_0 hx301_1 hx301_2 hHeld ⊢
                           refine v_ 0 ?_
                           refine v_ 1 ?_
                           refine v_ 2 ?_
                           refine v_ 3 ?_
                           refine t_ 4 ?_
                           refine v_ 5 ?_
                           refine v_ 6 ?_
                           refine v_ 7 ?_
                           refine v_ 8 ?_
                           refine v_ 10 ?_
                           refine t_ 9 ?_
                           refine t_ 11 ?_
                           refine v_ 12 ?_
                           refine v_ 13 ?_
                           refine v_ 14 ?_
                           refine v_ 15 ?_
                           refine v_ 16 ?_
                           refine v_ 17 ?_
                           refine v_ 18 ?_
                           refine v_ 20 ?_
                           refine v_ 21 ?_
                           refine v_ 25 ?_
                           refine t_ 19 ?_
                           refine v_ 22 ?_
                           refine v_ 23 ?_
                           refine t_ 24 ?_
                           refine t_ 26 ?_
                           refine v_ 27 ?_
                           refine v_ 28 ?_
                           refine v_ 29 ?_
                           refine v_ 30 ?_
                           refine v_ 31 ?_
                           refine v_ 33 ?_
                           refine t_ 32 ?_
                           refine t_ 34 ?_
                           refine v_ 35 ?_
                           refine v_ 36 ?_
                           refine v_ 37 ?_
                           refine v_ 38 ?_
                           refine v_ 40 ?_
                           refine t_ 39 ?_
                           refine t_ 41 ?_
                           refine v_ 42 ?_
                           refine v_ 43 ?_
                           refine v_ 44 ?_
                           refine done_ (done_of HT_.out (by kernel_rfl)) ?_
                           try go_wp2
                           go_meet
                           case rel => exact ⟨_, (decide (((rd_T85 l0_6 x201_5).f2) > (wrap64 (a0_1 + 100000)))), (rf__), H', ⟨by have := HJ1.out; have := HK2.out; have := HK3.out; have := HK4.out; have := HK5.out; first | omega | exact Nat.le_refl _⟩, ⟨blk__ BK270.out⟩, ⟨blk__ BK275.out⟩, ⟨blk__ BK298.out⟩, ⟨bel__⟩⟩
                        ·rw [if_neg c171] at H
                         exact absurd H (by simp)
                       ·rw [if_neg c170] at H
                        exact absurd H (by simp)
                      ·as_aux_lemma =>
                       rw [if_neg c168] at H
                       have c168b0 : decide (0 < x201_5) = false := decide_eq_false c168
                       clear c168
                       by_cases c177 : ((rd_T85 l0_6 x201_5).f2) ≤ a0_1
                       ·as_aux_lemma =>
                        rw [if_pos c177] at H
                        have c177b0 := decide_eq_true c177
                        clear c177
                        have H' := Aside0.mk H
                        clear H
                        try go_wp2
                        replace BK270 := am__ (blk_drew BK270.out)
                        replace BK275 := am__ (blk_drew BK275.out)
                        replace BK298 := am__ (blk_drew BK298.out)
                        replace HB := am__ (below_drew1 HB.out)
                        refine st__ 45 (c3a__ BK298.out (c7e__ BK270.out)) fun hHeld => ?_; refine with_tabW impl_ValidState.tab33 impl_ValidState.bits33 (fun HT_ HW_ => ?_)
                        generalize w162.drew = w178 at BK270 BK275 BK298 HB hHeld ⊢
                        refine v_ 0 ?_
                        refine v_ 1 ?_
                        refine v_ 2 ?_
                        refine v_ 3 ?_
                        refine t_ 4 ?_
                        refine v_ 5 ?_
                        refine v_ 6 ?_
                        refine v_ 7 ?_
                        refine v_ 8 ?_
                        refine v_ 10 ?_
                        refine t_ 9 ?_
                        refine t_ 11 ?_
                        refine v_ 12 ?_
                        refine v_ 13 ?_
                        refine v_ 14 ?_
                        refine v_ 15 ?_
                        refine v_ 16 ?_
                        refine v_ 17 ?_
                        refine u_ 18 ?_
                        refine u_ 19 ?_
                        refine u_ 20 ?_
                        refine u_ 21 ?_
                        refine u_ 22 ?_
                        refine u_ 23 ?_
                        refine u_ 24 ?_
                        refine u_ 25 ?_
                        refine u_ 26 ?_
                        refine u_ 27 ?_
                        refine v_ 28 ?_
                        refine v_ 29 ?_
                        refine v_ 30 ?_
                        refine v_ 31 ?_
                        refine v_ 33 ?_
                        refine t_ 32 ?_
                        refine t_ 34 ?_
                        refine v_ 35 ?_
                        refine v_ 36 ?_
                        refine v_ 37 ?_
                        refine u_ 38 ?_
                        refine u_ 39 ?_
                        refine u_ 40 ?_
                        refine u_ 41 ?_
                        refine u_ 42 ?_
                        refine u_ 43 ?_
                        refine v_ 44 ?_
                        refine done_ (done_of HT_.out (by kernel_rfl)) ?_
                        try go_wp2
                        go_meet
                        case rel => exact ⟨_, (true), (rf__), H', ⟨by have := HJ1.out; have := HK2.out; have := HK3.out; have := HK4.out; have := HK5.out; first | omega | exact Nat.le_refl _⟩, ⟨blk__ BK270.out⟩, ⟨blk__ BK275.out⟩, ⟨blk__ BK298.out⟩, ⟨bel__⟩⟩
                       ·as_aux_lemma =>
                        rw [if_neg c177] at H
                        have c177b0 := decide_eq_false c177
                        clear c177
                        have H' := Aside0.mk H
                        clear H
                        try go_wp2
                        replace BK270 := am__ (blk_drew BK270.out)
                        replace BK275 := am__ (blk_drew BK275.out)
                        replace BK298 := am__ (blk_drew BK298.out)
                        replace HB := am__ (below_drew1 HB.out)
                        refine st__ 45 (c3a__ BK298.out (c7e__ BK270.out)) fun hHeld => ?_; refine with_tabW impl_ValidState.tab33 impl_ValidState.bits33 (fun HT_ HW_ => ?_)
                        generalize w162.drew = w179 at BK270 BK275 BK298 HB hHeld ⊢
                        refine v_ 0 ?_
                        refine v_ 1 ?_
                        refine v_ 2 ?_
                        refine v_ 3 ?_
                        refine t_ 4 ?_
                        refine v_ 5 ?_
                        refine v_ 6 ?_
                        refine v_ 7 ?_
                        refine v_ 8 ?_
                        refine v_ 10 ?_
                        refine t_ 9 ?_
                        refine t_ 11 ?_
                        refine v_ 12 ?_
                        refine v_ 13 ?_
                        refine v_ 14 ?_
                        refine v_ 15 ?_
                        refine v_ 16 ?_
                        refine v_ 17 ?_
                        refine u_ 18 ?_
                        refine u_ 19 ?_
                        refine u_ 20 ?_
                        refine u_ 21 ?_
                        refine u_ 22 ?_
                        refine u_ 23 ?_
                        refine u_ 24 ?_
                        refine u_ 25 ?_
                        refine u_ 26 ?_
                        refine u_ 27 ?_
                        refine v_ 28 ?_
                        refine v_ 29 ?_
                        refine v_ 30 ?_
                        refine v_ 31 ?_
                        refine v_ 33 ?_
                        refine t_ 32 ?_
                        refine t_ 34 ?_
                        refine v_ 35 ?_
                        refine v_ 36 ?_
                        refine v_ 37 ?_
                        refine v_ 38 ?_
                        refine v_ 40 ?_
                        refine t_ 39 ?_
                        refine t_ 41 ?_
                        refine v_ 42 ?_
                        refine v_ 43 ?_
                        refine v_ 44 ?_
                        refine done_ (done_of HT_.out (by kernel_rfl)) ?_
                        try go_wp2
                        go_meet
                        case rel => exact ⟨_, (decide (((rd_T85 l0_6 x201_5).f2) > (wrap64 (a0_1 + 100000)))), (rf__), H', ⟨by have := HJ1.out; have := HK2.out; have := HK3.out; have := HK4.out; have := HK5.out; first | omega | exact Nat.le_refl _⟩, ⟨blk__ BK270.out⟩, ⟨blk__ BK275.out⟩, ⟨blk__ BK298.out⟩, ⟨bel__⟩⟩
                   ·as_aux_lemma =>
                    replace c163 := Bool.eq_false_iff.mpr c163
                    subst c163
                    have H1 : (impl_ValidState.j8 k5 l0_4 l0_6 (l0_6.length : Int) x201_5 true a0_0 a0_1 a0_2 a0_3 l0_4 l0_5 l0_6) = some r := by rw [if_neg (show ¬ (false = true) by decide)] at H; exact H
                    clear H
                    have H := H1
                    clear H1
                    have H' := Aside0.mk H
                    clear H
                    try go_wp2
                    replace BK270 := am__ (blk_drew BK270.out)
                    replace BK275 := am__ (blk_drew BK275.out)
                    replace BK298 := am__ (blk_drew BK298.out)
                    replace HB := am__ (below_drew1 HB.out)
                    refine st__ 45 ctr__ fun hHeld => ?_; refine with_tabW impl_ValidState.tab33 impl_ValidState.bits33 (fun HT_ HW_ => ?_)
                    generalize w162.drew = w180 at BK270 BK275 BK298 HB hHeld ⊢
                    refine v_ 0 ?_
                    refine v_ 1 ?_
                    refine v_ 2 ?_
                    refine u_ 3 ?_
                    refine u_ 4 ?_
                    refine u_ 5 ?_
                    refine v_ 6 ?_
                    refine v_ 7 ?_
                    refine u_ 8 ?_
                    refine u_ 9 ?_
                    refine u_ 10 ?_
                    refine u_ 11 ?_
                    refine u_ 12 ?_
                    refine v_ 13 ?_
                    refine v_ 14 ?_
                    refine u_ 15 ?_
                    refine u_ 16 ?_
                    refine u_ 17 ?_
                    refine u_ 18 ?_
                    refine u_ 19 ?_
                    refine u_ 20 ?_
                    refine u_ 21 ?_
                    refine u_ 22 ?_
                    refine u_ 23 ?_
                    refine u_ 24 ?_
                    refine u_ 25 ?_
                    refine u_ 26 ?_
                    refine u_ 27 ?_
                    refine u_ 28 ?_
                    refine v_ 29 ?_
                    refine v_ 30 ?_
                    refine u_ 31 ?_
                    refine u_ 32 ?_
                    refine u_ 33 ?_
                    refine u_ 34 ?_
                    refine u_ 35 ?_
                    refine v_ 36 ?_
                    refine v_ 37 ?_
                    refine u_ 38 ?_
                    refine u_ 39 ?_
                    refine u_ 40 ?_
                    refine u_ 41 ?_
                    refine u_ 42 ?_
                    refine u_ 43 ?_
                    refine v_ 44 ?_
                    refine done_ (done_of HT_.out (by kernel_rfl)) ?_
                    try go_wp2
                    go_meet
                    case rel => exact ⟨_, (true), (rf__), H', ⟨by have := HJ1.out; have := HK2.out; have := HK3.out; have := HK4.out; have := HK5.out; first | omega | exact Nat.le_refl _⟩, ⟨blk__ BK270.out⟩, ⟨blk__ BK275.out⟩, ⟨blk__ BK298.out⟩, ⟨bel__⟩⟩
                  case rest =>
                   clear HC157
                   try clear c1
                   try clear p2
                   try clear p6
                   try clear c16
                   try clear p64
                   try clear c163
                   obtain ⟨kq, x256_156, rfl, HA, HJ156, BK270, BK275, BK298, HB⟩ := hcut
                   cases kq with
                   | zero => exact absurd HA.out (by simp [impl_ValidState.j8])
                   | succ kj156 =>
                    have H := HA.out
                    clear HA
                    simp only [impl_ValidState.j8] at H
                    by_cases c181 : x256_156 = true
                    ·subst c181
                     rw [if_pos rfl] at H
                     obtain rfl := Option.some.inj H
                     go_wp2
                     go_ret
                     exact ⟨ee__, bel__⟩
                    ·replace c181 := Bool.eq_false_iff.mpr c181
                     subst c181
                     have H1 : (impl_ValidState.l4 kj156 l0_4 l0_6 (l0_6.length : Int) (wrap64 (x201_5 + 1)) a0_0 a0_1 a0_2 a0_3 l0_4 l0_5 l0_6) = some r := by rw [if_neg (show ¬ (false = true) by decide)] at H; exact H
                     clear H
                     have H := H1
                     clear H1
                     have H' := Aside0.mk H
                     clear H
                     go_wp2
                     go_roundg kj156
                     case measure => have := HJ1.out; have := HK2.out; have := HK3.out; have := HK4.out; have := HK5.out; have := HJ156.out; omega
                     case rel => exact ⟨(wrap64 (x201_5 + 1)), (rf__), H', ⟨by have := HJ1.out; have := HK2.out; have := HK3.out; have := HK4.out; have := HK5.out; have := HJ156.out; omega⟩, ⟨blk__ BK270.out⟩, ⟨blk__ BK275.out⟩, ⟨bel__⟩⟩
                 ·rw [if_neg c155] at H
                  exact absurd H (by simp)
                ·rw [if_neg c154] at H
                 exact absurd H (by simp)
               ·rw [if_neg c153] at H
                have c153b0 := decide_eq_false c153
                clear c153
                obtain rfl := Option.some.inj H
                go_wp2
                go_ret
                exact ⟨ee__, bel__⟩
end Go.Proofs.Ytcijlemojododaa.P
