import Derived.Test.YteekijpcdcpjkaaDoorAbDen
import Derived.Test.YteekijpcdcpjkaaDoorAbStrFn
import Derived.Test.YteekijpcdcpjkaaDoorAbDen
set_option linter.unusedVariables false
namespace Go.Proofs.YteekijpcdcpjkaaDoor
open Go Go.Ab
def strings_Split (N : Nat) (s0 : List Int) (sep1 : List Int) : Option (List (List Int)) :=
  bindO (genSplitF s0 sep1 (0 : Int) (-1 : Int)) (fun r7_2 =>
    some r7_2) none
def fs_Named.s0 {R : Type} (N : Nat) (s : R) (k0 : Unit → R) (kr : (Bool × Unit) → R) (c19 : List Int × Int × Unit) (again : (Int × Unit) → R) (v20 : Int × Unit) : R :=
  let s0_21 : List Int := c19.1
  let v23_22 : Int := c19.2.1
  let v24_23 : Int := v20.1
  if (decide (v24_23 < v23_22)) = true then
    gate (inR v24_23 (s0_21.length : Int)) (
      bindO (
        let t31_34 : Bool := (decide ((getI 0 s0_21 v24_23) < (97 : Int)))
        if t31_34 = true then
          let t38_35 : Bool := (decide ((getI 0 s0_21 v24_23) < (48 : Int)))
          if t38_35 = true then
            let t46_36 : Bool := (!decide ((getI 0 s0_21 v24_23) = (45 : Int)))
            some t46_36
          else
            let t41_37 : Bool := (decide ((getI 0 s0_21 v24_23) > (57 : Int)))
            if t41_37 = true then
              let t46_38 : Bool := (!decide ((getI 0 s0_21 v24_23) = (45 : Int)))
              some t46_38
            else
              some false
        else
          let t34_39 : Bool := (decide ((getI 0 s0_21 v24_23) > (122 : Int)))
          if t34_39 = true then
            let t38_40 : Bool := (decide ((getI 0 s0_21 v24_23) < (48 : Int)))
            if t38_40 = true then
              let t46_41 : Bool := (!decide ((getI 0 s0_21 v24_23) = (45 : Int)))
              some t46_41
            else
              let t41_42 : Bool := (decide ((getI 0 s0_21 v24_23) > (57 : Int)))
              if t41_42 = true then
                let t46_43 : Bool := (!decide ((getI 0 s0_21 v24_23) = (45 : Int)))
                some t46_43
              else
                some false
          else
            some false) (fun (c47_44 : Bool) =>
        if c47_44 = true then
          kr (false, ())
        else
          again ((IntKind.wrap .i64 (v24_23 + (1 : Int))), ())) s) s
  else
    k0 ()
def fs_Named (N : Nat) (s0 : List Int) : Option Bool :=
  bindO (
    if (decide (s0 = [])) = true then
      some true
    else
      if (decide ((s0.length : Int) > (12 : Int))) = true then
        some true
      else
        gate (inR (0 : Int) (s0.length : Int)) (
          let t15_15 : Bool := (decide ((getI 0 s0 (0 : Int)) < (97 : Int)))
          if t15_15 = true then
            some true
          else
            gate (inR (0 : Int) (s0.length : Int)) (
              let t20_16 : Bool := (decide ((getI 0 s0 (0 : Int)) > (122 : Int)))
              some t20_16) none) none) (fun (c21_17 : Bool) =>
    if c21_17 = true then
      some false
    else
      iter (fs_Named.s0 N none (fun (x45 : Unit) =>
        some true) (fun (x46 : Bool × Unit) =>
        let v2_47 : Bool := x46.1
        some v2_47) (s0, (s0.length : Int), ())) none N ((0 : Int), ())) none
def fs_Path_1 (N : Nat) (x0 : List Int) : Option Bool :=
  bindO (fs_Named N x0) (fun r4_49 =>
    some (!r4_49)) none
def fs_Path_i0_slices_ContainsFunc_i0_slices_IndexFunc.s0 {R : Type} (N : Nat) (s : R) (k0 : Unit → R) (kr : (Int × Unit) → R) (c64 : List (List Int) × Int × Unit) (again : (Int × Unit) → R) (v65 : Int × Unit) : R :=
  let s0_66 : List (List Int) := c64.1
  let v7_67 : Int := c64.2.1
  let v8_68 : Int := v65.1
  if (decide (v8_68 < v7_67)) = true then
    gate (inR v8_68 (s0_66.length : Int)) (
      bindO (fs_Path_1 N (getI [] s0_66 v8_68)) (fun r16_69 =>
        if r16_69 = true then
          kr (v8_68, ())
        else
          again ((IntKind.wrap .i64 (v8_68 + (1 : Int))), ())) s) s
  else
    k0 ()
def fs_Path (N : Nat) (s0 : List Int) : Option Int :=
  bindO (strings_Split N s0 [47]) (fun r5_58 =>
    if (decide ((r5_58.length : Int) > (4 : Int))) = true then
      some (6 : Int)
    else
      iter (fs_Path_i0_slices_ContainsFunc_i0_slices_IndexFunc.s0 N none (fun (x70 : Unit) =>
        if (decide ((-1 : Int) ≥ (0 : Int))) = true then
          some (6 : Int)
        else
          some (0 : Int)) (fun (x71 : Int × Unit) =>
        let v4_72 : Int := x71.1
        if (decide (v4_72 ≥ (0 : Int))) = true then
          some (6 : Int)
        else
          some (0 : Int)) (r5_58, (r5_58.length : Int), ())) none N ((0 : Int), ())) none
def arch_Check_i0_slices_ContainsFunc_i0_slices_IndexFunc.s0 {R : Type} (N : Nat) (s : R) (k0 : (List Int × List Int × Unit) → R) (kr : (List Int × List Int × Int × Unit) → R) (c102 : List (List Int × List Int) × Int × Unit) (again : (List Int × List Int × Int × Unit) → R) (v103 : List Int × List Int × Int × Unit) : R :=
  let s0_104 : List (List Int × List Int) := c102.1
  let v7_105 : Int := c102.2.1
  let h0_106 : List Int := v103.1
  let h0_107 : List Int := v103.2.1
  let v8_108 : Int := v103.2.2.1
  if (decide (v8_108 < v7_105)) = true then
    gate (inR v8_108 (s0_104.length : Int)) (
      let t8_109 : Bool := (decide ((getI ([], []) s0_104 v8_108).1 = h0_106))
      if t8_109 = true then
        kr (h0_106, h0_107, v8_108, ())
      else
        again (h0_106, h0_107, (IntKind.wrap .i64 (v8_108 + (1 : Int))), ())) s
  else
    k0 (h0_106, h0_107, ())
def arch_Check.s0 {R : Type} (N : Nat) (s : R) (k0 : Unit → R) (kr : (Int × Unit) → R) (c94 : List (List Int × List Int) × List (List Int × List Int) × Int × Unit) (again : (Int × Unit) → R) (v95 : Int × Unit) : R :=
  let l0_96 : List (List Int × List Int) := c94.1
  let v8_97 : List (List Int × List Int) := c94.2.1
  let v9_98 : Int := c94.2.2.1
  let v10_99 : Int := v95.1
  if (decide (v10_99 < v9_98)) = true then
    gate (inR v10_99 (v8_97.length : Int)) (
      bindO (fs_Path N ((getI ([], []) v8_97 v10_99).1)) (fun r18_100 =>
        if (!decide (r18_100 = (0 : Int))) = true then
          kr ((6 : Int), ())
        else
          let t23_101 : Int := (((getI ([], []) v8_97 v10_99).2).length : Int)
          if (decide (t23_101 > (2048 : Int))) = true then
            kr ((2 : Int), ())
          else
            gate (bounds (l0_96.length : Int) (0 : Int) v10_99) (
              iter (arch_Check_i0_slices_ContainsFunc_i0_slices_IndexFunc.s0 N s (fun (x110 : List Int × List Int × Unit) =>
                let h0_111 : List Int := x110.1
                let h0_112 : List Int := x110.2.1
                if (decide ((-1 : Int) ≥ (0 : Int))) = true then
                  kr ((7 : Int), ())
                else
                  again ((IntKind.wrap .i64 (v10_99 + (1 : Int))), ())) (fun (x113 : List Int × List Int × Int × Unit) =>
                let h0_114 : List Int := x113.1
                let h0_115 : List Int := x113.2.1
                let v4_116 : Int := x113.2.2.1
                if (decide (v4_116 ≥ (0 : Int))) = true then
                  kr ((7 : Int), ())
                else
                  again ((IntKind.wrap .i64 (v10_99 + (1 : Int))), ())) ((cut l0_96 (0 : Int) v10_99), ((cut l0_96 (0 : Int) v10_99).length : Int), ())) s N ((getI ([], []) v8_97 v10_99).1, (getI ([], []) v8_97 v10_99).2, (0 : Int), ())) s) s) s
  else
    k0 ()
def arch_Check (N : Nat) (l0 : List (List Int × List Int)) : Option Int :=
  if (decide ((l0.length : Int) > (30 : Int))) = true then
    some (9 : Int)
  else
    iter (arch_Check.s0 N none (fun (x117 : Unit) =>
      some (0 : Int)) (fun (x118 : Int × Unit) =>
      let v2_119 : Int := x118.1
      some v2_119) (l0, l0, (l0.length : Int), ())) none N ((0 : Int), ())
def arch_bytes.s0 {R : Type} (N : Nat) (s : R) (k0 : (List Int × Unit) → R) (c130 : Int × Int × Unit) (again : (List Int × Int × Unit) → R) (v131 : List Int × Int × Unit) : R :=
  let n0_132 : Int := c130.1
  let v10_133 : Int := c130.2.1
  let b5_134 : List Int := v131.1
  let v11_135 : Int := v131.2.1
  if (decide (v11_135 < v10_133)) = true then
    gate (decide (0 ≤ (IntKind.wrap .i64 ((8 : Int) * v11_135)))) (
      let t19_136 : Int := (shrI .i64 n0_132 (IntKind.wrap .i64 ((8 : Int) * v11_135)))
      gate (inR v11_135 (b5_134.length : Int)) (
        gate (inR v11_135 (b5_134.length : Int)) (
          let bx_137 : List Int := (b5_134.set (v11_135).toNat (IntKind.wrap .u8 (t19_136)))
          again (bx_137, (IntKind.wrap .i64 (v11_135 + (1 : Int))), ())) s) s) s
  else
    k0 (b5_134, ())
def arch_bytes (N : Nat) (n0 : Int) (many1 : Int) : Option (List Int) :=
  gate (decide (0 ≤ many1 ∧ many1 ≤ many1) && roomFor (many1).toNat 1) (
    let t10_127 : Int := ((List.replicate (many1).toNat (0 : Int)).length : Int)
    iter (arch_bytes.s0 N none (fun (x138 : List Int × Unit) =>
      let b5_139 : List Int := x138.1
      some b5_139) (n0, t10_127, ())) none N ((List.replicate (many1).toNat (0 : Int)), (0 : Int), ())) none
def arch_Pack.s1 {R : Type} (N : Nat) (s : R) (k2 : (List Int × Int × Unit) → R) (c225 : List Int × Int × Unit) (again : (List Int × Int × Unit) → R) (v226 : List Int × Int × Unit) : R :=
  let b0_227 : List Int := c225.1
  let i4_228 : Int := c225.2.1
  let out3_229 : List Int := v226.1
  let n5_230 : Int := v226.2.1
  bindO (
    if (decide (n5_230 < (255 : Int))) = true then
      let t18_234 : Bool := (decide ((IntKind.wrap .i64 (i4_228 + n5_230)) < (b0_227.length : Int)))
      if t18_234 = true then
        gate (inR (IntKind.wrap .i64 (i4_228 + n5_230)) (b0_227.length : Int)) (
          let t25_235 : Int := (getI (0 : Int) b0_227 (IntKind.wrap .i64 (i4_228 + n5_230)))
          gate (inR i4_228 (b0_227.length : Int)) (
            let t31_236 : Bool := (decide (t25_235 = (getI (0 : Int) b0_227 i4_228)))
            some t31_236) none) none
      else
        some false
    else
      some false) (fun (c32_237 : Bool) =>
    if c32_237 = true then
      again (out3_229, (IntKind.wrap .i64 (n5_230 + (1 : Int))), ())
    else
      k2 (out3_229, n5_230, ())) s
def arch_Pack.s0 {R : Type} (N : Nat) (s : R) (k0 : (List Int × Unit) → R) (c207 : List Int × Unit) (again : (List Int × Int × Unit) → R) (v208 : List Int × Int × Unit) : R :=
  let b0_209 : List Int := c207.1
  let out3_210 : List Int := v208.1
  let i4_211 : Int := v208.2.1
  if (decide (i4_211 < (b0_209.length : Int))) = true then
    iter (arch_Pack.s1 N s (fun (x238 : List Int × Int × Unit) =>
      let out3_239 : List Int := x238.1
      let n5_240 : Int := x238.2.1
      gate (inR i4_211 (b0_209.length : Int)) (
        let b42_241 : List Int := [(IntKind.wrap .u8 (n5_240)), (getI (0 : Int) b0_209 i4_211)]
        gate (roomFor (out3_239.length + b42_241.length) 1) (
          again ((out3_239 ++ b42_241), (IntKind.wrap .i64 (i4_211 + n5_240)), ())) s) s) (b0_209, i4_211, ())) s N (out3_210, (1 : Int), ())
  else
    k0 (out3_210, ())
def arch_Pack (N : Nat) (b0 : List Int) : Option (List Int) :=
  iter (arch_Pack.s0 N none (fun (x242 : List Int × Unit) =>
    let out3_243 : List Int := x242.1
    some out3_243) (b0, ())) none N ([], (0 : Int), ())
def sum_Crc.s1 {R : Type} (N : Nat) (s : R) (k2 : (Int × Unit) → R) (c277 : List Int × Int × Int × Unit) (again : (Int × Int × Unit) → R) (v278 : Int × Int × Unit) : R :=
  let v6_279 : List Int := c277.1
  let v7_280 : Int := c277.2.1
  let v8_281 : Int := c277.2.2.1
  let c3_282 : Int := v278.1
  let v16_283 : Int := v278.2.1
  if (decide (v16_283 < (8 : Int))) = true then
    gate (decide (0 ≤ (1 : Int))) (
      let t22_284 : Int := (IntKind.wrap .u32 ((bitAnd .u32 c3_282 (1 : Int)) * (3988292384 : Int)))
      let t23_285 : Int := (bitXor .u32 (shrI .u32 c3_282 (1 : Int)) t22_284)
      again (t23_285, (IntKind.wrap .i64 (v16_283 + (1 : Int))), ())) s
  else
    k2 (c3_282, ())
def sum_Crc.s0 {R : Type} (N : Nat) (s : R) (k0 : (Int × Unit) → R) (c268 : List Int × Int × Unit) (again : (Int × Int × Unit) → R) (v269 : Int × Int × Unit) : R :=
  let v6_270 : List Int := c268.1
  let v7_271 : Int := c268.2.1
  let c3_272 : Int := v269.1
  let v8_273 : Int := v269.2.1
  if (decide (v8_273 < v7_271)) = true then
    gate (inR v8_273 (v6_270.length : Int)) (
      let t14_274 : Int := (IntKind.wrap .u32 ((getI (0 : Int) v6_270 v8_273)))
      iter (sum_Crc.s1 N s (fun (x286 : Int × Unit) =>
        let c3_287 : Int := x286.1
        again (c3_287, (IntKind.wrap .i64 (v8_273 + (1 : Int))), ())) (v6_270, v7_271, v8_273, ())) s N ((bitXor .u32 c3_272 t14_274), (0 : Int), ())) s
  else
    k0 (c3_272, ())
def sum_Crc (N : Nat) (b0 : List Int) : Option Int :=
  iter (sum_Crc.s0 N none (fun (x288 : Int × Unit) =>
    let c3_289 : Int := x288.1
    let t28_290 : Int := (IntKind.wrap .i64 ((bitXor .u32 4294967295 c3_289)))
    some t28_290) (b0, (b0.length : Int), ())) none N ((4294967295 : Int), (0 : Int), ())
def arch_entry (N : Nat) (x0 : List Int × List Int) : Option (List Int) :=
  bindO (arch_Pack N x0.2) (fun r10_293 =>
    let t15_294 : Bool := (decide ((r10_293.length : Int) < (x0.2.length : Int)))
    bindO ((
      if t15_294 = true then
        some ((1 : Int), r10_293, x0.1, x0.2, ())
      else
        some ((0 : Int), x0.2, x0.1, x0.2, ()) : Option (Int × List Int × List Int × List Int × Unit))) (fun j295 =>
      let way3_296 : Int := j295.1
      let data4_297 : List Int := j295.2.1
      let m0_298 : List Int := j295.2.2.1
      let m0_299 : List Int := j295.2.2.2.1
      let b22_300 : List Int := [(105 : Int), way3_296, (IntKind.wrap .u8 ((m0_298.length : Int)))]
      gate (roomFor (b22_300.length + m0_298.length) 1) (
        bindO (arch_bytes N (m0_299.length : Int) (2 : Int)) (fun r30_301 =>
          gate (roomFor ((b22_300 ++ m0_298).length + r30_301.length) 1) (
            bindO (arch_bytes N (data4_297.length : Int) (2 : Int)) (fun r35_302 =>
              gate (roomFor (((b22_300 ++ m0_298) ++ r30_301).length + r35_302.length) 1) (
                let b36_303 : List Int := (((b22_300 ++ m0_298) ++ r30_301) ++ r35_302)
                bindO (sum_Crc N m0_299) (fun r40_304 =>
                  bindO (arch_bytes N r40_304 (4 : Int)) (fun r41_305 =>
                    gate (roomFor (b36_303.length + r41_305.length) 1) (
                      gate (roomFor ((b36_303 ++ r41_305).length + data4_297.length) 1) (
                        some ((b36_303 ++ r41_305) ++ data4_297)) none) none) none) none) none) none) none) none) none) none) none
def arch_Make.s0 {R : Type} (N : Nat) (s : R) (k0 : (List Int × List Int × Unit) → R) (c337 : List (List Int × List Int) × Int × Unit) (again : (List Int × List Int × Int × Unit) → R) (v338 : List Int × List Int × Int × Unit) : R :=
  let v19_339 : List (List Int × List Int) := c337.1
  let v20_340 : Int := c337.2.1
  let out5_341 : List Int := v338.1
  let dir6_342 : List Int := v338.2.1
  let v21_343 : Int := v338.2.2.1
  if (decide (v21_343 < v20_340)) = true then
    gate (inR v21_343 (v19_339.length : Int)) (
      bindO (arch_bytes N (out5_341.length : Int) (3 : Int)) (fun r28_344 =>
        gate (roomFor (dir6_342.length + r28_344.length) 1) (
          bindO (arch_entry N (getI ([], []) v19_339 v21_343)) (fun r32_345 =>
            gate (roomFor (out5_341.length + r32_345.length) 1) (
              again ((out5_341 ++ r32_345), (dir6_342 ++ r28_344), (IntKind.wrap .i64 (v21_343 + (1 : Int))), ())) s) s) s) s) s
  else
    k0 (out5_341, dir6_342, ())
def arch_Make (N : Nat) (l0 : List (List Int × List Int)) : Option (List Int × Int) :=
  bindO (arch_Check N l0) (fun r11_324 =>
    if (!decide (r11_324 = (0 : Int))) = true then
      some ([], r11_324)
    else
      let b18_325 : List Int := [(100 : Int), (IntKind.wrap .u8 ((l0.length : Int)))]
      iter (arch_Make.s0 N none (fun (x346 : List Int × List Int × Unit) =>
        let out5_347 : List Int := x346.1
        let dir6_348 : List Int := x346.2.1
        gate (roomFor (out5_347.length + dir6_348.length) 1) (
          gate (roomFor ((out5_347 ++ dir6_348).length + [(101 : Int)].length) 1) (
            bindO (arch_bytes N (out5_347.length : Int) (3 : Int)) (fun r45_349 =>
              gate (roomFor (((out5_347 ++ dir6_348) ++ [(101 : Int)]).length + r45_349.length) 1) (
                let b46_350 : List Int := (((out5_347 ++ dir6_348) ++ [(101 : Int)]) ++ r45_349)
                bindO (sum_Crc N dir6_348) (fun r49_351 =>
                  bindO (arch_bytes N r49_351 (4 : Int)) (fun r50_352 =>
                    gate (roomFor (b46_350.length + r50_352.length) 1) (
                      let t54_353 : Bool := (decide (((b46_350 ++ r50_352).length : Int) > (65536 : Int)))
                      if t54_353 = true then
                        some ([], (2 : Int))
                      else
                        some ((b46_350 ++ r50_352), (0 : Int))) none) none) none) none) none) none) none) (l0, (l0.length : Int), ())) none N ([], b18_325, (0 : Int), ())) none
def strings_Contains (N : Nat) (s0 : List Int) (substr1 : List Int) : Option Bool :=
  bindO (indexF s0 substr1) (fun r7_357 =>
    some (decide (r7_357 ≥ (0 : Int)))) none
def wrackref2_Word (N : Nat) (s0 : List Int) : Option Bool :=
  bindO (
    if (decide ((s0.length : Int) > (0 : Int))) = true then
      if (decide ((s0.length : Int) ≤ (12 : Int))) = true then
        gate (bounds (s0.length : Int) (0 : Int) (1 : Int)) (
          bindO (strings_Contains N [97, 98, 99, 100, 101, 102, 103, 104, 105, 106, 107, 108, 109, 110, 111, 112, 113, 114, 115, 116, 117, 118, 119, 120, 121, 122] (cut s0 (0 : Int) (1 : Int))) (fun r14_365 =>
            if r14_365 = true then
              bindO (trimF s0 [97, 98, 99, 100, 101, 102, 103, 104, 105, 106, 107, 108, 109, 110, 111, 112, 113, 114, 115, 116, 117, 118, 119, 120, 121, 122, 48, 49, 50, 51, 52, 53, 54, 55, 56, 57, 45]) (fun r18_366 =>
                some (decide (r18_366 = []))) none
            else
              some false) none) none
      else
        some false
    else
      some false) (fun (c2_367 : Bool) =>
    some c2_367) none
def wrackref2_Way.s0 {R : Type} (N : Nat) (s : R) (k0 : (List (List Int) × Unit) → R) (kr : (Bool × Unit) → R) (c375 : Int × Unit) (again : (List (List Int) × List (List Int) × Int × Unit) → R) (v376 : List (List Int) × List (List Int) × Int × Unit) : R :=
  let v9_377 : Int := c375.1
  let l3_378 : List (List Int) := v376.1
  let v8_379 : List (List Int) := v376.2.1
  let v10_380 : Int := v376.2.2.1
  if (decide (v10_380 < v9_377)) = true then
    gate (inR v10_380 (v8_379.length : Int)) (
      bindO (wrackref2_Word N (getI [] v8_379 v10_380)) (fun r15_381 =>
        if (!r15_381) = true then
          kr (false, ())
        else
          again (l3_378, v8_379, (IntKind.wrap .i64 (v10_380 + (1 : Int))), ())) s) s
  else
    k0 (l3_378, ())
def wrackref2_Way (N : Nat) (s0 : List Int) : Option Bool :=
  bindO (strings_Split N s0 [47]) (fun r7_373 =>
    iter (wrackref2_Way.s0 N none (fun (x382 : List (List Int) × Unit) =>
      let l3_383 : List (List Int) := x382.1
      some (decide ((l3_383.length : Int) ≤ (4 : Int)))) (fun (x384 : Bool × Unit) =>
      let v2_385 : Bool := x384.1
      some v2_385) ((r7_373.length : Int), ())) none N (r7_373, r7_373, (0 : Int), ())) none
def wrackref2_ItemsErr.s0 {R : Type} (N : Nat) (s : R) (k0 : Unit → R) (kr : (Int × Unit) → R) (c405 : List (List Int × List Int) × Int × Unit) (again : (List (List Int × Bool) × Int × Unit) → R) (v406 : List (List Int × Bool) × Int × Unit) : R :=
  let v10_407 : List (List Int × List Int) := c405.1
  let v11_408 : Int := c405.2.1
  let seen3_409 : List (List Int × Bool) := v406.1
  let v12_410 : Int := v406.2.1
  if (decide (v12_410 < v11_408)) = true then
    gate (inR v12_410 (v10_407.length : Int)) (
      bindO (wrackref2_Way N ((getI ([], []) v10_407 v12_410).1)) (fun r19_411 =>
        if (!r19_411) = true then
          kr ((6 : Int), ())
        else
          let t24_415 : Int := (((getI ([], []) v10_407 v12_410).2).length : Int)
          if (decide (t24_415 > (2048 : Int))) = true then
            kr ((2 : Int), ())
          else
            let t30_417 : Bool := ((mapGet (k := .str) (v := .bool) seen3_409 ((getI ([], []) v10_407 v12_410).1)).getD false)
            if t30_417 = true then
              kr ((7 : Int), ())
            else
              let bx_418 : List (List Int × Bool) := (mapPut (k := .str) (v := .bool) seen3_409 ((getI ([], []) v10_407 v12_410).1) true)
              again (bx_418, (IntKind.wrap .i64 (v12_410 + (1 : Int))), ())) s) s
  else
    k0 ()
def wrackref2_ItemsErr (N : Nat) (l0 : List (List Int × List Int)) : Option Int :=
  if (decide ((l0.length : Int) > (30 : Int))) = true then
    some (9 : Int)
  else
    iter (wrackref2_ItemsErr.s0 N none (fun (x419 : Unit) =>
      some (0 : Int)) (fun (x420 : Int × Unit) =>
      let v2_421 : Int := x420.1
      some v2_421) (l0, (l0.length : Int), ())) none N (([] : List (List Int × Bool)), (0 : Int), ())
def slices_Equal_byte.s0 {R : Type} (N : Nat) (s : R) (k0 : Unit → R) (kr : (Bool × Unit) → R) (c431 : List Int × List Int × Int × Unit) (again : (Int × Unit) → R) (v432 : Int × Unit) : R :=
  let s10_433 : List Int := c431.1
  let s21_434 : List Int := c431.2.1
  let v12_435 : Int := c431.2.2.1
  let v13_436 : Int := v432.1
  if (decide (v13_436 < v12_435)) = true then
    gate (inR v13_436 (s10_433.length : Int)) (
      gate (inR v13_436 (s21_434.length : Int)) (
        let t24_437 : Bool := (!decide ((getI (0 : Int) s10_433 v13_436) = (getI (0 : Int) s21_434 v13_436)))
        if t24_437 = true then
          kr (false, ())
        else
          again ((IntKind.wrap .i64 (v13_436 + (1 : Int))), ())) s) s
  else
    k0 ()
def slices_Equal_byte (N : Nat) (s10 : List Int) (s21 : List Int) : Option Bool :=
  let t10_429 : Bool := (!decide ((s10.length : Int) = (s21.length : Int)))
  if t10_429 = true then
    some false
  else
    iter (slices_Equal_byte.s0 N none (fun (x438 : Unit) =>
      some true) (fun (x439 : Bool × Unit) =>
      let v4_440 : Bool := x439.1
      some v4_440) (s10, s21, (s10.length : Int), ())) none N ((0 : Int), ())
def wracklaw2_archives (N : Nat) : Option Bool :=
  bindO (arch_Pack N [(7 : Int), (7 : Int), (7 : Int)]) (fun r2_442 =>
    bindO (slices_Equal_byte N r2_442 [(3 : Int), (7 : Int)]) (fun r4_443 =>
      some r4_443) none) none
def wrackref2_Ran.s0 {R : Type} (N : Nat) (s : R) (k0 : (List Int × Unit) → R) (c487 : List Int × List Int × Int × Unit) (again : (List Int × Int × Unit) → R) (v488 : List Int × Int × Unit) : R :=
  let b0_489 : List Int := c487.1
  let v7_490 : List Int := c487.2.1
  let v8_491 : Int := c487.2.2.1
  let out3_492 : List Int := v488.1
  let v9_493 : Int := v488.2.1
  if (decide (v9_493 < v8_491)) = true then
    gate (inR v9_493 (v7_490.length : Int)) (
      bindO (
        if (decide (v9_493 > (0 : Int))) = true then
          gate (inR (IntKind.wrap .i64 (v9_493 - (1 : Int))) (b0_489.length : Int)) (
            let t22_498 : Int := (getI (0 : Int) b0_489 (IntKind.wrap .i64 (v9_493 - (1 : Int))))
            let t25_499 : Bool := (decide (t22_498 = (getI (0 : Int) v7_490 v9_493)))
            if t25_499 = true then
              let t30_500 : Int := (IntKind.wrap .i64 ((out3_492.length : Int) - (2 : Int)))
              gate (inR t30_500 (out3_492.length : Int)) (
                gate (inR t30_500 (out3_492.length : Int)) (
                  let t33_501 : Bool := (decide ((getI (0 : Int) out3_492 t30_500) < (255 : Int)))
                  some t33_501) none) none
            else
              some false) none
        else
          some false) (fun (c34_502 : Bool) =>
        if c34_502 = true then
          let t37_503 : Int := (IntKind.wrap .i64 ((out3_492.length : Int) - (2 : Int)))
          gate (inR t37_503 (out3_492.length : Int)) (
            gate (inR t37_503 (out3_492.length : Int)) (
              let t40_504 : Int := (IntKind.wrap .u8 ((getI (0 : Int) out3_492 t37_503) + (1 : Int)))
              gate (inR t37_503 (out3_492.length : Int)) (
                gate (inR t37_503 (out3_492.length : Int)) (
                  again ((out3_492.set (t37_503).toNat t40_504), (IntKind.wrap .i64 (v9_493 + (1 : Int))), ())) s) s) s) s
        else
          gate (roomFor (out3_492.length + [(1 : Int), (getI (0 : Int) v7_490 v9_493)].length) 1) (
            let b45_505 : List Int := (out3_492 ++ [(1 : Int), (getI (0 : Int) v7_490 v9_493)])
            again (b45_505, (IntKind.wrap .i64 (v9_493 + (1 : Int))), ())) s) s) s
  else
    k0 (out3_492, ())
def wrackref2_Ran (N : Nat) (b0 : List Int) : Option (List Int) :=
  iter (wrackref2_Ran.s0 N none (fun (x506 : List Int × Unit) =>
    let out3_507 : List Int := x506.1
    some out3_507) (b0, b0, (b0.length : Int), ())) none N ([], (0 : Int), ())
def wrackref2_Crc.s1 {R : Type} (N : Nat) (s : R) (k2 : (Int × Unit) → R) (c561 : List Int × Int × Int × Unit) (again : (Int × Int × Unit) → R) (v562 : Int × Int × Unit) : R :=
  let v6_563 : List Int := c561.1
  let v7_564 : Int := c561.2.1
  let v8_565 : Int := c561.2.2.1
  let c3_566 : Int := v562.1
  let v16_567 : Int := v562.2.1
  if (decide (v16_567 < (8 : Int))) = true then
    gate (decide ((2 : Int) ≠ 0)) (
      let t20_568 : Bool := (decide ((Int.tmod c3_566 (2 : Int)) = (1 : Int)))
      if t20_568 = true then
        gate (decide ((2 : Int) ≠ 0)) (
          let t22_569 : Int := (IntKind.wrap .u32 (Int.tdiv c3_566 (2 : Int)))
          again ((bitXor .u32 t22_569 (3988292384 : Int)), (IntKind.wrap .i64 (v16_567 + (1 : Int))), ())) s
      else
        gate (decide ((2 : Int) ≠ 0)) (
          let t25_570 : Int := (IntKind.wrap .u32 (Int.tdiv c3_566 (2 : Int)))
          again (t25_570, (IntKind.wrap .i64 (v16_567 + (1 : Int))), ())) s) s
  else
    k2 (c3_566, ())
def wrackref2_Crc.s0 {R : Type} (N : Nat) (s : R) (k0 : (Int × Unit) → R) (c552 : List Int × Int × Unit) (again : (Int × Int × Unit) → R) (v553 : Int × Int × Unit) : R :=
  let v6_554 : List Int := c552.1
  let v7_555 : Int := c552.2.1
  let c3_556 : Int := v553.1
  let v8_557 : Int := v553.2.1
  if (decide (v8_557 < v7_555)) = true then
    gate (inR v8_557 (v6_554.length : Int)) (
      let t14_558 : Int := (IntKind.wrap .u32 ((getI (0 : Int) v6_554 v8_557)))
      iter (wrackref2_Crc.s1 N s (fun (x571 : Int × Unit) =>
        let c3_572 : Int := x571.1
        again (c3_572, (IntKind.wrap .i64 (v8_557 + (1 : Int))), ())) (v6_554, v7_555, v8_557, ())) s N ((bitXor .u32 c3_556 t14_558), (0 : Int), ())) s
  else
    k0 (c3_556, ())
def wrackref2_Crc (N : Nat) (b0 : List Int) : Option Int :=
  iter (wrackref2_Crc.s0 N none (fun (x573 : Int × Unit) =>
    let c3_574 : Int := x573.1
    let t30_575 : Int := (IntKind.wrap .i64 ((bitXor .u32 4294967295 c3_574)))
    some t30_575) (b0, (b0.length : Int), ())) none N ((4294967295 : Int), (0 : Int), ())
def wrackref2_ItemBytes_i0_wrackref2_set.s0 {R : Type} (N : Nat) (s : R) (k0 : (List Int × List Int × List Int × Unit) → R) (c603 : Int × Unit) (again : (List Int × List Int × List Int × Int × Int × Int × Int × Unit) → R) (v604 : List Int × List Int × List Int × Int × Int × Int × Int × Unit) : R :=
  let v6_605 : Int := c603.1
  let h0_606 : List Int := v604.1
  let h0_607 : List Int := v604.2.1
  let h1_608 : List Int := v604.2.2.1
  let b0lo_609 : Int := v604.2.2.2.1
  let b0hi_610 : Int := v604.2.2.2.2.1
  let n1_611 : Int := v604.2.2.2.2.2.1
  let v7_612 : Int := v604.2.2.2.2.2.2.1
  if (decide (v7_612 < v6_605)) = true then
    gate (decide ((256 : Int) ≠ 0)) (
      let t14_613 : Int := (IntKind.wrap .u8 ((Int.tmod n1_611 (256 : Int))))
      gate (inR v7_612 (b0hi_610 - b0lo_609)) (
        gate (inR (b0lo_609 + v7_612) (h1_608.length : Int)) (
          let bx_614 : List Int := (h1_608.set ((b0lo_609 + v7_612)).toNat t14_613)
          gate (decide ((256 : Int) ≠ 0)) (
            let t17_615 : Int := (IntKind.wrap .i64 (Int.tdiv n1_611 (256 : Int)))
            again (h0_606, h0_607, bx_614, b0lo_609, b0hi_610, t17_615, (IntKind.wrap .i64 (v7_612 + (1 : Int))), ())) s) s) s) s
  else
    k0 (h0_606, h0_607, h1_608, ())
def wrackref2_ItemBytes_i1_wrackref2_set.s0 {R : Type} (N : Nat) (s : R) (k0 : (List Int × List Int × List Int × Unit) → R) (c624 : Int × Unit) (again : (List Int × List Int × List Int × Int × Int × Int × Int × Unit) → R) (v625 : List Int × List Int × List Int × Int × Int × Int × Int × Unit) : R :=
  let v6_626 : Int := c624.1
  let h0_627 : List Int := v625.1
  let h0_628 : List Int := v625.2.1
  let h1_629 : List Int := v625.2.2.1
  let b0lo_630 : Int := v625.2.2.2.1
  let b0hi_631 : Int := v625.2.2.2.2.1
  let n1_632 : Int := v625.2.2.2.2.2.1
  let v7_633 : Int := v625.2.2.2.2.2.2.1
  if (decide (v7_633 < v6_626)) = true then
    gate (decide ((256 : Int) ≠ 0)) (
      let t14_634 : Int := (IntKind.wrap .u8 ((Int.tmod n1_632 (256 : Int))))
      gate (inR v7_633 (b0hi_631 - b0lo_630)) (
        gate (inR (b0lo_630 + v7_633) (h1_629.length : Int)) (
          let bx_635 : List Int := (h1_629.set ((b0lo_630 + v7_633)).toNat t14_634)
          gate (decide ((256 : Int) ≠ 0)) (
            let t17_636 : Int := (IntKind.wrap .i64 (Int.tdiv n1_632 (256 : Int)))
            again (h0_627, h0_628, bx_635, b0lo_630, b0hi_631, t17_636, (IntKind.wrap .i64 (v7_633 + (1 : Int))), ())) s) s) s) s
  else
    k0 (h0_627, h0_628, h1_629, ())
def wrackref2_ItemBytes_i2_wrackref2_set.s0 {R : Type} (N : Nat) (s : R) (k0 : (List Int × List Int × List Int × Unit) → R) (c646 : Int × Unit) (again : (List Int × List Int × List Int × Int × Int × Int × Int × Unit) → R) (v647 : List Int × List Int × List Int × Int × Int × Int × Int × Unit) : R :=
  let v6_648 : Int := c646.1
  let h0_649 : List Int := v647.1
  let h0_650 : List Int := v647.2.1
  let h1_651 : List Int := v647.2.2.1
  let b0lo_652 : Int := v647.2.2.2.1
  let b0hi_653 : Int := v647.2.2.2.2.1
  let n1_654 : Int := v647.2.2.2.2.2.1
  let v7_655 : Int := v647.2.2.2.2.2.2.1
  if (decide (v7_655 < v6_648)) = true then
    gate (decide ((256 : Int) ≠ 0)) (
      let t14_656 : Int := (IntKind.wrap .u8 ((Int.tmod n1_654 (256 : Int))))
      gate (inR v7_655 (b0hi_653 - b0lo_652)) (
        gate (inR (b0lo_652 + v7_655) (h1_651.length : Int)) (
          let bx_657 : List Int := (h1_651.set ((b0lo_652 + v7_655)).toNat t14_656)
          gate (decide ((256 : Int) ≠ 0)) (
            let t17_658 : Int := (IntKind.wrap .i64 (Int.tdiv n1_654 (256 : Int)))
            again (h0_649, h0_650, bx_657, b0lo_652, b0hi_653, t17_658, (IntKind.wrap .i64 (v7_655 + (1 : Int))), ())) s) s) s) s
  else
    k0 (h0_649, h0_650, h1_651, ())
def wrackref2_ItemBytes (N : Nat) (x0 : List Int × List Int) : Option (List Int) :=
  bindO (wrackref2_Ran N x0.2) (fun r12_586 =>
    let t17_587 : Bool := (decide ((r12_586.length : Int) < (x0.2.length : Int)))
    bindO ((
      if t17_587 = true then
        some (r12_586, (1 : Int), x0.1, x0.2, ())
      else
        some (x0.2, (0 : Int), x0.1, x0.2, ()) : Option (List Int × Int × List Int × List Int × Unit))) (fun j588 =>
      let stored3_589 : List Int := j588.1
      let way4_590 : Int := j588.2.1
      let m0_591 : List Int := j588.2.2.1
      let m0_592 : List Int := j588.2.2.2.1
      let t22_593 : Int := (IntKind.wrap .i64 ((11 : Int) + (m0_591.length : Int)))
      let t25_594 : Int := (IntKind.wrap .i64 (t22_593 + (stored3_589.length : Int)))
      gate (decide (0 ≤ t25_594 ∧ t25_594 ≤ t25_594) && roomFor (t25_594).toNat 1) (
        gate (inR (0 : Int) ((List.replicate (t25_594).toNat (0 : Int)).length : Int)) (
          gate (inR (0 : Int) ((List.replicate (t25_594).toNat (0 : Int)).length : Int)) (
            let bx_595 : List Int := ((List.replicate (t25_594).toNat (0 : Int)).set ((0 : Int)).toNat (105 : Int))
            gate (inR (1 : Int) (bx_595.length : Int)) (
              gate (inR (1 : Int) (bx_595.length : Int)) (
                gate (inR (2 : Int) ((bx_595.set ((1 : Int)).toNat way4_590).length : Int)) (
                  gate (inR (2 : Int) ((bx_595.set ((1 : Int)).toNat way4_590).length : Int)) (
                    let bx_596 : List Int := ((bx_595.set ((1 : Int)).toNat way4_590).set ((2 : Int)).toNat (IntKind.wrap .u8 ((m0_591.length : Int))))
                    gate (bounds (bx_596.length : Int) (3 : Int) (bx_596.length : Int)) (
                      let t42_597 : Int := (((min m0_591.length ((bx_596.length : Int) - (3 : Int)).toNat) : Nat) : Int)
                      let b42_598 : List Int := (over bx_596 m0_591 ((3 : Int)).toNat (min m0_591.length ((bx_596.length : Int) - (3 : Int)).toNat))
                      let t47_599 : Int := (IntKind.wrap .i64 ((IntKind.wrap .i64 ((3 : Int) + t42_597)) + (2 : Int)))
                      gate (bounds (b42_598.length : Int) (IntKind.wrap .i64 ((3 : Int) + t42_597)) t47_599) (
                        let t6_600 : Int := (t47_599 - (IntKind.wrap .i64 ((3 : Int) + t42_597)))
                        iter (wrackref2_ItemBytes_i0_wrackref2_set.s0 N none (fun (x616 : List Int × List Int × List Int × Unit) =>
                          let h0_617 : List Int := x616.1
                          let h0_618 : List Int := x616.2.1
                          let h1_619 : List Int := x616.2.2.1
                          let t55_620 : Int := (IntKind.wrap .i64 ((IntKind.wrap .i64 ((3 : Int) + t42_597)) + (2 : Int)))
                          let t57_621 : Int := (IntKind.wrap .i64 ((IntKind.wrap .i64 ((3 : Int) + t42_597)) + (4 : Int)))
                          gate (bounds (h1_619.length : Int) t55_620 t57_621) (
                            iter (wrackref2_ItemBytes_i1_wrackref2_set.s0 N none (fun (x637 : List Int × List Int × List Int × Unit) =>
                              let h0_638 : List Int := x637.1
                              let h0_639 : List Int := x637.2.1
                              let h1_640 : List Int := x637.2.2.1
                              let t64_641 : Int := (IntKind.wrap .i64 ((IntKind.wrap .i64 ((3 : Int) + t42_597)) + (4 : Int)))
                              let t66_642 : Int := (IntKind.wrap .i64 ((IntKind.wrap .i64 ((3 : Int) + t42_597)) + (8 : Int)))
                              gate (bounds (h1_640.length : Int) t64_641 t66_642) (
                                bindO (wrackref2_Crc N h0_639) (fun r70_643 =>
                                  iter (wrackref2_ItemBytes_i2_wrackref2_set.s0 N none (fun (x659 : List Int × List Int × List Int × Unit) =>
                                    let h0_660 : List Int := x659.1
                                    let h0_661 : List Int := x659.2.1
                                    let h1_662 : List Int := x659.2.2.1
                                    let t74_663 : Int := (IntKind.wrap .i64 ((IntKind.wrap .i64 ((3 : Int) + t42_597)) + (8 : Int)))
                                    gate (bounds (h1_662.length : Int) t74_663 (h1_662.length : Int)) (
                                      let t77_664 : Int := (((min stored3_589.length ((h1_662.length : Int) - t74_663).toNat) : Nat) : Int)
                                      let b77_665 : List Int := (over h1_662 stored3_589 (t74_663).toNat (min stored3_589.length ((h1_662.length : Int) - t74_663).toNat))
                                      some b77_665) none) ((t66_642 - t64_641), ())) none N (h0_638, h0_639, h1_640, t64_641, t66_642, r70_643, (0 : Int), ())) none) none) ((t57_621 - t55_620), ())) none N (h0_617, h0_618, h1_619, t55_620, t57_621, (stored3_589.length : Int), (0 : Int), ())) none) (t6_600, ())) none N (m0_591, m0_592, b42_598, (IntKind.wrap .i64 ((3 : Int) + t42_597)), t47_599, (m0_592.length : Int), (0 : Int), ())) none) none) none) none) none) none) none) none) none) none) none
def slices_Concat_byte.s0 {R : Type} (N : Nat) (s : R) (k0 : (Int × Unit) → R) (c731 : List (List Int) × List (List Int) × Int × Unit) (again : (Int × Int × Unit) → R) (v732 : Int × Int × Unit) : R :=
  let slices0_733 : List (List Int) := c731.1
  let v9_734 : List (List Int) := c731.2.1
  let v10_735 : Int := c731.2.2.1
  let size3_736 : Int := v732.1
  let v11_737 : Int := v732.2.1
  if (decide (v11_737 < v10_735)) = true then
    gate (inR v11_737 (v9_734.length : Int)) (
      let t18_738 : Int := (IntKind.wrap .i64 (size3_736 + ((getI [] v9_734 v11_737).length : Int)))
      if (decide (t18_738 < (0 : Int))) = true then
        s
      else
        again (t18_738, (IntKind.wrap .i64 (v11_737 + (1 : Int))), ())) s
  else
    k0 (size3_736, ())
def slices_Concat_byte.s1 {R : Type} (N : Nat) (s : R) (k2 : (List Int × Unit) → R) (c742 : List (List Int) × Int × Unit) (again : (List Int × Int × Unit) → R) (v743 : List Int × Int × Unit) : R :=
  let v25_744 : List (List Int) := c742.1
  let v26_745 : Int := c742.2.1
  let newslice6_746 : List Int := v743.1
  let v27_747 : Int := v743.2.1
  if (decide (v27_747 < v26_745)) = true then
    gate (inR v27_747 (v25_744.length : Int)) (
      gate (roomFor (newslice6_746.length + (getI [] v25_744 v27_747).length) 1) (
        again ((newslice6_746 ++ (getI [] v25_744 v27_747)), (IntKind.wrap .i64 (v27_747 + (1 : Int))), ())) s) s
  else
    k2 (newslice6_746, ())
def slices_Concat_byte (N : Nat) (slices0 : List (List Int)) : Option (List Int) :=
  iter (slices_Concat_byte.s0 N none (fun (x739 : Int × Unit) =>
    let size3_740 : Int := x739.1
    if (decide (size3_740 < (0 : Int))) = true then
      none
    else
      let t14_741 : Int := (IntKind.wrap .i64 (size3_740 - (IntKind.wrap .i64 ((0 : Int) - (0 : Int)))))
      if (decide (t14_741 > (0 : Int))) = true then
        gate (bounds (0 : Int) (0 : Int) (0 : Int)) (
          gate ((decide (0 < t14_741) && roomFor ((t14_741).toNat) 1)) (
            gate (bounds ((List.replicate (t14_741).toNat (0 : Int)).length : Int) (0 : Int) (0 : Int)) (
              iter (slices_Concat_byte.s1 N none (fun (x748 : List Int × Unit) =>
                let newslice6_749 : List Int := x748.1
                some newslice6_749) (slices0, (slices0.length : Int), ())) none N ((cut (List.replicate (t14_741).toNat (0 : Int)) (0 : Int) (0 : Int)), (0 : Int), ())) none) none) none
      else
        iter (slices_Concat_byte.s1 N none (fun (x750 : List Int × Unit) =>
          let newslice6_751 : List Int := x750.1
          some newslice6_751) (slices0, (slices0.length : Int), ())) none N ([], (0 : Int), ())) (slices0, slices0, (slices0.length : Int), ())) none N ((0 : Int), (0 : Int), ())
def wrackref2_ArchBytes_i0_wrackref2_set.s0 {R : Type} (N : Nat) (s : R) (k0 : (List Int × List Int × List Int × List Int × Unit) → R) (c808 : Int × Unit) (again : (List Int × List Int × List Int × List Int × Int × Int × Int × Int × Unit) → R) (v809 : List Int × List Int × List Int × List Int × Int × Int × Int × Int × Unit) : R :=
  let v6_810 : Int := c808.1
  let h0_811 : List Int := v809.1
  let h1_812 : List Int := v809.2.1
  let h2_813 : List Int := v809.2.2.1
  let h2_814 : List Int := v809.2.2.2.1
  let b0lo_815 : Int := v809.2.2.2.2.1
  let b0hi_816 : Int := v809.2.2.2.2.2.1
  let n1_817 : Int := v809.2.2.2.2.2.2.1
  let v7_818 : Int := v809.2.2.2.2.2.2.2.1
  if (decide (v7_818 < v6_810)) = true then
    gate (decide ((256 : Int) ≠ 0)) (
      let t14_819 : Int := (IntKind.wrap .u8 ((Int.tmod n1_817 (256 : Int))))
      gate (inR v7_818 (b0hi_816 - b0lo_815)) (
        gate (inR (b0lo_815 + v7_818) (h0_811.length : Int)) (
          let bx_820 : List Int := (h0_811.set ((b0lo_815 + v7_818)).toNat t14_819)
          gate (decide ((256 : Int) ≠ 0)) (
            let t17_821 : Int := (IntKind.wrap .i64 (Int.tdiv n1_817 (256 : Int)))
            again (bx_820, h1_812, h2_813, h2_814, b0lo_815, b0hi_816, t17_821, (IntKind.wrap .i64 (v7_818 + (1 : Int))), ())) s) s) s) s
  else
    k0 (h0_811, h1_812, h2_813, h2_814, ())
def wrackref2_ArchBytes.s0 {R : Type} (N : Nat) (s : R) (k0 : (List Int × List Int × Unit) → R) (c797 : List (List Int × List Int) × Int × Unit) (again : (List Int × List Int × Int × Unit) → R) (v798 : List Int × List Int × Int × Unit) : R :=
  let v20_799 : List (List Int × List Int) := c797.1
  let v21_800 : Int := c797.2.1
  let dir3_801 : List Int := v798.1
  let out4_802 : List Int := v798.2.1
  let v22_803 : Int := v798.2.2.1
  if (decide (v22_803 < v21_800)) = true then
    gate (inR v22_803 (v20_799.length : Int)) (
      let t30_804 : Int := (IntKind.wrap .i64 ((2 : Int) + (IntKind.wrap .i64 ((3 : Int) * v22_803))))
      let t33_805 : Int := (IntKind.wrap .i64 ((5 : Int) + (IntKind.wrap .i64 ((3 : Int) * v22_803))))
      gate (bounds (dir3_801.length : Int) t30_804 t33_805) (
        iter (wrackref2_ArchBytes_i0_wrackref2_set.s0 N s (fun (x822 : List Int × List Int × List Int × List Int × Unit) =>
          let h0_823 : List Int := x822.1
          let h1_824 : List Int := x822.2.1
          let h2_825 : List Int := x822.2.2.1
          let h2_826 : List Int := x822.2.2.2.1
          bindO (wrackref2_ItemBytes N (h2_825, h2_826)) (fun r40_827 =>
            gate (roomFor (h1_824.length + r40_827.length) 1) (
              again (h0_823, (h1_824 ++ r40_827), (IntKind.wrap .i64 (v22_803 + (1 : Int))), ())) s) s) ((t33_805 - t30_804), ())) s N (dir3_801, out4_802, (getI ([], []) v20_799 v22_803).1, (getI ([], []) v20_799 v22_803).2, t30_804, t33_805, (out4_802.length : Int), (0 : Int), ())) s) s
  else
    k0 (dir3_801, out4_802, ())
def wrackref2_ArchBytes_i1_wrackref2_set.s0 {R : Type} (N : Nat) (s : R) (k0 : (List Int × List Int × List Int × Unit) → R) (c834 : Int × Unit) (again : (List Int × List Int × List Int × Int × Int × Int × Int × Unit) → R) (v835 : List Int × List Int × List Int × Int × Int × Int × Int × Unit) : R :=
  let v6_836 : Int := c834.1
  let h0_837 : List Int := v835.1
  let h1_838 : List Int := v835.2.1
  let h2_839 : List Int := v835.2.2.1
  let b0lo_840 : Int := v835.2.2.2.1
  let b0hi_841 : Int := v835.2.2.2.2.1
  let n1_842 : Int := v835.2.2.2.2.2.1
  let v7_843 : Int := v835.2.2.2.2.2.2.1
  if (decide (v7_843 < v6_836)) = true then
    gate (decide ((256 : Int) ≠ 0)) (
      let t14_844 : Int := (IntKind.wrap .u8 ((Int.tmod n1_842 (256 : Int))))
      gate (inR v7_843 (b0hi_841 - b0lo_840)) (
        gate (inR (b0lo_840 + v7_843) (h2_839.length : Int)) (
          let bx_845 : List Int := (h2_839.set ((b0lo_840 + v7_843)).toNat t14_844)
          gate (decide ((256 : Int) ≠ 0)) (
            let t17_846 : Int := (IntKind.wrap .i64 (Int.tdiv n1_842 (256 : Int)))
            again (h0_837, h1_838, bx_845, b0lo_840, b0hi_841, t17_846, (IntKind.wrap .i64 (v7_843 + (1 : Int))), ())) s) s) s) s
  else
    k0 (h0_837, h1_838, h2_839, ())
def wrackref2_ArchBytes_i2_wrackref2_set.s0 {R : Type} (N : Nat) (s : R) (k0 : (List Int × List Int × List Int × Unit) → R) (c854 : Int × Unit) (again : (List Int × List Int × List Int × Int × Int × Int × Int × Unit) → R) (v855 : List Int × List Int × List Int × Int × Int × Int × Int × Unit) : R :=
  let v6_856 : Int := c854.1
  let h0_857 : List Int := v855.1
  let h1_858 : List Int := v855.2.1
  let h2_859 : List Int := v855.2.2.1
  let b0lo_860 : Int := v855.2.2.2.1
  let b0hi_861 : Int := v855.2.2.2.2.1
  let n1_862 : Int := v855.2.2.2.2.2.1
  let v7_863 : Int := v855.2.2.2.2.2.2.1
  if (decide (v7_863 < v6_856)) = true then
    gate (decide ((256 : Int) ≠ 0)) (
      let t14_864 : Int := (IntKind.wrap .u8 ((Int.tmod n1_862 (256 : Int))))
      gate (inR v7_863 (b0hi_861 - b0lo_860)) (
        gate (inR (b0lo_860 + v7_863) (h2_859.length : Int)) (
          let bx_865 : List Int := (h2_859.set ((b0lo_860 + v7_863)).toNat t14_864)
          gate (decide ((256 : Int) ≠ 0)) (
            let t17_866 : Int := (IntKind.wrap .i64 (Int.tdiv n1_862 (256 : Int)))
            again (h0_857, h1_858, bx_865, b0lo_860, b0hi_861, t17_866, (IntKind.wrap .i64 (v7_863 + (1 : Int))), ())) s) s) s) s
  else
    k0 (h0_857, h1_858, h2_859, ())
def wrackref2_ArchBytes (N : Nat) (l0 : List (List Int × List Int)) : Option (List Int) :=
  let t10_753 : Int := (IntKind.wrap .i64 ((3 : Int) * (l0.length : Int)))
  gate (decide (0 ≤ (IntKind.wrap .i64 ((2 : Int) + t10_753)) ∧ (IntKind.wrap .i64 ((2 : Int) + t10_753)) ≤ (IntKind.wrap .i64 ((2 : Int) + t10_753))) && roomFor ((IntKind.wrap .i64 ((2 : Int) + t10_753))).toNat 1) (
    let b12_754 : List Int := (List.replicate ((IntKind.wrap .i64 ((2 : Int) + t10_753))).toNat (0 : Int))
    gate (inR (0 : Int) (b12_754.length : Int)) (
      gate (inR (0 : Int) (b12_754.length : Int)) (
        gate (inR (1 : Int) ((b12_754.set ((0 : Int)).toNat (100 : Int)).length : Int)) (
          gate (inR (1 : Int) ((b12_754.set ((0 : Int)).toNat (100 : Int)).length : Int)) (
            let bx_755 : List Int := ((b12_754.set ((0 : Int)).toNat (100 : Int)).set ((1 : Int)).toNat (IntKind.wrap .u8 ((l0.length : Int))))
            iter (wrackref2_ArchBytes.s0 N none (fun (x828 : List Int × List Int × Unit) =>
              let dir3_829 : List Int := x828.1
              let out4_830 : List Int := x828.2.1
              gate (decide (0 ≤ (8 : Int) ∧ (8 : Int) ≤ (8 : Int)) && roomFor ((8 : Int)).toNat 1) (
                gate (inR (0 : Int) ((List.replicate ((8 : Int)).toNat (0 : Int)).length : Int)) (
                  gate (inR (0 : Int) ((List.replicate ((8 : Int)).toNat (0 : Int)).length : Int)) (
                    let bx_831 : List Int := ((List.replicate ((8 : Int)).toNat (0 : Int)).set ((0 : Int)).toNat (101 : Int))
                    gate (bounds (bx_831.length : Int) (1 : Int) (4 : Int)) (
                      iter (wrackref2_ArchBytes_i1_wrackref2_set.s0 N none (fun (x847 : List Int × List Int × List Int × Unit) =>
                        let h0_848 : List Int := x847.1
                        let h1_849 : List Int := x847.2.1
                        let h2_850 : List Int := x847.2.2.1
                        gate (bounds (h2_850.length : Int) (4 : Int) (h2_850.length : Int)) (
                          bindO (wrackref2_Crc N h0_848) (fun r54_851 =>
                            iter (wrackref2_ArchBytes_i2_wrackref2_set.s0 N none (fun (x867 : List Int × List Int × List Int × Unit) =>
                              let h0_868 : List Int := x867.1
                              let h1_869 : List Int := x867.2.1
                              let h2_870 : List Int := x867.2.2.1
                              bindO (slices_Concat_byte N [h1_869, h0_868, h2_870]) (fun r60_871 =>
                                some r60_871) none) (((h2_850.length : Int) - (4 : Int)), ())) none N (h0_848, h1_849, h2_850, (4 : Int), (h2_850.length : Int), r54_851, (0 : Int), ())) none) none) (((4 : Int) - (1 : Int)), ())) none N (dir3_829, out4_830, bx_831, (1 : Int), (4 : Int), (out4_830.length : Int), (0 : Int), ())) none) none) none) none) (l0, (l0.length : Int), ())) none N (bx_755, [], (0 : Int), ())) none) none) none) none) none
def wracklaw2_ArchMakes (N : Nat) (l0 : List (List Int × List Int)) : Option Bool :=
  bindO (arch_Make N l0) (fun r9_891 =>
    bindO (wrackref2_ItemsErr N l0) (fun r13_892 =>
      bindO (
        bindO (wracklaw2_archives N) (fun r14_895 =>
          if (!r14_895) = true then
            some true
          else
            bindO (arch_Check N l0) (fun r18_896 =>
              some (!decide (r18_896 = r13_892))) none) none) (fun (c21_897 : Bool) =>
        if c21_897 = true then
          some false
        else
          bindO ((
            if (decide (r13_892 = (0 : Int))) = true then
              bindO (wrackref2_ArchBytes N l0) (fun r25_904 =>
                let t28_905 : Bool := (decide ((r25_904.length : Int) > (65536 : Int)))
                bindO ((
                  if t28_905 = true then
                    some (r9_891.1, (2 : Int), [], ())
                  else
                    some (r9_891.1, r13_892, r25_904, ()) : Option (List Int × Int × List Int × Unit))) (fun j906 =>
                  let b3_907 : List Int := j906.1
                  let bad5_908 : Int := j906.2.1
                  let want6_909 : List Int := j906.2.2.1
                  some (b3_907, bad5_908, want6_909, ())) none) none
            else
              some (r9_891.1, r13_892, [], ()) : Option (List Int × Int × List Int × Unit))) (fun j910 =>
            let b3_911 : List Int := j910.1
            let bad5_912 : Int := j910.2.1
            let want6_913 : List Int := j910.2.2.1
            bindO (
              if (decide (r9_891.2 = bad5_912)) = true then
                bindO (slices_Equal_byte N b3_911 want6_913) (fun r35_915 =>
                  some r35_915) none
              else
                some false) (fun (c2_916 : Bool) =>
              some c2_916) none) none) none) none) none
end Go.Proofs.YteekijpcdcpjkaaDoor
