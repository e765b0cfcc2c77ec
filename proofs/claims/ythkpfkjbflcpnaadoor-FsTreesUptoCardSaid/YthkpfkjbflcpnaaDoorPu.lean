import Derived.Test.YthkpfkjbflcpnaaDoorAbDen
import Derived.Test.YthkpfkjbflcpnaaDoorAbStrFn
import Derived.Test.YthkpfkjbflcpnaaDoorAbDen
set_option linter.unusedVariables false
namespace Go.Proofs.YthkpfkjbflcpnaaDoor
open Go Go.Ab
def slices_Clone_byte (N : Nat) (s0 : List Int) : Option (List Int) :=
  gate (roomFor (([] : List Int).length + s0.length) 1) (
    some (([] : List Int) ++ s0)) none
def fs_Get.s0 {R : Type} (N : Nat) (s : R) (k0 : (List Int × Bool × Int × Unit) → R) (kr : (Bool × List Int × Bool × Int × List Int × Unit) → R) (c17 : List Int × List (List Int × Bool × Int × List Int) × Int × Unit) (again : (Int × List Int × Bool × Int × Unit) → R) (v18 : Int × List Int × Bool × Int × Unit) : R :=
  let path1_19 : List Int := c17.1
  let v8_20 : List (List Int × Bool × Int × List Int) := c17.2.1
  let v9_21 : Int := c17.2.2.1
  let v10_22 : Int := v18.1
  let m0_23 : List Int := v18.2.1
  let m0_24 : Bool := v18.2.2.1
  let m0_25 : Int := v18.2.2.2.1
  if (decide (v10_22 < v9_21)) = true then
    gate (inR v10_22 (v8_20.length : Int)) (
      let t12_26 : List Int × Bool × Int × List Int := (getI ([], (false, ((0 : Int), []))) v8_20 v10_22)
      if (decide (t12_26.1 = path1_19)) = true then
        bindO (slices_Clone_byte N t12_26.2.2.2) (fun r20_27 =>
          kr (true, t12_26.1, t12_26.2.1, t12_26.2.2.1, r20_27, ())) s
      else
        again ((IntKind.wrap .i64 (v10_22 + (1 : Int))), m0_23, m0_24, m0_25, ())) s
  else
    k0 (m0_23, m0_24, m0_25, ())
def fs_Get (N : Nat) (t0 : List (List Int × Bool × Int × List Int)) (path1 : List Int) : Option ((List Int × Bool × Int × List Int) × Bool) :=
  iter (fs_Get.s0 N none (fun (x28 : List Int × Bool × Int × Unit) =>
    let m0_29 : List Int := x28.1
    let m0_30 : Bool := x28.2.1
    let m0_31 : Int := x28.2.2.1
    some (([], (false, ((0 : Int), []))), false)) (fun (x32 : Bool × List Int × Bool × Int × List Int × Unit) =>
    let v5_33 : Bool := x32.1
    let m0_34 : List Int := x32.2.1
    let m0_35 : Bool := x32.2.2.1
    let m0_36 : Int := x32.2.2.2.1
    let m0_37 : List Int := x32.2.2.2.2.1
    some ((m0_34, (m0_35, (m0_36, m0_37))), v5_33)) (path1, t0, (t0.length : Int), ())) none N ((0 : Int), [], false, (0 : Int), ())
def bytealg_LastIndexByteString.s0 {R : Type} (N : Nat) (s : R) (k0 : Unit → R) (kr : (Int × Unit) → R) (c59 : List Int × Int × Unit) (again : (Int × Unit) → R) (v60 : Int × Unit) : R :=
  let s0_61 : List Int := c59.1
  let c1_62 : Int := c59.2.1
  let i5_63 : Int := v60.1
  if (decide (i5_63 ≥ (0 : Int))) = true then
    gate (inR i5_63 (s0_61.length : Int)) (
      if (decide ((getI 0 s0_61 i5_63) = c1_62)) = true then
        kr (i5_63, ())
      else
        again ((IntKind.wrap .i64 (i5_63 - (1 : Int))), ())) s
  else
    k0 ()
def bytealg_LastIndexByteString (N : Nat) (s0 : List Int) (c1 : Int) : Option Int :=
  let t8_58 : Int := (IntKind.wrap .i64 ((s0.length : Int) - (1 : Int)))
  iter (bytealg_LastIndexByteString.s0 N none (fun (x64 : Unit) =>
    some (-1 : Int)) (fun (x65 : Int × Unit) =>
    let v4_66 : Int := x65.1
    some v4_66) (s0, c1, ())) none N (t8_58, ())
def strings_LastIndexByte (N : Nat) (s0 : List Int) (c1 : Int) : Option Int :=
  bindO (bytealg_LastIndexByteString N s0 c1) (fun r7_68 =>
    some r7_68) none
def fs_Dir (N : Nat) (s0 : List Int) : Option (List Int) :=
  bindO (strings_LastIndexByte N s0 (47 : Int)) (fun r5_70 =>
    gate (bounds (s0.length : Int) (0 : Int) (maxI (0 : Int) r5_70)) (
      some (cut s0 (0 : Int) (maxI (0 : Int) r5_70))) none) none
def fs_Name (N : Nat) (s0 : List Int) : Option (List Int) :=
  bindO (strings_LastIndexByte N s0 (47 : Int)) (fun r5_74 =>
    gate (bounds (s0.length : Int) (IntKind.wrap .i64 (r5_74 + (1 : Int))) (s0.length : Int)) (
      let t7_75 : List Int := (cut s0 (IntKind.wrap .i64 (r5_74 + (1 : Int))) (s0.length : Int))
      some t7_75) none) none
def strings_Split (N : Nat) (s0 : List Int) (sep1 : List Int) : Option (List (List Int)) :=
  bindO (genSplitF s0 sep1 (0 : Int) (-1 : Int)) (fun r7_78 =>
    some r7_78) none
def fs_Named.s0 {R : Type} (N : Nat) (s : R) (k0 : Unit → R) (kr : (Bool × Unit) → R) (c95 : List Int × Int × Unit) (again : (Int × Unit) → R) (v96 : Int × Unit) : R :=
  let s0_97 : List Int := c95.1
  let v23_98 : Int := c95.2.1
  let v24_99 : Int := v96.1
  if (decide (v24_99 < v23_98)) = true then
    gate (inR v24_99 (s0_97.length : Int)) (
      bindO (
        let t31_110 : Bool := (decide ((getI 0 s0_97 v24_99) < (97 : Int)))
        if t31_110 = true then
          let t38_111 : Bool := (decide ((getI 0 s0_97 v24_99) < (48 : Int)))
          if t38_111 = true then
            let t46_112 : Bool := (!decide ((getI 0 s0_97 v24_99) = (45 : Int)))
            some t46_112
          else
            let t41_113 : Bool := (decide ((getI 0 s0_97 v24_99) > (57 : Int)))
            if t41_113 = true then
              let t46_114 : Bool := (!decide ((getI 0 s0_97 v24_99) = (45 : Int)))
              some t46_114
            else
              some false
        else
          let t34_115 : Bool := (decide ((getI 0 s0_97 v24_99) > (122 : Int)))
          if t34_115 = true then
            let t38_116 : Bool := (decide ((getI 0 s0_97 v24_99) < (48 : Int)))
            if t38_116 = true then
              let t46_117 : Bool := (!decide ((getI 0 s0_97 v24_99) = (45 : Int)))
              some t46_117
            else
              let t41_118 : Bool := (decide ((getI 0 s0_97 v24_99) > (57 : Int)))
              if t41_118 = true then
                let t46_119 : Bool := (!decide ((getI 0 s0_97 v24_99) = (45 : Int)))
                some t46_119
              else
                some false
          else
            some false) (fun (c47_120 : Bool) =>
        if c47_120 = true then
          kr (false, ())
        else
          again ((IntKind.wrap .i64 (v24_99 + (1 : Int))), ())) s) s
  else
    k0 ()
def fs_Named (N : Nat) (s0 : List Int) : Option Bool :=
  bindO (
    if (decide (s0 = [])) = true then
      some true
    else
      if (decide ((s0.length : Int) > (12 : Int))) = true then
        some true
      else
        gate (inR (0 : Int) (s0.length : Int)) (
          let t15_91 : Bool := (decide ((getI 0 s0 (0 : Int)) < (97 : Int)))
          if t15_91 = true then
            some true
          else
            gate (inR (0 : Int) (s0.length : Int)) (
              let t20_92 : Bool := (decide ((getI 0 s0 (0 : Int)) > (122 : Int)))
              some t20_92) none) none) (fun (c21_93 : Bool) =>
    if c21_93 = true then
      some false
    else
      iter (fs_Named.s0 N none (fun (x121 : Unit) =>
        some true) (fun (x122 : Bool × Unit) =>
        let v2_123 : Bool := x122.1
        some v2_123) (s0, (s0.length : Int), ())) none N ((0 : Int), ())) none
def fs_Path_1 (N : Nat) (x0 : List Int) : Option Bool :=
  bindO (fs_Named N x0) (fun r4_125 =>
    some (!r4_125)) none
def fs_Path_i0_slices_ContainsFunc_i0_slices_IndexFunc.s0 {R : Type} (N : Nat) (s : R) (k0 : Unit → R) (kr : (Int × Unit) → R) (c140 : List (List Int) × Int × Unit) (again : (Int × Unit) → R) (v141 : Int × Unit) : R :=
  let s0_142 : List (List Int) := c140.1
  let v7_143 : Int := c140.2.1
  let v8_144 : Int := v141.1
  if (decide (v8_144 < v7_143)) = true then
    gate (inR v8_144 (s0_142.length : Int)) (
      bindO (fs_Path_1 N (getI [] s0_142 v8_144)) (fun r16_145 =>
        if r16_145 = true then
          kr (v8_144, ())
        else
          again ((IntKind.wrap .i64 (v8_144 + (1 : Int))), ())) s) s
  else
    k0 ()
def fs_Path (N : Nat) (s0 : List Int) : Option Int :=
  bindO (strings_Split N s0 [47]) (fun r5_134 =>
    if (decide ((r5_134.length : Int) > (4 : Int))) = true then
      some (6 : Int)
    else
      iter (fs_Path_i0_slices_ContainsFunc_i0_slices_IndexFunc.s0 N none (fun (x146 : Unit) =>
        if (decide ((-1 : Int) ≥ (0 : Int))) = true then
          some (6 : Int)
        else
          some (0 : Int)) (fun (x147 : Int × Unit) =>
        let v4_148 : Int := x147.1
        if (decide (v4_148 ≥ (0 : Int))) = true then
          some (6 : Int)
        else
          some (0 : Int)) (r5_134, (r5_134.length : Int), ())) none N ((0 : Int), ())) none
def wracklaw2_paths (N : Nat) : Option Bool :=
  bindO (
    bindO (fs_Dir N [97, 47, 98, 47, 99]) (fun r1_157 =>
      if (decide (r1_157 = [97, 47, 98])) = true then
        bindO (fs_Name N [97, 47, 98]) (fun r4_158 =>
          if (decide (r4_158 = [98])) = true then
            bindO (fs_Path N [65]) (fun r8_159 =>
              some (decide (r8_159 = (6 : Int)))) none
          else
            some false) none
      else
        some false) none) (fun (c0_160 : Bool) =>
    some c0_160) none
def fs_one (N : Nat) (e0 : List Int × Bool × Int × List Int) : Option Int :=
  bindO (fs_Path N e0.1) (fun r6_168 =>
    if (!decide (r6_168 = (0 : Int))) = true then
      some (6 : Int)
    else
      bindO (
        if (decide (e0.2.2.1 < (0 : Int))) = true then
          some true
        else
          some (decide (e0.2.2.1 > (4294967295 : Int)))) (fun (c8_169 : Bool) =>
        if c8_169 = true then
          some (21 : Int)
        else
          let t21_170 : Bool := (decide ((e0.2.2.2.length : Int) > (2048 : Int)))
          if t21_170 = true then
            some (2 : Int)
          else
            bindO (
              if e0.2.1 = true then
                let t29_172 : Bool := (decide ((e0.2.2.2.length : Int) > (0 : Int)))
                some t29_172
              else
                some false) (fun (c22_173 : Bool) =>
              if c22_173 = true then
                some (3 : Int)
              else
                some (0 : Int)) none) none) none
def fs_Check_i0_slices_IndexFunc.s0 {R : Type} (N : Nat) (s : R) (k0 : (List Int × Bool × Int × List Int × List Int × Unit) → R) (kr : (List Int × Bool × Int × List Int × List Int × Int × Unit) → R) (c237 : List (List Int × Bool × Int × List Int) × Int × Unit) (again : (List Int × Bool × Int × List Int × List Int × Int × Unit) → R) (v238 : List Int × Bool × Int × List Int × List Int × Int × Unit) : R :=
  let s0_239 : List (List Int × Bool × Int × List Int) := c237.1
  let v7_240 : Int := c237.2.1
  let h0_241 : List Int := v238.1
  let h0_242 : Bool := v238.2.1
  let h0_243 : Int := v238.2.2.1
  let h0_244 : List Int := v238.2.2.2.1
  let h1_245 : List Int := v238.2.2.2.2.1
  let v8_246 : Int := v238.2.2.2.2.2.1
  if (decide (v8_246 < v7_240)) = true then
    gate (inR v8_246 (s0_239.length : Int)) (
      let t14_247 : List Int × Bool × Int × List Int := (getI ([], (false, ((0 : Int), []))) s0_239 v8_246)
      if (decide (t14_247.1 = h1_245)) = true then
        kr (h0_241, h0_242, h0_243, h0_244, h1_245, v8_246, ())
      else
        again (h0_241, h0_242, h0_243, h0_244, h1_245, (IntKind.wrap .i64 (v8_246 + (1 : Int))), ())) s
  else
    k0 (h0_241, h0_242, h0_243, h0_244, h1_245, ())
def fs_Check.s0 {R : Type} (N : Nat) (s : R) (k0 : Unit → R) (kr : (Int × Unit) → R) (c223 : List (List Int × Bool × Int × List Int) × List (List Int × Bool × Int × List Int) × Int × Unit) (again : (Int × Unit) → R) (v224 : Int × Unit) : R :=
  let t0_225 : List (List Int × Bool × Int × List Int) := c223.1
  let v11_226 : List (List Int × Bool × Int × List Int) := c223.2.1
  let v12_227 : Int := c223.2.2.1
  let v13_228 : Int := v224.1
  if (decide (v13_228 < v12_227)) = true then
    gate (inR v13_228 (v11_226.length : Int)) (
      let t16_229 : List Int × Bool × Int × List Int := (getI ([], (false, ((0 : Int), []))) v11_226 v13_228)
      bindO (fs_one N t16_229) (fun r19_230 =>
        if (!decide (r19_230 = (0 : Int))) = true then
          kr (r19_230, ())
        else
          bindO (
            if (decide (v13_228 > (0 : Int))) = true then
              gate (inR (IntKind.wrap .i64 (v13_228 - (1 : Int))) (t0_225.length : Int)) (
                let t29_232 : List Int × Bool × Int × List Int := (getI ([], (false, ((0 : Int), []))) t0_225 (IntKind.wrap .i64 (v13_228 - (1 : Int))))
                some (!strLess t29_232.1 t16_229.1)) none
            else
              some false) (fun (c35_233 : Bool) =>
            if c35_233 = true then
              kr ((11 : Int), ())
            else
              bindO (fs_Dir N t16_229.1) (fun r38_234 =>
                if (!decide (r38_234 = [])) = true then
                  gate (bounds (t0_225.length : Int) (0 : Int) v13_228) (
                    let t7_235 : Int := ((cut t0_225 (0 : Int) v13_228).length : Int)
                    iter (fs_Check_i0_slices_IndexFunc.s0 N s (fun (x248 : List Int × Bool × Int × List Int × List Int × Unit) =>
                      let h0_249 : List Int := x248.1
                      let h0_250 : Bool := x248.2.1
                      let h0_251 : Int := x248.2.2.1
                      let h0_252 : List Int := x248.2.2.2.1
                      let h1_253 : List Int := x248.2.2.2.2.1
                      if (decide ((-1 : Int) < (0 : Int))) = true then
                        kr ((8 : Int), ())
                      else
                        gate (inR (-1 : Int) (t0_225.length : Int)) (
                          let t50_254 : List Int × Bool × Int × List Int := (getI ([], (false, ((0 : Int), []))) t0_225 (-1 : Int))
                          if (!t50_254.2.1) = true then
                            kr ((12 : Int), ())
                          else
                            again ((IntKind.wrap .i64 (v13_228 + (1 : Int))), ())) s) (fun (x255 : List Int × Bool × Int × List Int × List Int × Int × Unit) =>
                      let h0_256 : List Int := x255.1
                      let h0_257 : Bool := x255.2.1
                      let h0_258 : Int := x255.2.2.1
                      let h0_259 : List Int := x255.2.2.2.1
                      let h1_260 : List Int := x255.2.2.2.2.1
                      let v4_261 : Int := x255.2.2.2.2.2.1
                      if (decide (v4_261 < (0 : Int))) = true then
                        kr ((8 : Int), ())
                      else
                        gate (inR v4_261 (t0_225.length : Int)) (
                          let t50_262 : List Int × Bool × Int × List Int := (getI ([], (false, ((0 : Int), []))) t0_225 v4_261)
                          if (!t50_262.2.1) = true then
                            kr ((12 : Int), ())
                          else
                            again ((IntKind.wrap .i64 (v13_228 + (1 : Int))), ())) s) ((cut t0_225 (0 : Int) v13_228), t7_235, ())) s N (t16_229.1, t16_229.2.1, t16_229.2.2.1, t16_229.2.2.2, r38_234, (0 : Int), ())) s
                else
                  again ((IntKind.wrap .i64 (v13_228 + (1 : Int))), ())) s) s) s) s
  else
    k0 ()
def fs_Check (N : Nat) (t0 : List (List Int × Bool × Int × List Int)) : Option Int :=
  if (decide ((t0.length : Int) > (40 : Int))) = true then
    some (9 : Int)
  else
    iter (fs_Check.s0 N none (fun (x263 : Unit) =>
      some (0 : Int)) (fun (x264 : Int × Unit) =>
      let v2_265 : Int := x264.1
      some v2_265) (t0, t0, (t0.length : Int), ())) none N ((0 : Int), ())
def strings_Contains (N : Nat) (s0 : List Int) (substr1 : List Int) : Option Bool :=
  bindO (indexF s0 substr1) (fun r7_269 =>
    some (decide (r7_269 ≥ (0 : Int)))) none
def wrackref2_Word (N : Nat) (s0 : List Int) : Option Bool :=
  bindO (
    if (decide ((s0.length : Int) > (0 : Int))) = true then
      if (decide ((s0.length : Int) ≤ (12 : Int))) = true then
        gate (bounds (s0.length : Int) (0 : Int) (1 : Int)) (
          bindO (strings_Contains N [97, 98, 99, 100, 101, 102, 103, 104, 105, 106, 107, 108, 109, 110, 111, 112, 113, 114, 115, 116, 117, 118, 119, 120, 121, 122] (cut s0 (0 : Int) (1 : Int))) (fun r14_277 =>
            if r14_277 = true then
              bindO (trimF s0 [97, 98, 99, 100, 101, 102, 103, 104, 105, 106, 107, 108, 109, 110, 111, 112, 113, 114, 115, 116, 117, 118, 119, 120, 121, 122, 48, 49, 50, 51, 52, 53, 54, 55, 56, 57, 45]) (fun r18_278 =>
                some (decide (r18_278 = []))) none
            else
              some false) none) none
      else
        some false
    else
      some false) (fun (c2_279 : Bool) =>
    some c2_279) none
def wrackref2_Way.s0 {R : Type} (N : Nat) (s : R) (k0 : (List (List Int) × Unit) → R) (kr : (Bool × Unit) → R) (c287 : Int × Unit) (again : (List (List Int) × List (List Int) × Int × Unit) → R) (v288 : List (List Int) × List (List Int) × Int × Unit) : R :=
  let v9_289 : Int := c287.1
  let l3_290 : List (List Int) := v288.1
  let v8_291 : List (List Int) := v288.2.1
  let v10_292 : Int := v288.2.2.1
  if (decide (v10_292 < v9_289)) = true then
    gate (inR v10_292 (v8_291.length : Int)) (
      bindO (wrackref2_Word N (getI [] v8_291 v10_292)) (fun r15_293 =>
        if (!r15_293) = true then
          kr (false, ())
        else
          again (l3_290, v8_291, (IntKind.wrap .i64 (v10_292 + (1 : Int))), ())) s) s
  else
    k0 (l3_290, ())
def wrackref2_Way (N : Nat) (s0 : List Int) : Option Bool :=
  bindO (strings_Split N s0 [47]) (fun r7_285 =>
    iter (wrackref2_Way.s0 N none (fun (x294 : List (List Int) × Unit) =>
      let l3_295 : List (List Int) := x294.1
      some (decide ((l3_295.length : Int) ≤ (4 : Int)))) (fun (x296 : Bool × Unit) =>
      let v2_297 : Bool := x296.1
      some v2_297) ((r7_285.length : Int), ())) none N (r7_285, r7_285, (0 : Int), ())) none
def wrackref2_Above (N : Nat) (s0 : List Int) : Option (List Int) :=
  bindO (strings_Split N s0 [47]) (fun r5_424 =>
    let t9_425 : Int := (IntKind.wrap .i64 ((r5_424.length : Int) - (1 : Int)))
    gate (bounds (r5_424.length : Int) (0 : Int) t9_425) (
      bindO (joinF (cut r5_424 (0 : Int) t9_425) [47]) (fun r11_426 =>
        some r11_426) none) none) none
def wrackref2_TreeErr.s0 {R : Type} (N : Nat) (s : R) (k0 : Unit → R) (kr : (Int × Unit) → R) (c571 : List (List Int × Bool × Int × List Int) × Int × Unit) (again : (List (List Int × Bool) × List Int × Int × Unit) → R) (v572 : List (List Int × Bool) × List Int × Int × Unit) : R :=
  let v14_573 : List (List Int × Bool × Int × List Int) := c571.1
  let v15_574 : Int := c571.2.1
  let dirs3_575 : List (List Int × Bool) := v572.1
  let last4_576 : List Int := v572.2.1
  let v16_577 : Int := v572.2.2.1
  if (decide (v16_577 < v15_574)) = true then
    gate (inR v16_577 (v14_573.length : Int)) (
      let t19_578 : List Int × Bool × Int × List Int := (getI ([], (false, ((0 : Int), []))) v14_573 v16_577)
      bindO (wrackref2_Way N t19_578.1) (fun r24_579 =>
        if (!r24_579) = true then
          kr ((6 : Int), ())
        else
          bindO (
            if (decide (t19_578.2.2.1 < (0 : Int))) = true then
              some true
            else
              let t33_622 : Bool := (decide (t19_578.2.2.1 ≥ (4294967296 : Int)))
              some t33_622) (fun (c26_623 : Bool) =>
            if c26_623 = true then
              kr ((21 : Int), ())
            else
              let t39_643 : Bool := (decide ((t19_578.2.2.2.length : Int) > (2048 : Int)))
              if t39_643 = true then
                kr ((2 : Int), ())
              else
                bindO (
                  let t44_654 : Bool := (decide ((t19_578.2.2.2.length : Int) > (0 : Int)))
                  if t44_654 = true then
                    some t19_578.2.1
                  else
                    some false) (fun (c40_655 : Bool) =>
                  if c40_655 = true then
                    kr ((3 : Int), ())
                  else
                    bindO (
                      if (decide (v16_577 > (0 : Int))) = true then
                        let t56_660 : Bool := (strLess t19_578.1 last4_576 || decide (t19_578.1 = last4_576))
                        some t56_660
                      else
                        some false) (fun (c49_661 : Bool) =>
                      if c49_661 = true then
                        kr ((11 : Int), ())
                      else
                        bindO (wrackref2_Above N t19_578.1) (fun r60_662 =>
                          if (!decide (r60_662 = [])) = true then
                            let t66_665 : Bool := ((mapGet (k := .str) (v := .bool) dirs3_575 r60_662).getD false)
                            let t66_666 : Bool := (mapGet (k := .str) (v := .bool) dirs3_575 r60_662).isSome
                            if (!t66_666) = true then
                              kr ((8 : Int), ())
                            else
                              if (!t66_665) = true then
                                kr ((12 : Int), ())
                              else
                                let bx_667 : List (List Int × Bool) := (mapPut (k := .str) (v := .bool) dirs3_575 t19_578.1 t19_578.2.1)
                                again (bx_667, t19_578.1, (IntKind.wrap .i64 (v16_577 + (1 : Int))), ())
                          else
                            let bx_668 : List (List Int × Bool) := (mapPut (k := .str) (v := .bool) dirs3_575 t19_578.1 t19_578.2.1)
                            again (bx_668, t19_578.1, (IntKind.wrap .i64 (v16_577 + (1 : Int))), ())) s) s) s) s) s) s
  else
    k0 ()
def wrackref2_TreeErr (N : Nat) (t0 : List (List Int × Bool × Int × List Int)) : Option Int :=
  if (decide ((t0.length : Int) > (40 : Int))) = true then
    some (9 : Int)
  else
    iter (wrackref2_TreeErr.s0 N none (fun (x669 : Unit) =>
      some (0 : Int)) (fun (x670 : Int × Unit) =>
      let v2_671 : Int := x670.1
      some v2_671) (t0, (t0.length : Int), ())) none N (([] : List (List Int × Bool)), [], (0 : Int), ())
def wrackref2_Equal.s0 {R : Type} (N : Nat) (s : R) (k0 : Unit → R) (kr : (Bool × Unit) → R) (c709 : List (List Int × Bool × Int × List Int) × List (List Int × Bool × Int × List Int) × Int × Unit) (again : (Int × Unit) → R) (v710 : Int × Unit) : R :=
  let a0_711 : List (List Int × Bool × Int × List Int) := c709.1
  let b1_712 : List (List Int × Bool × Int × List Int) := c709.2.1
  let v12_713 : Int := c709.2.2.1
  let v13_714 : Int := v710.1
  if (decide (v13_714 < v12_713)) = true then
    bindO (
      gate (inR v13_714 (a0_711.length : Int)) (
        let t18_723 : List Int × Bool × Int × List Int := (getI ([], (false, ((0 : Int), []))) a0_711 v13_714)
        gate (inR v13_714 (b1_712.length : Int)) (
          let t23_724 : List Int × Bool × Int × List Int := (getI ([], (false, ((0 : Int), []))) b1_712 v13_714)
          if (!decide (t18_723.1 = t23_724.1)) = true then
            some true
          else
            gate (inR v13_714 (a0_711.length : Int)) (
              let t30_725 : List Int × Bool × Int × List Int := (getI ([], (false, ((0 : Int), []))) a0_711 v13_714)
              gate (inR v13_714 (b1_712.length : Int)) (
                let t35_726 : List Int × Bool × Int × List Int := (getI ([], (false, ((0 : Int), []))) b1_712 v13_714)
                if (!(t30_725.2.1 == t35_726.2.1)) = true then
                  some true
                else
                  gate (inR v13_714 (a0_711.length : Int)) (
                    let t43_727 : List Int × Bool × Int × List Int := (getI ([], (false, ((0 : Int), []))) a0_711 v13_714)
                    gate (inR v13_714 (b1_712.length : Int)) (
                      let t48_728 : List Int × Bool × Int × List Int := (getI ([], (false, ((0 : Int), []))) b1_712 v13_714)
                      if (!decide (t43_727.2.2.1 = t48_728.2.2.1)) = true then
                        some true
                      else
                        gate (inR v13_714 (a0_711.length : Int)) (
                          let t56_729 : List Int × Bool × Int × List Int := (getI ([], (false, ((0 : Int), []))) a0_711 v13_714)
                          gate (inR v13_714 (b1_712.length : Int)) (
                            let t62_730 : List Int × Bool × Int × List Int := (getI ([], (false, ((0 : Int), []))) b1_712 v13_714)
                            some (!decide (t56_729.2.2.2 = t62_730.2.2.2))) none) none) none) none) none) none) none) none) (fun (c67_731 : Bool) =>
      if c67_731 = true then
        kr (false, ())
      else
        again ((IntKind.wrap .i64 (v13_714 + (1 : Int))), ())) s
  else
    k0 ()
def wrackref2_Equal (N : Nat) (a0 : List (List Int × Bool × Int × List Int)) (b1 : List (List Int × Bool × Int × List Int)) : Option Bool :=
  let t10_693 : Bool := (!decide ((a0.length : Int) = (b1.length : Int)))
  if t10_693 = true then
    some false
  else
    iter (wrackref2_Equal.s0 N none (fun (x732 : Unit) =>
      some true) (fun (x733 : Bool × Unit) =>
      let v4_734 : Bool := x733.1
      some v4_734) (a0, b1, (a0.length : Int), ())) none N ((0 : Int), ())
def slices_Equal_byte.s0 {R : Type} (N : Nat) (s : R) (k0 : Unit → R) (kr : (Bool × Unit) → R) (c744 : List Int × List Int × Int × Unit) (again : (Int × Unit) → R) (v745 : Int × Unit) : R :=
  let s10_746 : List Int := c744.1
  let s21_747 : List Int := c744.2.1
  let v12_748 : Int := c744.2.2.1
  let v13_749 : Int := v745.1
  if (decide (v13_749 < v12_748)) = true then
    gate (inR v13_749 (s10_746.length : Int)) (
      gate (inR v13_749 (s21_747.length : Int)) (
        let t24_750 : Bool := (!decide ((getI (0 : Int) s10_746 v13_749) = (getI (0 : Int) s21_747 v13_749)))
        if t24_750 = true then
          kr (false, ())
        else
          again ((IntKind.wrap .i64 (v13_749 + (1 : Int))), ())) s) s
  else
    k0 ()
def slices_Equal_byte (N : Nat) (s10 : List Int) (s21 : List Int) : Option Bool :=
  let t10_742 : Bool := (!decide ((s10.length : Int) = (s21.length : Int)))
  if t10_742 = true then
    some false
  else
    iter (slices_Equal_byte.s0 N none (fun (x751 : Unit) =>
      some true) (fun (x752 : Bool × Unit) =>
      let v4_753 : Bool := x752.1
      some v4_753) (s10, s21, (s10.length : Int), ())) none N ((0 : Int), ())
def fs_equal (N : Nat) (a0 : List Int × Bool × Int × List Int) (b1 : List Int × Bool × Int × List Int) : Option Bool :=
  bindO (
    if (decide (a0.1 = b1.1)) = true then
      if (a0.2.1 == b1.2.1) = true then
        if (decide (a0.2.2.1 = b1.2.2.1)) = true then
          bindO (slices_Equal_byte N a0.2.2.2 b1.2.2.2) (fun r29_758 =>
            some r29_758) none
        else
          some false
      else
        some false
    else
      some false) (fun (c4_759 : Bool) =>
    some c4_759) none
def fs_Same_i0_slices_EqualFunc.s0 {R : Type} (N : Nat) (s : R) (k0 : Unit → R) (kr : (Bool × Unit) → R) (c766 : List (List Int × Bool × Int × List Int) × List (List Int × Bool × Int × List Int) × Int × Unit) (again : (Int × Unit) → R) (v767 : Int × Unit) : R :=
  let s21_768 : List (List Int × Bool × Int × List Int) := c766.1
  let v15_769 : List (List Int × Bool × Int × List Int) := c766.2.1
  let v16_770 : Int := c766.2.2.1
  let v17_771 : Int := v767.1
  if (decide (v17_771 < v16_770)) = true then
    gate (inR v17_771 (v15_769.length : Int)) (
      let t20_772 : List Int × Bool × Int × List Int := (getI ([], (false, ((0 : Int), []))) v15_769 v17_771)
      gate (inR v17_771 (s21_768.length : Int)) (
        let t24_773 : List Int × Bool × Int × List Int := (getI ([], (false, ((0 : Int), []))) s21_768 v17_771)
        bindO (fs_equal N t20_772 t24_773) (fun r29_774 =>
          if (!r29_774) = true then
            kr (false, ())
          else
            again ((IntKind.wrap .i64 (v17_771 + (1 : Int))), ())) s) s) s
  else
    k0 ()
def fs_Same (N : Nat) (a0 : List (List Int × Bool × Int × List Int)) (b1 : List (List Int × Bool × Int × List Int)) : Option Bool :=
  let t14_764 : Bool := (!decide ((a0.length : Int) = (b1.length : Int)))
  if t14_764 = true then
    some false
  else
    iter (fs_Same_i0_slices_EqualFunc.s0 N none (fun (x775 : Unit) =>
      some true) (fun (x776 : Bool × Unit) =>
      let v6_777 : Bool := x776.1
      some v6_777) (b1, a0, (a0.length : Int), ())) none N ((0 : Int), ())
def slices_Clone_api_Entry (N : Nat) (s0 : List (List Int × Bool × Int × List Int)) : Option (List (List Int × Bool × Int × List Int)) :=
  let b5_781 : List (List Int × Bool × Int × List Int) := ([] : List (List Int × Bool × Int × List Int))
  gate (roomFor (b5_781.length + s0.length) 56) (
    some (b5_781 ++ s0)) none
def fs_Copy.s0 {R : Type} (N : Nat) (s : R) (k0 : (List (List Int × Bool × Int × List Int) × Unit) → R) (c792 : Int × Unit) (again : (List (List Int × Bool × Int × List Int) × Int × Unit) → R) (v793 : List (List Int × Bool × Int × List Int) × Int × Unit) : R :=
  let v8_794 : Int := c792.1
  let out3_795 : List (List Int × Bool × Int × List Int) := v793.1
  let v9_796 : Int := v793.2.1
  if (decide (v9_796 < v8_794)) = true then
    gate (inR v9_796 (out3_795.length : Int)) (
      gate (inR v9_796 (out3_795.length : Int)) (
        let t18_797 : List Int := (((getI ([], (false, ((0 : Int), []))) out3_795 v9_796).2).2).2
        bindO (slices_Clone_byte N t18_797) (fun r19_798 =>
          gate (inR v9_796 (out3_795.length : Int)) (
            gate (inR v9_796 (out3_795.length : Int)) (
              let bx_799 : List (List Int × Bool × Int × List Int) := (out3_795.set (v9_796).toNat ((getI ([], (false, ((0 : Int), []))) out3_795 v9_796).1, (((getI ([], (false, ((0 : Int), []))) out3_795 v9_796).2).1, ((((getI ([], (false, ((0 : Int), []))) out3_795 v9_796).2).2).1, r19_798))))
              again (bx_799, (IntKind.wrap .i64 (v9_796 + (1 : Int))), ())) s) s) s) s) s
  else
    k0 (out3_795, ())
def fs_Copy (N : Nat) (t0 : List (List Int × Bool × Int × List Int)) : Option (List (List Int × Bool × Int × List Int)) :=
  bindO (slices_Clone_api_Entry N t0) (fun r6_788 =>
    iter (fs_Copy.s0 N none (fun (x800 : List (List Int × Bool × Int × List Int) × Unit) =>
      let out3_801 : List (List Int × Bool × Int × List Int) := x800.1
      some out3_801) ((r6_788.length : Int), ())) none N (r6_788, (0 : Int), ())) none
def wracklaw2_FsTrees_i0_slices_IndexFunc.s0 {R : Type} (N : Nat) (s : R) (k0 : (List Int × List Int × Bool × Int × List Int × Unit) → R) (kr : (List Int × List Int × Bool × Int × List Int × Int × Unit) → R) (c845 : List (List Int × Bool × Int × List Int) × Int × Unit) (again : (List Int × List Int × Bool × Int × List Int × Int × Unit) → R) (v846 : List Int × List Int × Bool × Int × List Int × Int × Unit) : R :=
  let s0_847 : List (List Int × Bool × Int × List Int) := c845.1
  let v7_848 : Int := c845.2.1
  let h0_849 : List Int := v846.1
  let h2_850 : List Int := v846.2.1
  let h2_851 : Bool := v846.2.2.1
  let h2_852 : Int := v846.2.2.2.1
  let h2_853 : List Int := v846.2.2.2.2.1
  let v8_854 : Int := v846.2.2.2.2.2.1
  if (decide (v8_854 < v7_848)) = true then
    gate (inR v8_854 (s0_847.length : Int)) (
      let t14_855 : List Int × Bool × Int × List Int := (getI ([], (false, ((0 : Int), []))) s0_847 v8_854)
      if (decide (t14_855.1 = h0_849)) = true then
        kr (h0_849, h2_850, h2_851, h2_852, h2_853, v8_854, ())
      else
        again (h0_849, h2_850, h2_851, h2_852, h2_853, (IntKind.wrap .i64 (v8_854 + (1 : Int))), ())) s
  else
    k0 (h0_849, h2_850, h2_851, h2_852, h2_853, ())
def wracklaw2_FsTrees (N : Nat) (a0 : List (List Int × Bool × Int × List Int)) (b1 : List (List Int × Bool × Int × List Int)) (path2 : List Int) : Option Bool :=
  bindO (fs_Get N a0 path2) (fun r14_843 =>
    iter (wracklaw2_FsTrees_i0_slices_IndexFunc.s0 N none (fun (x856 : List Int × List Int × Bool × Int × List Int × Unit) =>
      let h0_857 : List Int := x856.1
      let h2_858 : List Int := x856.2.1
      let h2_859 : Bool := x856.2.2.1
      let h2_860 : Int := x856.2.2.2.1
      let h2_861 : List Int := x856.2.2.2.2.1
      bindO ((
        if (decide ((-1 : Int) ≥ (0 : Int))) = true then
          gate (bounds (a0.length : Int) (-1 : Int) (IntKind.wrap .i64 ((-1 : Int) + (1 : Int)))) (
            let t26_863 : List (List Int × Bool × Int × List Int) := (cut a0 (-1 : Int) (IntKind.wrap .i64 ((-1 : Int) + (1 : Int))))
            some (t26_863, h2_858, h2_859, h2_860, h2_861, ())) none
        else
          some ([([], (false, ((0 : Int), [])))], h2_858, h2_859, h2_860, h2_861, ()) : Option (List (List Int × Bool × Int × List Int) × List Int × Bool × Int × List Int × Unit))) (fun j864 =>
        let want10_865 : List (List Int × Bool × Int × List Int) := j864.1
        let m0_866 : List Int := j864.2.1
        let m0_867 : Bool := j864.2.2.1
        let m0_868 : Int := j864.2.2.2.1
        let m0_869 : List Int := j864.2.2.2.2.1
        bindO (wracklaw2_paths N) (fun r29_879 =>
          if r29_879 = true then
            bindO (fs_Check N a0) (fun r32_880 =>
              bindO (wrackref2_TreeErr N a0) (fun r34_881 =>
                if (decide (r32_880 = r34_881)) = true then
                  let t41_882 : Bool := (r14_843.2 == (decide ((-1 : Int) ≥ (0 : Int))))
                  if t41_882 = true then
                    bindO (wrackref2_Equal N [(m0_866, (m0_867, (m0_868, m0_869)))] want10_865) (fun r47_883 =>
                      if r47_883 = true then
                        bindO (fs_Same N a0 b1) (fun r52_884 =>
                          bindO (wrackref2_Equal N a0 b1) (fun r55_885 =>
                            if (r52_884 == r55_885) = true then
                              bindO (fs_Copy N a0) (fun r60_886 =>
                                bindO (wrackref2_Equal N r60_886 a0) (fun r62_887 =>
                                  some r62_887) none) none
                            else
                              some false) none) none
                      else
                        some false) none
                  else
                    some false
                else
                  some false) none) none
          else
            some false) none) none) (fun (x888 : List Int × List Int × Bool × Int × List Int × Int × Unit) =>
      let h0_889 : List Int := x888.1
      let h2_890 : List Int := x888.2.1
      let h2_891 : Bool := x888.2.2.1
      let h2_892 : Int := x888.2.2.2.1
      let h2_893 : List Int := x888.2.2.2.2.1
      let v4_894 : Int := x888.2.2.2.2.2.1
      bindO ((
        if (decide (v4_894 ≥ (0 : Int))) = true then
          gate (bounds (a0.length : Int) v4_894 (IntKind.wrap .i64 (v4_894 + (1 : Int)))) (
            let t26_895 : List (List Int × Bool × Int × List Int) := (cut a0 v4_894 (IntKind.wrap .i64 (v4_894 + (1 : Int))))
            some (t26_895, h2_890, h2_891, h2_892, h2_893, ())) none
        else
          some ([([], (false, ((0 : Int), [])))], h2_890, h2_891, h2_892, h2_893, ()) : Option (List (List Int × Bool × Int × List Int) × List Int × Bool × Int × List Int × Unit))) (fun j896 =>
        let want10_897 : List (List Int × Bool × Int × List Int) := j896.1
        let m0_898 : List Int := j896.2.1
        let m0_899 : Bool := j896.2.2.1
        let m0_900 : Int := j896.2.2.2.1
        let m0_901 : List Int := j896.2.2.2.2.1
        bindO (wracklaw2_paths N) (fun r29_910 =>
          if r29_910 = true then
            bindO (fs_Check N a0) (fun r32_911 =>
              bindO (wrackref2_TreeErr N a0) (fun r34_912 =>
                if (decide (r32_911 = r34_912)) = true then
                  if (r14_843.2 == (decide (v4_894 ≥ (0 : Int)))) = true then
                    bindO (wrackref2_Equal N [(m0_898, (m0_899, (m0_900, m0_901)))] want10_897) (fun r47_913 =>
                      if r47_913 = true then
                        bindO (fs_Same N a0 b1) (fun r52_914 =>
                          bindO (wrackref2_Equal N a0 b1) (fun r55_915 =>
                            if (r52_914 == r55_915) = true then
                              bindO (fs_Copy N a0) (fun r60_916 =>
                                bindO (wrackref2_Equal N r60_916 a0) (fun r62_917 =>
                                  some r62_917) none) none
                            else
                              some false) none) none
                      else
                        some false) none
                  else
                    some false
                else
                  some false) none) none
          else
            some false) none) none) (a0, (a0.length : Int), ())) none N (path2, r14_843.1.1, r14_843.1.2.1, r14_843.1.2.2.1, r14_843.1.2.2.2, (0 : Int), ())) none
end Go.Proofs.YthkpfkjbflcpnaaDoor
