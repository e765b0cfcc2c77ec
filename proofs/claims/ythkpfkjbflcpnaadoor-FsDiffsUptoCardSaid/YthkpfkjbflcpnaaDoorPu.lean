import Derived.Test.YthkpfkjbflcpnaaDoorAbDen
import Derived.Test.YthkpfkjbflcpnaaDoorAbSortFFn
import Derived.Test.YthkpfkjbflcpnaaDoorAbStrFn
import Derived.Test.YthkpfkjbflcpnaaDoorAbDen
set_option linter.unusedVariables false
namespace Go.Proofs.YthkpfkjbflcpnaaDoor
open Go Go.Ab
def strings_Split (N : Nat) (s0 : List Int) (sep1 : List Int) : Option (List (List Int)) :=
  bindO (genSplitF s0 sep1 (0 : Int) (-1 : Int)) (fun r7_2 =>
    some r7_2) none
def fs_Named.s0 {R : Type} (N : Nat) (s : R) (k0 : Unit → R) (kr : (Bool × Unit) → R) (c19 : List Int × Int × Unit) (again : (Int × Unit) → R) (v20 : Int × Unit) : R :=
  let s0_21 : List Int := c19.1
  let v23_22 : Int := c19.2.1
  let v24_23 : Int := v20.1
  if (decide (v24_23 < v23_22)) = true then
    gate (inR v24_23 (s0_21.length : Int)) (
      bindO (
        let t31_34 : Bool := (decide ((getI 0 s0_21 v24_23) < (97 : Int)))
        if t31_34 = true then
          let t38_35 : Bool := (decide ((getI 0 s0_21 v24_23) < (48 : Int)))
          if t38_35 = true then
            let t46_36 : Bool := (!decide ((getI 0 s0_21 v24_23) = (45 : Int)))
            some t46_36
          else
            let t41_37 : Bool := (decide ((getI 0 s0_21 v24_23) > (57 : Int)))
            if t41_37 = true then
              let t46_38 : Bool := (!decide ((getI 0 s0_21 v24_23) = (45 : Int)))
              some t46_38
            else
              some false
        else
          let t34_39 : Bool := (decide ((getI 0 s0_21 v24_23) > (122 : Int)))
          if t34_39 = true then
            let t38_40 : Bool := (decide ((getI 0 s0_21 v24_23) < (48 : Int)))
            if t38_40 = true then
              let t46_41 : Bool := (!decide ((getI 0 s0_21 v24_23) = (45 : Int)))
              some t46_41
            else
              let t41_42 : Bool := (decide ((getI 0 s0_21 v24_23) > (57 : Int)))
              if t41_42 = true then
                let t46_43 : Bool := (!decide ((getI 0 s0_21 v24_23) = (45 : Int)))
                some t46_43
              else
                some false
          else
            some false) (fun (c47_44 : Bool) =>
        if c47_44 = true then
          kr (false, ())
        else
          again ((IntKind.wrap .i64 (v24_23 + (1 : Int))), ())) s) s
  else
    k0 ()
def fs_Named (N : Nat) (s0 : List Int) : Option Bool :=
  bindO (
    if (decide (s0 = [])) = true then
      some true
    else
      if (decide ((s0.length : Int) > (12 : Int))) = true then
        some true
      else
        gate (inR (0 : Int) (s0.length : Int)) (
          let t15_15 : Bool := (decide ((getI 0 s0 (0 : Int)) < (97 : Int)))
          if t15_15 = true then
            some true
          else
            gate (inR (0 : Int) (s0.length : Int)) (
              let t20_16 : Bool := (decide ((getI 0 s0 (0 : Int)) > (122 : Int)))
              some t20_16) none) none) (fun (c21_17 : Bool) =>
    if c21_17 = true then
      some false
    else
      iter (fs_Named.s0 N none (fun (x45 : Unit) =>
        some true) (fun (x46 : Bool × Unit) =>
        let v2_47 : Bool := x46.1
        some v2_47) (s0, (s0.length : Int), ())) none N ((0 : Int), ())) none
def fs_Path_1 (N : Nat) (x0 : List Int) : Option Bool :=
  bindO (fs_Named N x0) (fun r4_49 =>
    some (!r4_49)) none
def fs_Path_i0_slices_ContainsFunc_i0_slices_IndexFunc.s0 {R : Type} (N : Nat) (s : R) (k0 : Unit → R) (kr : (Int × Unit) → R) (c64 : List (List Int) × Int × Unit) (again : (Int × Unit) → R) (v65 : Int × Unit) : R :=
  let s0_66 : List (List Int) := c64.1
  let v7_67 : Int := c64.2.1
  let v8_68 : Int := v65.1
  if (decide (v8_68 < v7_67)) = true then
    gate (inR v8_68 (s0_66.length : Int)) (
      bindO (fs_Path_1 N (getI [] s0_66 v8_68)) (fun r16_69 =>
        if r16_69 = true then
          kr (v8_68, ())
        else
          again ((IntKind.wrap .i64 (v8_68 + (1 : Int))), ())) s) s
  else
    k0 ()
def fs_Path (N : Nat) (s0 : List Int) : Option Int :=
  bindO (strings_Split N s0 [47]) (fun r5_58 =>
    if (decide ((r5_58.length : Int) > (4 : Int))) = true then
      some (6 : Int)
    else
      iter (fs_Path_i0_slices_ContainsFunc_i0_slices_IndexFunc.s0 N none (fun (x70 : Unit) =>
        if (decide ((-1 : Int) ≥ (0 : Int))) = true then
          some (6 : Int)
        else
          some (0 : Int)) (fun (x71 : Int × Unit) =>
        let v4_72 : Int := x71.1
        if (decide (v4_72 ≥ (0 : Int))) = true then
          some (6 : Int)
        else
          some (0 : Int)) (r5_58, (r5_58.length : Int), ())) none N ((0 : Int), ())) none
def fs_one (N : Nat) (e0 : List Int × Bool × Int × List Int) : Option Int :=
  bindO (fs_Path N e0.1) (fun r6_79 =>
    if (!decide (r6_79 = (0 : Int))) = true then
      some (6 : Int)
    else
      bindO (
        if (decide (e0.2.2.1 < (0 : Int))) = true then
          some true
        else
          some (decide (e0.2.2.1 > (4294967295 : Int)))) (fun (c8_80 : Bool) =>
        if c8_80 = true then
          some (21 : Int)
        else
          let t21_81 : Bool := (decide ((e0.2.2.2.length : Int) > (2048 : Int)))
          if t21_81 = true then
            some (2 : Int)
          else
            bindO (
              if e0.2.1 = true then
                let t29_83 : Bool := (decide ((e0.2.2.2.length : Int) > (0 : Int)))
                some t29_83
              else
                some false) (fun (c22_84 : Bool) =>
              if c22_84 = true then
                some (3 : Int)
              else
                some (0 : Int)) none) none) none
def bytealg_LastIndexByteString.s0 {R : Type} (N : Nat) (s : R) (k0 : Unit → R) (kr : (Int × Unit) → R) (c96 : List Int × Int × Unit) (again : (Int × Unit) → R) (v97 : Int × Unit) : R :=
  let s0_98 : List Int := c96.1
  let c1_99 : Int := c96.2.1
  let i5_100 : Int := v97.1
  if (decide (i5_100 ≥ (0 : Int))) = true then
    gate (inR i5_100 (s0_98.length : Int)) (
      if (decide ((getI 0 s0_98 i5_100) = c1_99)) = true then
        kr (i5_100, ())
      else
        again ((IntKind.wrap .i64 (i5_100 - (1 : Int))), ())) s
  else
    k0 ()
def bytealg_LastIndexByteString (N : Nat) (s0 : List Int) (c1 : Int) : Option Int :=
  let t8_95 : Int := (IntKind.wrap .i64 ((s0.length : Int) - (1 : Int)))
  iter (bytealg_LastIndexByteString.s0 N none (fun (x101 : Unit) =>
    some (-1 : Int)) (fun (x102 : Int × Unit) =>
    let v4_103 : Int := x102.1
    some v4_103) (s0, c1, ())) none N (t8_95, ())
def strings_LastIndexByte (N : Nat) (s0 : List Int) (c1 : Int) : Option Int :=
  bindO (bytealg_LastIndexByteString N s0 c1) (fun r7_105 =>
    some r7_105) none
def fs_Dir (N : Nat) (s0 : List Int) : Option (List Int) :=
  bindO (strings_LastIndexByte N s0 (47 : Int)) (fun r5_107 =>
    gate (bounds (s0.length : Int) (0 : Int) (maxI (0 : Int) r5_107)) (
      some (cut s0 (0 : Int) (maxI (0 : Int) r5_107))) none) none
def fs_Check_i0_slices_IndexFunc.s0 {R : Type} (N : Nat) (s : R) (k0 : (List Int × Bool × Int × List Int × List Int × Unit) → R) (kr : (List Int × Bool × Int × List Int × List Int × Int × Unit) → R) (c165 : List (List Int × Bool × Int × List Int) × Int × Unit) (again : (List Int × Bool × Int × List Int × List Int × Int × Unit) → R) (v166 : List Int × Bool × Int × List Int × List Int × Int × Unit) : R :=
  let s0_167 : List (List Int × Bool × Int × List Int) := c165.1
  let v7_168 : Int := c165.2.1
  let h0_169 : List Int := v166.1
  let h0_170 : Bool := v166.2.1
  let h0_171 : Int := v166.2.2.1
  let h0_172 : List Int := v166.2.2.2.1
  let h1_173 : List Int := v166.2.2.2.2.1
  let v8_174 : Int := v166.2.2.2.2.2.1
  if (decide (v8_174 < v7_168)) = true then
    gate (inR v8_174 (s0_167.length : Int)) (
      let t14_175 : List Int × Bool × Int × List Int := (getI ([], (false, ((0 : Int), []))) s0_167 v8_174)
      if (decide (t14_175.1 = h1_173)) = true then
        kr (h0_169, h0_170, h0_171, h0_172, h1_173, v8_174, ())
      else
        again (h0_169, h0_170, h0_171, h0_172, h1_173, (IntKind.wrap .i64 (v8_174 + (1 : Int))), ())) s
  else
    k0 (h0_169, h0_170, h0_171, h0_172, h1_173, ())
def fs_Check.s0 {R : Type} (N : Nat) (s : R) (k0 : Unit → R) (kr : (Int × Unit) → R) (c151 : List (List Int × Bool × Int × List Int) × List (List Int × Bool × Int × List Int) × Int × Unit) (again : (Int × Unit) → R) (v152 : Int × Unit) : R :=
  let t0_153 : List (List Int × Bool × Int × List Int) := c151.1
  let v11_154 : List (List Int × Bool × Int × List Int) := c151.2.1
  let v12_155 : Int := c151.2.2.1
  let v13_156 : Int := v152.1
  if (decide (v13_156 < v12_155)) = true then
    gate (inR v13_156 (v11_154.length : Int)) (
      let t16_157 : List Int × Bool × Int × List Int := (getI ([], (false, ((0 : Int), []))) v11_154 v13_156)
      bindO (fs_one N t16_157) (fun r19_158 =>
        if (!decide (r19_158 = (0 : Int))) = true then
          kr (r19_158, ())
        else
          bindO (
            if (decide (v13_156 > (0 : Int))) = true then
              gate (inR (IntKind.wrap .i64 (v13_156 - (1 : Int))) (t0_153.length : Int)) (
                let t29_160 : List Int × Bool × Int × List Int := (getI ([], (false, ((0 : Int), []))) t0_153 (IntKind.wrap .i64 (v13_156 - (1 : Int))))
                some (!strLess t29_160.1 t16_157.1)) none
            else
              some false) (fun (c35_161 : Bool) =>
            if c35_161 = true then
              kr ((11 : Int), ())
            else
              bindO (fs_Dir N t16_157.1) (fun r38_162 =>
                if (!decide (r38_162 = [])) = true then
                  gate (bounds (t0_153.length : Int) (0 : Int) v13_156) (
                    let t7_163 : Int := ((cut t0_153 (0 : Int) v13_156).length : Int)
                    iter (fs_Check_i0_slices_IndexFunc.s0 N s (fun (x176 : List Int × Bool × Int × List Int × List Int × Unit) =>
                      let h0_177 : List Int := x176.1
                      let h0_178 : Bool := x176.2.1
                      let h0_179 : Int := x176.2.2.1
                      let h0_180 : List Int := x176.2.2.2.1
                      let h1_181 : List Int := x176.2.2.2.2.1
                      if (decide ((-1 : Int) < (0 : Int))) = true then
                        kr ((8 : Int), ())
                      else
                        gate (inR (-1 : Int) (t0_153.length : Int)) (
                          let t50_182 : List Int × Bool × Int × List Int := (getI ([], (false, ((0 : Int), []))) t0_153 (-1 : Int))
                          if (!t50_182.2.1) = true then
                            kr ((12 : Int), ())
                          else
                            again ((IntKind.wrap .i64 (v13_156 + (1 : Int))), ())) s) (fun (x183 : List Int × Bool × Int × List Int × List Int × Int × Unit) =>
                      let h0_184 : List Int := x183.1
                      let h0_185 : Bool := x183.2.1
                      let h0_186 : Int := x183.2.2.1
                      let h0_187 : List Int := x183.2.2.2.1
                      let h1_188 : List Int := x183.2.2.2.2.1
                      let v4_189 : Int := x183.2.2.2.2.2.1
                      if (decide (v4_189 < (0 : Int))) = true then
                        kr ((8 : Int), ())
                      else
                        gate (inR v4_189 (t0_153.length : Int)) (
                          let t50_190 : List Int × Bool × Int × List Int := (getI ([], (false, ((0 : Int), []))) t0_153 v4_189)
                          if (!t50_190.2.1) = true then
                            kr ((12 : Int), ())
                          else
                            again ((IntKind.wrap .i64 (v13_156 + (1 : Int))), ())) s) ((cut t0_153 (0 : Int) v13_156), t7_163, ())) s N (t16_157.1, t16_157.2.1, t16_157.2.2.1, t16_157.2.2.2, r38_162, (0 : Int), ())) s
                else
                  again ((IntKind.wrap .i64 (v13_156 + (1 : Int))), ())) s) s) s) s
  else
    k0 ()
def fs_Check (N : Nat) (t0 : List (List Int × Bool × Int × List Int)) : Option Int :=
  if (decide ((t0.length : Int) > (40 : Int))) = true then
    some (9 : Int)
  else
    iter (fs_Check.s0 N none (fun (x191 : Unit) =>
      some (0 : Int)) (fun (x192 : Int × Unit) =>
      let v2_193 : Int := x192.1
      some v2_193) (t0, t0, (t0.length : Int), ())) none N ((0 : Int), ())
def slices_Equal_byte.s0 {R : Type} (N : Nat) (s : R) (k0 : Unit → R) (kr : (Bool × Unit) → R) (c216 : List Int × List Int × Int × Unit) (again : (Int × Unit) → R) (v217 : Int × Unit) : R :=
  let s10_218 : List Int := c216.1
  let s21_219 : List Int := c216.2.1
  let v12_220 : Int := c216.2.2.1
  let v13_221 : Int := v217.1
  if (decide (v13_221 < v12_220)) = true then
    gate (inR v13_221 (s10_218.length : Int)) (
      gate (inR v13_221 (s21_219.length : Int)) (
        let t24_222 : Bool := (!decide ((getI (0 : Int) s10_218 v13_221) = (getI (0 : Int) s21_219 v13_221)))
        if t24_222 = true then
          kr (false, ())
        else
          again ((IntKind.wrap .i64 (v13_221 + (1 : Int))), ())) s) s
  else
    k0 ()
def slices_Equal_byte (N : Nat) (s10 : List Int) (s21 : List Int) : Option Bool :=
  let t10_214 : Bool := (!decide ((s10.length : Int) = (s21.length : Int)))
  if t10_214 = true then
    some false
  else
    iter (slices_Equal_byte.s0 N none (fun (x223 : Unit) =>
      some true) (fun (x224 : Bool × Unit) =>
      let v4_225 : Bool := x224.1
      some v4_225) (s10, s21, (s10.length : Int), ())) none N ((0 : Int), ())
def fs_equal (N : Nat) (a0 : List Int × Bool × Int × List Int) (b1 : List Int × Bool × Int × List Int) : Option Bool :=
  bindO (
    if (decide (a0.1 = b1.1)) = true then
      if (a0.2.1 == b1.2.1) = true then
        if (decide (a0.2.2.1 = b1.2.2.1)) = true then
          bindO (slices_Equal_byte N a0.2.2.2 b1.2.2.2) (fun r29_230 =>
            some r29_230) none
        else
          some false
      else
        some false
    else
      some false) (fun (c4_231 : Bool) =>
    some c4_231) none
def fs_Diff.s0 {R : Type} (N : Nat) (s : R) (k0 : Unit → R) (kr : (Int × Unit) → R) (c260 : List (List Int × Bool × Int × List Int) × List (List Int × Bool × Int × List Int) × Int × Unit) (again : (List (List (List Int × Bool × Int × List Int)) × Int × Unit) → R) (v261 : List (List (List Int × Bool × Int × List Int)) × Int × Unit) : R :=
  let a0_262 : List (List Int × Bool × Int × List Int) := c260.1
  let b1_263 : List (List Int × Bool × Int × List Int) := c260.2.1
  let v15_264 : Int := c260.2.2.1
  let v14_265 : List (List (List Int × Bool × Int × List Int)) := v261.1
  let v16_266 : Int := v261.2.1
  if (decide (v16_266 < v15_264)) = true then
    gate (inR v16_266 (v14_265.length : Int)) (
      gate (inR v16_266 (v14_265.length : Int)) (
        bindO (fs_Check N (getI [] v14_265 v16_266)) (fun r21_267 =>
          if (!decide (r21_267 = (0 : Int))) = true then
            kr (r21_267, ())
          else
            again (v14_265, (IntKind.wrap .i64 (v16_266 + (1 : Int))), ())) s) s) s
  else
    k0 ()
def fs_Diff.s1 {R : Type} (N : Nat) (s : R) (k2 : (List (Int × List Int) × Unit) → R) (c297 : List (List Int × Bool × Int × List Int) × List (List Int × Bool × Int × List Int) × Unit) (again : (List (Int × List Int) × Int × Int × Unit) → R) (v298 : List (Int × List Int) × Int × Int × Unit) : R :=
  let a0_299 : List (List Int × Bool × Int × List Int) := c297.1
  let b1_300 : List (List Int × Bool × Int × List Int) := c297.2.1
  let out9_301 : List (Int × List Int) := v298.1
  let i10_302 : Int := v298.2.1
  let k11_303 : Int := v298.2.2.1
  bindO (
    if (decide (i10_302 < (a0_299.length : Int))) = true then
      some true
    else
      some (decide (k11_303 < (b1_300.length : Int)))) (fun (c35_304 : Bool) =>
    if c35_304 = true then
      bindO (
        if (decide (k11_303 = (b1_300.length : Int))) = true then
          some true
        else
          if (decide (i10_302 < (a0_299.length : Int))) = true then
            gate (inR i10_302 (a0_299.length : Int)) (
              let t72_307 : List Int × Bool × Int × List Int := (getI ([], (false, ((0 : Int), []))) a0_299 i10_302)
              gate (inR k11_303 (b1_300.length : Int)) (
                let t77_308 : List Int × Bool × Int × List Int := (getI ([], (false, ((0 : Int), []))) b1_300 k11_303)
                some (strLess t72_307.1 t77_308.1)) none) none
          else
            some false) (fun (c59_309 : Bool) =>
        if c59_309 = true then
          gate (inR i10_302 (a0_299.length : Int)) (
            let t86_310 : List Int × Bool × Int × List Int := (getI ([], (false, ((0 : Int), []))) a0_299 i10_302)
            gate (roomFor (out9_301.length + [((45 : Int), t86_310.1)].length) 24) (
              again ((out9_301 ++ [((45 : Int), t86_310.1)]), (IntKind.wrap .i64 (i10_302 + (1 : Int))), k11_303, ())) s) s
        else
          bindO (
            if (decide (i10_302 = (a0_299.length : Int))) = true then
              some true
            else
              gate (inR k11_303 (b1_300.length : Int)) (
                let t102_313 : List Int × Bool × Int × List Int := (getI ([], (false, ((0 : Int), []))) b1_300 k11_303)
                gate (inR i10_302 (a0_299.length : Int)) (
                  let t107_314 : List Int × Bool × Int × List Int := (getI ([], (false, ((0 : Int), []))) a0_299 i10_302)
                  some (strLess t102_313.1 t107_314.1)) none) none) (fun (c94_315 : Bool) =>
            if c94_315 = true then
              gate (inR k11_303 (b1_300.length : Int)) (
                let t115_316 : List Int × Bool × Int × List Int := (getI ([], (false, ((0 : Int), []))) b1_300 k11_303)
                gate (roomFor (out9_301.length + [((43 : Int), t115_316.1)].length) 24) (
                  again ((out9_301 ++ [((43 : Int), t115_316.1)]), i10_302, (IntKind.wrap .i64 (k11_303 + (1 : Int))), ())) s) s
            else
              gate (inR i10_302 (a0_299.length : Int)) (
                let t38_317 : List Int × Bool × Int × List Int := (getI ([], (false, ((0 : Int), []))) a0_299 i10_302)
                gate (inR k11_303 (b1_300.length : Int)) (
                  let t42_318 : List Int × Bool × Int × List Int := (getI ([], (false, ((0 : Int), []))) b1_300 k11_303)
                  bindO (fs_equal N t38_317 t42_318) (fun r44_319 =>
                    bindO ((
                      if (!r44_319) = true then
                        gate (inR i10_302 (a0_299.length : Int)) (
                          let t49_321 : List Int × Bool × Int × List Int := (getI ([], (false, ((0 : Int), []))) a0_299 i10_302)
                          gate (roomFor (out9_301.length + [((33 : Int), t49_321.1)].length) 24) (
                            some ((out9_301 ++ [((33 : Int), t49_321.1)]), ())) none) none
                      else
                        some (out9_301, ()) : Option (List (Int × List Int) × Unit))) (fun j322 =>
                      let out9_323 : List (Int × List Int) := j322.1
                      again (out9_323, (IntKind.wrap .i64 (i10_302 + (1 : Int))), (IntKind.wrap .i64 (k11_303 + (1 : Int))), ())) s) s) s) s) s) s
    else
      k2 (out9_301, ())) s
def fs_Diff (N : Nat) (a0 : List (List Int × Bool × Int × List Int)) (b1 : List (List Int × Bool × Int × List Int)) : Option (List (Int × List Int) × Int) :=
  iter (fs_Diff.s0 N none (fun (x268 : Unit) =>
    iter (fs_Diff.s1 N none (fun (x324 : List (Int × List Int) × Unit) =>
      let out9_325 : List (Int × List Int) := x324.1
      some (out9_325, (0 : Int))) (a0, b1, ())) none N ([], (0 : Int), (0 : Int), ())) (fun (x326 : Int × Unit) =>
    let v5_327 : Int := x326.1
    some ([], v5_327)) (a0, b1, ([a0, b1].length : Int), ())) none N ([a0, b1], (0 : Int), ())
def strings_Contains (N : Nat) (s0 : List Int) (substr1 : List Int) : Option Bool :=
  bindO (indexF s0 substr1) (fun r7_331 =>
    some (decide (r7_331 ≥ (0 : Int)))) none
def wrackref2_Word (N : Nat) (s0 : List Int) : Option Bool :=
  bindO (
    if (decide ((s0.length : Int) > (0 : Int))) = true then
      if (decide ((s0.length : Int) ≤ (12 : Int))) = true then
        gate (bounds (s0.length : Int) (0 : Int) (1 : Int)) (
          bindO (strings_Contains N [97, 98, 99, 100, 101, 102, 103, 104, 105, 106, 107, 108, 109, 110, 111, 112, 113, 114, 115, 116, 117, 118, 119, 120, 121, 122] (cut s0 (0 : Int) (1 : Int))) (fun r14_339 =>
            if r14_339 = true then
              bindO (trimF s0 [97, 98, 99, 100, 101, 102, 103, 104, 105, 106, 107, 108, 109, 110, 111, 112, 113, 114, 115, 116, 117, 118, 119, 120, 121, 122, 48, 49, 50, 51, 52, 53, 54, 55, 56, 57, 45]) (fun r18_340 =>
                some (decide (r18_340 = []))) none
            else
              some false) none) none
      else
        some false
    else
      some false) (fun (c2_341 : Bool) =>
    some c2_341) none
def wrackref2_Way.s0 {R : Type} (N : Nat) (s : R) (k0 : (List (List Int) × Unit) → R) (kr : (Bool × Unit) → R) (c349 : Int × Unit) (again : (List (List Int) × List (List Int) × Int × Unit) → R) (v350 : List (List Int) × List (List Int) × Int × Unit) : R :=
  let v9_351 : Int := c349.1
  let l3_352 : List (List Int) := v350.1
  let v8_353 : List (List Int) := v350.2.1
  let v10_354 : Int := v350.2.2.1
  if (decide (v10_354 < v9_351)) = true then
    gate (inR v10_354 (v8_353.length : Int)) (
      bindO (wrackref2_Word N (getI [] v8_353 v10_354)) (fun r15_355 =>
        if (!r15_355) = true then
          kr (false, ())
        else
          again (l3_352, v8_353, (IntKind.wrap .i64 (v10_354 + (1 : Int))), ())) s) s
  else
    k0 (l3_352, ())
def wrackref2_Way (N : Nat) (s0 : List Int) : Option Bool :=
  bindO (strings_Split N s0 [47]) (fun r7_347 =>
    iter (wrackref2_Way.s0 N none (fun (x356 : List (List Int) × Unit) =>
      let l3_357 : List (List Int) := x356.1
      some (decide ((l3_357.length : Int) ≤ (4 : Int)))) (fun (x358 : Bool × Unit) =>
      let v2_359 : Bool := x358.1
      some v2_359) ((r7_347.length : Int), ())) none N (r7_347, r7_347, (0 : Int), ())) none
def wrackref2_Above (N : Nat) (s0 : List Int) : Option (List Int) :=
  bindO (strings_Split N s0 [47]) (fun r5_486 =>
    let t9_487 : Int := (IntKind.wrap .i64 ((r5_486.length : Int) - (1 : Int)))
    gate (bounds (r5_486.length : Int) (0 : Int) t9_487) (
      bindO (joinF (cut r5_486 (0 : Int) t9_487) [47]) (fun r11_488 =>
        some r11_488) none) none) none
def wrackref2_TreeErr.s0 {R : Type} (N : Nat) (s : R) (k0 : Unit → R) (kr : (Int × Unit) → R) (c633 : List (List Int × Bool × Int × List Int) × Int × Unit) (again : (List (List Int × Bool) × List Int × Int × Unit) → R) (v634 : List (List Int × Bool) × List Int × Int × Unit) : R :=
  let v14_635 : List (List Int × Bool × Int × List Int) := c633.1
  let v15_636 : Int := c633.2.1
  let dirs3_637 : List (List Int × Bool) := v634.1
  let last4_638 : List Int := v634.2.1
  let v16_639 : Int := v634.2.2.1
  if (decide (v16_639 < v15_636)) = true then
    gate (inR v16_639 (v14_635.length : Int)) (
      let t19_640 : List Int × Bool × Int × List Int := (getI ([], (false, ((0 : Int), []))) v14_635 v16_639)
      bindO (wrackref2_Way N t19_640.1) (fun r24_641 =>
        if (!r24_641) = true then
          kr ((6 : Int), ())
        else
          bindO (
            if (decide (t19_640.2.2.1 < (0 : Int))) = true then
              some true
            else
              let t33_684 : Bool := (decide (t19_640.2.2.1 ≥ (4294967296 : Int)))
              some t33_684) (fun (c26_685 : Bool) =>
            if c26_685 = true then
              kr ((21 : Int), ())
            else
              let t39_705 : Bool := (decide ((t19_640.2.2.2.length : Int) > (2048 : Int)))
              if t39_705 = true then
                kr ((2 : Int), ())
              else
                bindO (
                  let t44_716 : Bool := (decide ((t19_640.2.2.2.length : Int) > (0 : Int)))
                  if t44_716 = true then
                    some t19_640.2.1
                  else
                    some false) (fun (c40_717 : Bool) =>
                  if c40_717 = true then
                    kr ((3 : Int), ())
                  else
                    bindO (
                      if (decide (v16_639 > (0 : Int))) = true then
                        let t56_722 : Bool := (strLess t19_640.1 last4_638 || decide (t19_640.1 = last4_638))
                        some t56_722
                      else
                        some false) (fun (c49_723 : Bool) =>
                      if c49_723 = true then
                        kr ((11 : Int), ())
                      else
                        bindO (wrackref2_Above N t19_640.1) (fun r60_724 =>
                          if (!decide (r60_724 = [])) = true then
                            let t66_727 : Bool := ((mapGet (k := .str) (v := .bool) dirs3_637 r60_724).getD false)
                            let t66_728 : Bool := (mapGet (k := .str) (v := .bool) dirs3_637 r60_724).isSome
                            if (!t66_728) = true then
                              kr ((8 : Int), ())
                            else
                              if (!t66_727) = true then
                                kr ((12 : Int), ())
                              else
                                let bx_729 : List (List Int × Bool) := (mapPut (k := .str) (v := .bool) dirs3_637 t19_640.1 t19_640.2.1)
                                again (bx_729, t19_640.1, (IntKind.wrap .i64 (v16_639 + (1 : Int))), ())
                          else
                            let bx_730 : List (List Int × Bool) := (mapPut (k := .str) (v := .bool) dirs3_637 t19_640.1 t19_640.2.1)
                            again (bx_730, t19_640.1, (IntKind.wrap .i64 (v16_639 + (1 : Int))), ())) s) s) s) s) s) s
  else
    k0 ()
def wrackref2_TreeErr (N : Nat) (t0 : List (List Int × Bool × Int × List Int)) : Option Int :=
  if (decide ((t0.length : Int) > (40 : Int))) = true then
    some (9 : Int)
  else
    iter (wrackref2_TreeErr.s0 N none (fun (x731 : Unit) =>
      some (0 : Int)) (fun (x732 : Int × Unit) =>
      let v2_733 : Int := x732.1
      some v2_733) (t0, (t0.length : Int), ())) none N (([] : List (List Int × Bool)), [], (0 : Int), ())
def fs_Name (N : Nat) (s0 : List Int) : Option (List Int) :=
  bindO (strings_LastIndexByte N s0 (47 : Int)) (fun r5_743 =>
    gate (bounds (s0.length : Int) (IntKind.wrap .i64 (r5_743 + (1 : Int))) (s0.length : Int)) (
      let t7_744 : List Int := (cut s0 (IntKind.wrap .i64 (r5_743 + (1 : Int))) (s0.length : Int))
      some t7_744) none) none
def wracklaw2_paths (N : Nat) : Option Bool :=
  bindO (
    bindO (fs_Dir N [97, 47, 98, 47, 99]) (fun r1_754 =>
      if (decide (r1_754 = [97, 47, 98])) = true then
        bindO (fs_Name N [97, 47, 98]) (fun r4_755 =>
          if (decide (r4_755 = [98])) = true then
            bindO (fs_Path N [65]) (fun r8_756 =>
              some (decide (r8_756 = (6 : Int)))) none
          else
            some false) none
      else
        some false) none) (fun (c0_757 : Bool) =>
    some c0_757) none
def wracklaw2_find.s0 {R : Type} (N : Nat) (s : R) (k0 : (List Int × Bool × Int × Unit) → R) (kr : (Bool × List Int × Bool × Int × List Int × Unit) → R) (c779 : List Int × List (List Int × Bool × Int × List Int) × Int × Unit) (again : (Int × List Int × Bool × Int × Unit) → R) (v780 : Int × List Int × Bool × Int × Unit) : R :=
  let path1_781 : List Int := c779.1
  let v8_782 : List (List Int × Bool × Int × List Int) := c779.2.1
  let v9_783 : Int := c779.2.2.1
  let v10_784 : Int := v780.1
  let m0_785 : List Int := v780.2.1
  let m0_786 : Bool := v780.2.2.1
  let m0_787 : Int := v780.2.2.2.1
  if (decide (v10_784 < v9_783)) = true then
    gate (inR v10_784 (v8_782.length : Int)) (
      let t12_788 : List Int × Bool × Int × List Int := (getI ([], (false, ((0 : Int), []))) v8_782 v10_784)
      if (decide (t12_788.1 = path1_781)) = true then
        kr (true, t12_788.1, t12_788.2.1, t12_788.2.2.1, t12_788.2.2.2, ())
      else
        again ((IntKind.wrap .i64 (v10_784 + (1 : Int))), m0_785, m0_786, m0_787, ())) s
  else
    k0 (m0_785, m0_786, m0_787, ())
def wracklaw2_find (N : Nat) (t0 : List (List Int × Bool × Int × List Int)) (path1 : List Int) : Option ((List Int × Bool × Int × List Int) × Bool) :=
  iter (wracklaw2_find.s0 N none (fun (x789 : List Int × Bool × Int × Unit) =>
    let m0_790 : List Int := x789.1
    let m0_791 : Bool := x789.2.1
    let m0_792 : Int := x789.2.2.1
    some (([], (false, ((0 : Int), []))), false)) (fun (x793 : Bool × List Int × Bool × Int × List Int × Unit) =>
    let v5_794 : Bool := x793.1
    let m0_795 : List Int := x793.2.1
    let m0_796 : Bool := x793.2.2.1
    let m0_797 : Int := x793.2.2.2.1
    let m0_798 : List Int := x793.2.2.2.2.1
    some ((m0_795, (m0_796, (m0_797, m0_798))), v5_794)) (path1, t0, (t0.length : Int), ())) none N ((0 : Int), [], false, (0 : Int), ())
def wrackref2_Equal.s0 {R : Type} (N : Nat) (s : R) (k0 : Unit → R) (kr : (Bool × Unit) → R) (c837 : List (List Int × Bool × Int × List Int) × List (List Int × Bool × Int × List Int) × Int × Unit) (again : (Int × Unit) → R) (v838 : Int × Unit) : R :=
  let a0_839 : List (List Int × Bool × Int × List Int) := c837.1
  let b1_840 : List (List Int × Bool × Int × List Int) := c837.2.1
  let v12_841 : Int := c837.2.2.1
  let v13_842 : Int := v838.1
  if (decide (v13_842 < v12_841)) = true then
    bindO (
      gate (inR v13_842 (a0_839.length : Int)) (
        let t18_851 : List Int × Bool × Int × List Int := (getI ([], (false, ((0 : Int), []))) a0_839 v13_842)
        gate (inR v13_842 (b1_840.length : Int)) (
          let t23_852 : List Int × Bool × Int × List Int := (getI ([], (false, ((0 : Int), []))) b1_840 v13_842)
          if (!decide (t18_851.1 = t23_852.1)) = true then
            some true
          else
            gate (inR v13_842 (a0_839.length : Int)) (
              let t30_853 : List Int × Bool × Int × List Int := (getI ([], (false, ((0 : Int), []))) a0_839 v13_842)
              gate (inR v13_842 (b1_840.length : Int)) (
                let t35_854 : List Int × Bool × Int × List Int := (getI ([], (false, ((0 : Int), []))) b1_840 v13_842)
                if (!(t30_853.2.1 == t35_854.2.1)) = true then
                  some true
                else
                  gate (inR v13_842 (a0_839.length : Int)) (
                    let t43_855 : List Int × Bool × Int × List Int := (getI ([], (false, ((0 : Int), []))) a0_839 v13_842)
                    gate (inR v13_842 (b1_840.length : Int)) (
                      let t48_856 : List Int × Bool × Int × List Int := (getI ([], (false, ((0 : Int), []))) b1_840 v13_842)
                      if (!decide (t43_855.2.2.1 = t48_856.2.2.1)) = true then
                        some true
                      else
                        gate (inR v13_842 (a0_839.length : Int)) (
                          let t56_857 : List Int × Bool × Int × List Int := (getI ([], (false, ((0 : Int), []))) a0_839 v13_842)
                          gate (inR v13_842 (b1_840.length : Int)) (
                            let t62_858 : List Int × Bool × Int × List Int := (getI ([], (false, ((0 : Int), []))) b1_840 v13_842)
                            some (!decide (t56_857.2.2.2 = t62_858.2.2.2))) none) none) none) none) none) none) none) none) (fun (c67_859 : Bool) =>
      if c67_859 = true then
        kr (false, ())
      else
        again ((IntKind.wrap .i64 (v13_842 + (1 : Int))), ())) s
  else
    k0 ()
def wrackref2_Equal (N : Nat) (a0 : List (List Int × Bool × Int × List Int)) (b1 : List (List Int × Bool × Int × List Int)) : Option Bool :=
  let t10_821 : Bool := (!decide ((a0.length : Int) = (b1.length : Int)))
  if t10_821 = true then
    some false
  else
    iter (wrackref2_Equal.s0 N none (fun (x860 : Unit) =>
      some true) (fun (x861 : Bool × Unit) =>
      let v4_862 : Bool := x861.1
      some v4_862) (a0, b1, (a0.length : Int), ())) none N ((0 : Int), ())
def slices_Equal_fs_Line.s0 {R : Type} (N : Nat) (s : R) (k0 : Unit → R) (kr : (Bool × Unit) → R) (c904 : List (Int × List Int) × List (Int × List Int) × Int × Unit) (again : (Int × Unit) → R) (v905 : Int × Unit) : R :=
  let s10_906 : List (Int × List Int) := c904.1
  let s21_907 : List (Int × List Int) := c904.2.1
  let v12_908 : Int := c904.2.2.1
  let v13_909 : Int := v905.1
  if (decide (v13_909 < v12_908)) = true then
    gate (inR v13_909 (s10_906.length : Int)) (
      gate (inR v13_909 (s21_907.length : Int)) (
        let t24_910 : Bool := (!(decide ((getI ((0 : Int), []) s10_906 v13_909).1 = (getI ((0 : Int), []) s21_907 v13_909).1) && (decide ((getI ((0 : Int), []) s10_906 v13_909).2 = (getI ((0 : Int), []) s21_907 v13_909).2) && true)))
        if t24_910 = true then
          kr (false, ())
        else
          again ((IntKind.wrap .i64 (v13_909 + (1 : Int))), ())) s) s
  else
    k0 ()
def slices_Equal_fs_Line (N : Nat) (s10 : List (Int × List Int)) (s21 : List (Int × List Int)) : Option Bool :=
  let t10_902 : Bool := (!decide ((s10.length : Int) = (s21.length : Int)))
  if t10_902 = true then
    some false
  else
    iter (slices_Equal_fs_Line.s0 N none (fun (x911 : Unit) =>
      some true) (fun (x912 : Bool × Unit) =>
      let v4_913 : Bool := x912.1
      some v4_913) (s10, s21, (s10.length : Int), ())) none N ((0 : Int), ())
def wracklaw2_FsDiffs.s0 {R : Type} (N : Nat) (s : R) (k0 : (List (Int × List Int) × List (Int × List Int) × Unit) → R) (c956 : List (List Int × Bool × Int × List Int) × List (List Int × Bool × Int × List Int) × Int × List (List Int × Bool × Int × List Int) × Int × Unit) (again : (List (Int × List Int) × List (Int × List Int) × Int × Unit) → R) (v957 : List (Int × List Int) × List (Int × List Int) × Int × Unit) : R :=
  let a0_958 : List (List Int × Bool × Int × List Int) := c956.1
  let b1_959 : List (List Int × Bool × Int × List Int) := c956.2.1
  let e6_960 : Int := c956.2.2.1
  let v46_961 : List (List Int × Bool × Int × List Int) := c956.2.2.2.1
  let v47_962 : Int := c956.2.2.2.2.1
  let l5_963 : List (Int × List Int) := v957.1
  let want8_964 : List (Int × List Int) := v957.2.1
  let v48_965 : Int := v957.2.2.1
  if (decide (v48_965 < v47_962)) = true then
    gate (inR v48_965 (v46_961.length : Int)) (
      let t50_966 : List Int × Bool × Int × List Int := (getI ([], (false, ((0 : Int), []))) v46_961 v48_965)
      bindO (wracklaw2_find N b1_959 t50_966.1) (fun r56_967 =>
        if (!r56_967.2) = true then
          gate (roomFor (want8_964.length + [((45 : Int), t50_966.1)].length) 24) (
            again (l5_963, (want8_964 ++ [((45 : Int), t50_966.1)]), (IntKind.wrap .i64 (v48_965 + (1 : Int))), ())) s
        else
          bindO (wrackref2_Equal N [t50_966] [r56_967.1]) (fun r71_968 =>
            if (!r71_968) = true then
              gate (roomFor (want8_964.length + [((33 : Int), t50_966.1)].length) 24) (
                again (l5_963, (want8_964 ++ [((33 : Int), t50_966.1)]), (IntKind.wrap .i64 (v48_965 + (1 : Int))), ())) s
            else
              again (l5_963, want8_964, (IntKind.wrap .i64 (v48_965 + (1 : Int))), ())) s) s) s
  else
    k0 (l5_963, want8_964, ())
def wracklaw2_FsDiffs.s1 {R : Type} (N : Nat) (s : R) (k2 : (List (Int × List Int) × List (Int × List Int) × Unit) → R) (c979 : List (List Int × Bool × Int × List Int) × Int × List (List Int × Bool × Int × List Int) × Int × Unit) (again : (List (Int × List Int) × List (Int × List Int) × Int × Unit) → R) (v980 : List (Int × List Int) × List (Int × List Int) × Int × Unit) : R :=
  let a0_981 : List (List Int × Bool × Int × List Int) := c979.1
  let e6_982 : Int := c979.2.1
  let v80_983 : List (List Int × Bool × Int × List Int) := c979.2.2.1
  let v81_984 : Int := c979.2.2.2.1
  let l5_985 : List (Int × List Int) := v980.1
  let want8_986 : List (Int × List Int) := v980.2.1
  let v82_987 : Int := v980.2.2.1
  if (decide (v82_987 < v81_984)) = true then
    gate (inR v82_987 (v80_983.length : Int)) (
      let t84_988 : List Int × Bool × Int × List Int := (getI ([], (false, ((0 : Int), []))) v80_983 v82_987)
      bindO (wracklaw2_find N a0_981 t84_988.1) (fun r90_989 =>
        if (!r90_989.2) = true then
          gate (roomFor (want8_986.length + [((43 : Int), t84_988.1)].length) 24) (
            again (l5_985, (want8_986 ++ [((43 : Int), t84_988.1)]), (IntKind.wrap .i64 (v82_987 + (1 : Int))), ())) s
        else
          again (l5_985, want8_986, (IntKind.wrap .i64 (v82_987 + (1 : Int))), ())) s) s
  else
    k2 (l5_985, want8_986, ())
def wracklaw2_FsDiffs (N : Nat) (a0 : List (List Int × Bool × Int × List Int)) (b1 : List (List Int × Bool × Int × List Int)) : Option Bool :=
  bindO (fs_Diff N a0 b1) (fun r20_917 =>
    bindO (wrackref2_TreeErr N a0) (fun r24_918 =>
      bindO ((
        if (decide (r24_918 = (0 : Int))) = true then
          bindO (wrackref2_TreeErr N b1) (fun r28_920 =>
            some (r20_917.1, r28_920, ())) none
        else
          some (r20_917.1, r24_918, ()) : Option (List (Int × List Int) × Int × Unit))) (fun j921 =>
        let l5_922 : List (Int × List Int) := j921.1
        let bad7_923 : Int := j921.2.1
        bindO (
          bindO (wracklaw2_paths N) (fun r29_925 =>
            if (!r29_925) = true then
              some true
            else
              some (!decide (bad7_923 = (0 : Int)))) none) (fun (c34_926 : Bool) =>
          if c34_926 = true then
            bindO (
              bindO (wracklaw2_paths N) (fun r35_931 =>
                if r35_931 = true then
                  if (decide (r20_917.2 = bad7_923)) = true then
                    some (decide ((l5_922.length : Int) = (0 : Int)))
                  else
                    some false
                else
                  some false) none) (fun (c4_932 : Bool) =>
              some c4_932) none
          else
            iter (wracklaw2_FsDiffs.s0 N none (fun (x969 : List (Int × List Int) × List (Int × List Int) × Unit) =>
              let l5_970 : List (Int × List Int) := x969.1
              let want8_971 : List (Int × List Int) := x969.2.1
              iter (wracklaw2_FsDiffs.s1 N none (fun (x990 : List (Int × List Int) × List (Int × List Int) × Unit) =>
                let l5_991 : List (Int × List Int) := x990.1
                let want8_992 : List (Int × List Int) := x990.2.1
                gate ((decide (want8_992.length < 4611686018427387904) && apartB (fun (x y : Int × List Int) => strLess x.2 y.2) want8_992)) (
                  let b103_993 : List (Int × List Int) := (sortBy (fun (x y : Int × List Int) => strLess x.2 y.2) want8_992)
                  bindO (
                    if (decide (r20_917.2 = (0 : Int))) = true then
                      bindO (slices_Equal_fs_Line N l5_991 b103_993) (fun r109_995 =>
                        some r109_995) none
                    else
                      some false) (fun (c4_996 : Bool) =>
                    some c4_996) none) none) (a0, r20_917.2, b1, (b1.length : Int), ())) none N (l5_970, want8_971, (0 : Int), ())) (a0, b1, r20_917.2, a0, (a0.length : Int), ())) none N (l5_922, [], (0 : Int), ())) none) none) none) none
end Go.Proofs.YthkpfkjbflcpnaaDoor
