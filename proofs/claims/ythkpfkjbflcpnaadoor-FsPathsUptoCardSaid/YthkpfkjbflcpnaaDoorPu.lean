import Derived.Test.YthkpfkjbflcpnaaDoorAbDen
import Derived.Test.YthkpfkjbflcpnaaDoorAbStrFn
import Derived.Test.YthkpfkjbflcpnaaDoorAbDen
set_option linter.unusedVariables false
namespace Go.Proofs.YthkpfkjbflcpnaaDoor
open Go Go.Ab
def strings_Split (N : Nat) (s0 : List Int) (sep1 : List Int) : Option (List (List Int)) :=
  bindO (genSplitF s0 sep1 (0 : Int) (-1 : Int)) (fun r7_2 =>
    some r7_2) none
def strings_Contains (N : Nat) (s0 : List Int) (substr1 : List Int) : Option Bool :=
  bindO (indexF s0 substr1) (fun r7_5 =>
    some (decide (r7_5 ≥ (0 : Int)))) none
def wrackref2_Word (N : Nat) (s0 : List Int) : Option Bool :=
  bindO (
    if (decide ((s0.length : Int) > (0 : Int))) = true then
      if (decide ((s0.length : Int) ≤ (12 : Int))) = true then
        gate (bounds (s0.length : Int) (0 : Int) (1 : Int)) (
          bindO (strings_Contains N [97, 98, 99, 100, 101, 102, 103, 104, 105, 106, 107, 108, 109, 110, 111, 112, 113, 114, 115, 116, 117, 118, 119, 120, 121, 122] (cut s0 (0 : Int) (1 : Int))) (fun r14_13 =>
            if r14_13 = true then
              bindO (trimF s0 [97, 98, 99, 100, 101, 102, 103, 104, 105, 106, 107, 108, 109, 110, 111, 112, 113, 114, 115, 116, 117, 118, 119, 120, 121, 122, 48, 49, 50, 51, 52, 53, 54, 55, 56, 57, 45]) (fun r18_14 =>
                some (decide (r18_14 = []))) none
            else
              some false) none) none
      else
        some false
    else
      some false) (fun (c2_15 : Bool) =>
    some c2_15) none
def wrackref2_Way.s0 {R : Type} (N : Nat) (s : R) (k0 : (List (List Int) × Unit) → R) (kr : (Bool × Unit) → R) (c23 : Int × Unit) (again : (List (List Int) × List (List Int) × Int × Unit) → R) (v24 : List (List Int) × List (List Int) × Int × Unit) : R :=
  let v9_25 : Int := c23.1
  let l3_26 : List (List Int) := v24.1
  let v8_27 : List (List Int) := v24.2.1
  let v10_28 : Int := v24.2.2.1
  if (decide (v10_28 < v9_25)) = true then
    gate (inR v10_28 (v8_27.length : Int)) (
      bindO (wrackref2_Word N (getI [] v8_27 v10_28)) (fun r15_29 =>
        if (!r15_29) = true then
          kr (false, ())
        else
          again (l3_26, v8_27, (IntKind.wrap .i64 (v10_28 + (1 : Int))), ())) s) s
  else
    k0 (l3_26, ())
def wrackref2_Way (N : Nat) (s0 : List Int) : Option Bool :=
  bindO (strings_Split N s0 [47]) (fun r7_21 =>
    iter (wrackref2_Way.s0 N none (fun (x30 : List (List Int) × Unit) =>
      let l3_31 : List (List Int) := x30.1
      some (decide ((l3_31.length : Int) ≤ (4 : Int)))) (fun (x32 : Bool × Unit) =>
      let v2_33 : Bool := x32.1
      some v2_33) ((r7_21.length : Int), ())) none N (r7_21, r7_21, (0 : Int), ())) none
def bytealg_LastIndexByteString.s0 {R : Type} (N : Nat) (s : R) (k0 : Unit → R) (kr : (Int × Unit) → R) (c43 : List Int × Int × Unit) (again : (Int × Unit) → R) (v44 : Int × Unit) : R :=
  let s0_45 : List Int := c43.1
  let c1_46 : Int := c43.2.1
  let i5_47 : Int := v44.1
  if (decide (i5_47 ≥ (0 : Int))) = true then
    gate (inR i5_47 (s0_45.length : Int)) (
      if (decide ((getI 0 s0_45 i5_47) = c1_46)) = true then
        kr (i5_47, ())
      else
        again ((IntKind.wrap .i64 (i5_47 - (1 : Int))), ())) s
  else
    k0 ()
def bytealg_LastIndexByteString (N : Nat) (s0 : List Int) (c1 : Int) : Option Int :=
  let t8_42 : Int := (IntKind.wrap .i64 ((s0.length : Int) - (1 : Int)))
  iter (bytealg_LastIndexByteString.s0 N none (fun (x48 : Unit) =>
    some (-1 : Int)) (fun (x49 : Int × Unit) =>
    let v4_50 : Int := x49.1
    some v4_50) (s0, c1, ())) none N (t8_42, ())
def strings_LastIndexByte (N : Nat) (s0 : List Int) (c1 : Int) : Option Int :=
  bindO (bytealg_LastIndexByteString N s0 c1) (fun r7_52 =>
    some r7_52) none
def fs_Dir (N : Nat) (s0 : List Int) : Option (List Int) :=
  bindO (strings_LastIndexByte N s0 (47 : Int)) (fun r5_54 =>
    gate (bounds (s0.length : Int) (0 : Int) (maxI (0 : Int) r5_54)) (
      some (cut s0 (0 : Int) (maxI (0 : Int) r5_54))) none) none
def fs_Name (N : Nat) (s0 : List Int) : Option (List Int) :=
  bindO (strings_LastIndexByte N s0 (47 : Int)) (fun r5_58 =>
    gate (bounds (s0.length : Int) (IntKind.wrap .i64 (r5_58 + (1 : Int))) (s0.length : Int)) (
      let t7_59 : List Int := (cut s0 (IntKind.wrap .i64 (r5_58 + (1 : Int))) (s0.length : Int))
      some t7_59) none) none
def fs_Named.s0 {R : Type} (N : Nat) (s : R) (k0 : Unit → R) (kr : (Bool × Unit) → R) (c77 : List Int × Int × Unit) (again : (Int × Unit) → R) (v78 : Int × Unit) : R :=
  let s0_79 : List Int := c77.1
  let v23_80 : Int := c77.2.1
  let v24_81 : Int := v78.1
  if (decide (v24_81 < v23_80)) = true then
    gate (inR v24_81 (s0_79.length : Int)) (
      bindO (
        let t31_92 : Bool := (decide ((getI 0 s0_79 v24_81) < (97 : Int)))
        if t31_92 = true then
          let t38_93 : Bool := (decide ((getI 0 s0_79 v24_81) < (48 : Int)))
          if t38_93 = true then
            let t46_94 : Bool := (!decide ((getI 0 s0_79 v24_81) = (45 : Int)))
            some t46_94
          else
            let t41_95 : Bool := (decide ((getI 0 s0_79 v24_81) > (57 : Int)))
            if t41_95 = true then
              let t46_96 : Bool := (!decide ((getI 0 s0_79 v24_81) = (45 : Int)))
              some t46_96
            else
              some false
        else
          let t34_97 : Bool := (decide ((getI 0 s0_79 v24_81) > (122 : Int)))
          if t34_97 = true then
            let t38_98 : Bool := (decide ((getI 0 s0_79 v24_81) < (48 : Int)))
            if t38_98 = true then
              let t46_99 : Bool := (!decide ((getI 0 s0_79 v24_81) = (45 : Int)))
              some t46_99
            else
              let t41_100 : Bool := (decide ((getI 0 s0_79 v24_81) > (57 : Int)))
              if t41_100 = true then
                let t46_101 : Bool := (!decide ((getI 0 s0_79 v24_81) = (45 : Int)))
                some t46_101
              else
                some false
          else
            some false) (fun (c47_102 : Bool) =>
        if c47_102 = true then
          kr (false, ())
        else
          again ((IntKind.wrap .i64 (v24_81 + (1 : Int))), ())) s) s
  else
    k0 ()
def fs_Named (N : Nat) (s0 : List Int) : Option Bool :=
  bindO (
    if (decide (s0 = [])) = true then
      some true
    else
      if (decide ((s0.length : Int) > (12 : Int))) = true then
        some true
      else
        gate (inR (0 : Int) (s0.length : Int)) (
          let t15_73 : Bool := (decide ((getI 0 s0 (0 : Int)) < (97 : Int)))
          if t15_73 = true then
            some true
          else
            gate (inR (0 : Int) (s0.length : Int)) (
              let t20_74 : Bool := (decide ((getI 0 s0 (0 : Int)) > (122 : Int)))
              some t20_74) none) none) (fun (c21_75 : Bool) =>
    if c21_75 = true then
      some false
    else
      iter (fs_Named.s0 N none (fun (x103 : Unit) =>
        some true) (fun (x104 : Bool × Unit) =>
        let v2_105 : Bool := x104.1
        some v2_105) (s0, (s0.length : Int), ())) none N ((0 : Int), ())) none
def fs_Path_1 (N : Nat) (x0 : List Int) : Option Bool :=
  bindO (fs_Named N x0) (fun r4_107 =>
    some (!r4_107)) none
def fs_Path_i0_slices_ContainsFunc_i0_slices_IndexFunc.s0 {R : Type} (N : Nat) (s : R) (k0 : Unit → R) (kr : (Int × Unit) → R) (c122 : List (List Int) × Int × Unit) (again : (Int × Unit) → R) (v123 : Int × Unit) : R :=
  let s0_124 : List (List Int) := c122.1
  let v7_125 : Int := c122.2.1
  let v8_126 : Int := v123.1
  if (decide (v8_126 < v7_125)) = true then
    gate (inR v8_126 (s0_124.length : Int)) (
      bindO (fs_Path_1 N (getI [] s0_124 v8_126)) (fun r16_127 =>
        if r16_127 = true then
          kr (v8_126, ())
        else
          again ((IntKind.wrap .i64 (v8_126 + (1 : Int))), ())) s) s
  else
    k0 ()
def fs_Path (N : Nat) (s0 : List Int) : Option Int :=
  bindO (strings_Split N s0 [47]) (fun r5_116 =>
    if (decide ((r5_116.length : Int) > (4 : Int))) = true then
      some (6 : Int)
    else
      iter (fs_Path_i0_slices_ContainsFunc_i0_slices_IndexFunc.s0 N none (fun (x128 : Unit) =>
        if (decide ((-1 : Int) ≥ (0 : Int))) = true then
          some (6 : Int)
        else
          some (0 : Int)) (fun (x129 : Int × Unit) =>
        let v4_130 : Int := x129.1
        if (decide (v4_130 ≥ (0 : Int))) = true then
          some (6 : Int)
        else
          some (0 : Int)) (r5_116, (r5_116.length : Int), ())) none N ((0 : Int), ())) none
def wracklaw2_paths (N : Nat) : Option Bool :=
  bindO (
    bindO (fs_Dir N [97, 47, 98, 47, 99]) (fun r1_139 =>
      if (decide (r1_139 = [97, 47, 98])) = true then
        bindO (fs_Name N [97, 47, 98]) (fun r4_140 =>
          if (decide (r4_140 = [98])) = true then
            bindO (fs_Path N [65]) (fun r8_141 =>
              some (decide (r8_141 = (6 : Int)))) none
          else
            some false) none
      else
        some false) none) (fun (c0_142 : Bool) =>
    some c0_142) none
def wrackref2_Above (N : Nat) (s0 : List Int) : Option (List Int) :=
  bindO (strings_Split N s0 [47]) (fun r5_151 =>
    let t9_152 : Int := (IntKind.wrap .i64 ((r5_151.length : Int) - (1 : Int)))
    gate (bounds (r5_151.length : Int) (0 : Int) t9_152) (
      bindO (joinF (cut r5_151 (0 : Int) t9_152) [47]) (fun r11_153 =>
        some r11_153) none) none) none
def stringslite_HasPrefix (N : Nat) (s0 : List Int) (prefix1 : List Int) : Option Bool :=
  bindO (
    let t9_165 : Bool := (decide ((s0.length : Int) ≥ (prefix1.length : Int)))
    if t9_165 = true then
      gate (bounds (s0.length : Int) (0 : Int) (prefix1.length : Int)) (
        let t16_166 : Bool := (decide ((cut s0 (0 : Int) (prefix1.length : Int)) = prefix1))
        some t16_166) none
    else
      some false) (fun (c4_167 : Bool) =>
    some c4_167) none
def strings_HasPrefix (N : Nat) (s0 : List Int) (prefix1 : List Int) : Option Bool :=
  bindO (stringslite_HasPrefix N s0 prefix1) (fun r7_169 =>
    some r7_169) none
def fs_Under (N : Nat) (s0 : List Int) (dir1 : List Int) : Option Bool :=
  gate (decide (dir1.length + [47].length ≤ 140737488355328)) (
    bindO (strings_HasPrefix N s0 (dir1 ++ [47])) (fun r8_171 =>
      some r8_171) none) none
def wracklaw2_FsPaths (N : Nat) (s0 : List Int) (dir1 : List Int) : Option Bool :=
  bindO (wrackref2_Way N s0) (fun r8_186 =>
    bindO ((
      if r8_186 = true then
        some ((0 : Int), ())
      else
        some ((6 : Int), ()) : Option (Int × Unit))) (fun j187 =>
      let want5_188 : Int := j187.1
      bindO (strings_Split N s0 [47]) (fun r10_189 =>
        bindO (
          bindO (wracklaw2_paths N) (fun r11_201 =>
            if r11_201 = true then
              bindO (fs_Named N s0) (fun r14_202 =>
                bindO (wrackref2_Word N s0) (fun r16_203 =>
                  if (r14_202 == r16_203) = true then
                    bindO (fs_Path N s0) (fun r21_204 =>
                      if (decide (r21_204 = want5_188)) = true then
                        bindO (fs_Dir N s0) (fun r27_205 =>
                          bindO (wrackref2_Above N s0) (fun r29_206 =>
                            if (decide (r27_205 = r29_206)) = true then
                              bindO (fs_Name N s0) (fun r34_207 =>
                                let t38_208 : Int := (IntKind.wrap .i64 ((r10_189.length : Int) - (1 : Int)))
                                gate (inR t38_208 (r10_189.length : Int)) (
                                  gate (inR t38_208 (r10_189.length : Int)) (
                                    let t41_209 : Bool := (decide (r34_207 = (getI [] r10_189 t38_208)))
                                    if t41_209 = true then
                                      bindO (fs_Under N s0 dir1) (fun r46_210 =>
                                        gate (decide (dir1.length + [47].length ≤ 140737488355328)) (
                                          bindO (strings_HasPrefix N s0 (dir1 ++ [47])) (fun r50_211 =>
                                            some (r46_210 == r50_211)) none) none) none
                                    else
                                      some false) none) none) none
                            else
                              some false) none) none
                      else
                        some false) none
                  else
                    some false) none) none
            else
              some false) none) (fun (c4_212 : Bool) =>
          some c4_212) none) none) none) none
end Go.Proofs.YthkpfkjbflcpnaaDoor
