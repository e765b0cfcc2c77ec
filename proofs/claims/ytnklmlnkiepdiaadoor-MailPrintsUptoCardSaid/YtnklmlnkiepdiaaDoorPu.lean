import Derived.Test.YtnklmlnkiepdiaaDoorAbIterFn
import Derived.Test.YtnklmlnkiepdiaaDoorAbStrFn
import Derived.Test.YtnklmlnkiepdiaaDoorAbItoaFn
import Derived.Test.YtnklmlnkiepdiaaDoorAbDen
set_option linter.unusedVariables false
namespace Go.Proofs.YtnklmlnkiepdiaaDoor
open Go Go.Ab
def fs_Named.s0 {R : Type} (N : Nat) (s : R) (k0 : Unit → R) (kr : (Bool × Unit) → R) (c17 : List Int × Int × Unit) (again : (Int × Unit) → R) (v18 : Int × Unit) : R :=
  let s0_19 : List Int := c17.1
  let v23_20 : Int := c17.2.1
  let v24_21 : Int := v18.1
  if (decide (v24_21 < v23_20)) = true then
    gate (inR v24_21 (s0_19.length : Int)) (
      bindO (
        let t31_32 : Bool := (decide ((getI 0 s0_19 v24_21) < (97 : Int)))
        if t31_32 = true then
          let t38_33 : Bool := (decide ((getI 0 s0_19 v24_21) < (48 : Int)))
          if t38_33 = true then
            let t46_34 : Bool := (!decide ((getI 0 s0_19 v24_21) = (45 : Int)))
            some t46_34
          else
            let t41_35 : Bool := (decide ((getI 0 s0_19 v24_21) > (57 : Int)))
            if t41_35 = true then
              let t46_36 : Bool := (!decide ((getI 0 s0_19 v24_21) = (45 : Int)))
              some t46_36
            else
              some false
        else
          let t34_37 : Bool := (decide ((getI 0 s0_19 v24_21) > (122 : Int)))
          if t34_37 = true then
            let t38_38 : Bool := (decide ((getI 0 s0_19 v24_21) < (48 : Int)))
            if t38_38 = true then
              let t46_39 : Bool := (!decide ((getI 0 s0_19 v24_21) = (45 : Int)))
              some t46_39
            else
              let t41_40 : Bool := (decide ((getI 0 s0_19 v24_21) > (57 : Int)))
              if t41_40 = true then
                let t46_41 : Bool := (!decide ((getI 0 s0_19 v24_21) = (45 : Int)))
                some t46_41
              else
                some false
          else
            some false) (fun (c47_42 : Bool) =>
        if c47_42 = true then
          kr (false, ())
        else
          again ((IntKind.wrap .i64 (v24_21 + (1 : Int))), ())) s) s
  else
    k0 ()
def fs_Named (N : Nat) (s0 : List Int) : Option Bool :=
  bindO (
    if (decide (s0 = [])) = true then
      some true
    else
      if (decide ((s0.length : Int) > (12 : Int))) = true then
        some true
      else
        gate (inR (0 : Int) (s0.length : Int)) (
          let t15_13 : Bool := (decide ((getI 0 s0 (0 : Int)) < (97 : Int)))
          if t15_13 = true then
            some true
          else
            gate (inR (0 : Int) (s0.length : Int)) (
              let t20_14 : Bool := (decide ((getI 0 s0 (0 : Int)) > (122 : Int)))
              some t20_14) none) none) (fun (c21_15 : Bool) =>
    if c21_15 = true then
      some false
    else
      iter (fs_Named.s0 N none (fun (x43 : Unit) =>
        some true) (fun (x44 : Bool × Unit) =>
        let v2_45 : Bool := x44.1
        some v2_45) (s0, (s0.length : Int), ())) none N ((0 : Int), ())) none
def mail_plain_1 (N : Nat) (c0 : Int) : Option Bool :=
  bindO (
    if (decide (c0 < (32 : Int))) = true then
      some true
    else
      some (decide (c0 > (126 : Int)))) (fun (c2_55 : Bool) =>
    some c2_55) none
def mail_plain_i0_slices_ContainsFunc_i0_slices_IndexFunc.s0 {R : Type} (N : Nat) (s : R) (k0 : Unit → R) (kr : (Int × Unit) → R) (c61 : List Int × Int × Unit) (again : (Int × Unit) → R) (v62 : Int × Unit) : R :=
  let s0_63 : List Int := c61.1
  let v7_64 : Int := c61.2.1
  let v8_65 : Int := v62.1
  if (decide (v8_65 < v7_64)) = true then
    gate (inR v8_65 (s0_63.length : Int)) (
      bindO (mail_plain_1 N (getI (0 : Int) s0_63 v8_65)) (fun r16_66 =>
        if r16_66 = true then
          kr (v8_65, ())
        else
          again ((IntKind.wrap .i64 (v8_65 + (1 : Int))), ())) s) s
  else
    k0 ()
def mail_plain (N : Nat) (s0 : List Int) : Option Bool :=
  gate (roomFor (s0.length) 1) (
    iter (mail_plain_i0_slices_ContainsFunc_i0_slices_IndexFunc.s0 N none (fun (x67 : Unit) =>
      some (!(decide ((-1 : Int) ≥ (0 : Int))))) (fun (x68 : Int × Unit) =>
      let v4_69 : Int := x68.1
      some (!(decide (v4_69 ≥ (0 : Int))))) (s0, (s0.length : Int), ())) none N ((0 : Int), ())) none
def stringslite_HasSuffix (N : Nat) (s0 : List Int) (suffix1 : List Int) : Option Bool :=
  bindO (
    let t9_81 : Bool := (decide ((s0.length : Int) ≥ (suffix1.length : Int)))
    if t9_81 = true then
      let t16_82 : Int := (IntKind.wrap .i64 ((s0.length : Int) - (suffix1.length : Int)))
      gate (bounds (s0.length : Int) t16_82 (s0.length : Int)) (
        let t19_83 : Bool := (decide ((cut s0 t16_82 (s0.length : Int)) = suffix1))
        some t19_83) none
    else
      some false) (fun (c4_84 : Bool) =>
    some c4_84) none
def strings_HasSuffix (N : Nat) (s0 : List Int) (suffix1 : List Int) : Option Bool :=
  bindO (stringslite_HasSuffix N s0 suffix1) (fun r7_86 =>
    some r7_86) none
def mail_one (N : Nat) (m0 : List Int × Int × List Int × List Int × Bool × List Int × List Int) : Option Int :=
  bindO (
    bindO (fs_Named N m0.1) (fun r6_102 =>
      if (!r6_102) = true then
        some true
      else
        bindO (fs_Named N m0.2.2.1) (fun r11_103 =>
          if (!r11_103) = true then
            some true
          else
            if (!decide (m0.2.2.2.1 = [])) = true then
              bindO (fs_Named N m0.2.2.2.1) (fun r21_104 =>
                some (!r21_104)) none
            else
              some false) none) none) (fun (c3_105 : Bool) =>
    if c3_105 = true then
      some (6 : Int)
    else
      bindO (
        if (decide (m0.2.1 < (0 : Int))) = true then
          some true
        else
          some (decide (m0.2.1 > (4294967295 : Int)))) (fun (c25_106 : Bool) =>
        if c25_106 = true then
          some (21 : Int)
        else
          bindO (
            bindO (mail_plain N m0.2.2.2.2.2.1) (fun r37_113 =>
              if (!r37_113) = true then
                some true
              else
                if (!decide (m0.2.2.2.2.2.2 = [])) = true then
                  bindO (strings_HasSuffix N m0.2.2.2.2.2.2 [10]) (fun r46_114 =>
                    if (!r46_114) = true then
                      some true
                    else
                      bindO (dropF m0.2.2.2.2.2.2 [10] []) (fun r53_115 =>
                        bindO (mail_plain N r53_115) (fun r54_116 =>
                          some (!r54_116)) none) none) none
                else
                  bindO (dropF m0.2.2.2.2.2.2 [10] []) (fun r53_117 =>
                    bindO (mail_plain N r53_117) (fun r54_118 =>
                      some (!r54_118)) none) none) none) (fun (c34_119 : Bool) =>
            if c34_119 = true then
              some (3 : Int)
            else
              some (0 : Int)) none) none) none
def mail_Check_i0_slices_ContainsFunc_i0_slices_IndexFunc.s0 {R : Type} (N : Nat) (s : R) (k0 : (List Int × Int × List Int × List Int × Bool × List Int × List Int × Unit) → R) (kr : (List Int × Int × List Int × List Int × Bool × List Int × List Int × Int × Unit) → R) (c172 : List (List Int × Int × List Int × List Int × Bool × List Int × List Int) × Int × Unit) (again : (List Int × Int × List Int × List Int × Bool × List Int × List Int × Int × Unit) → R) (v173 : List Int × Int × List Int × List Int × Bool × List Int × List Int × Int × Unit) : R :=
  let s0_174 : List (List Int × Int × List Int × List Int × Bool × List Int × List Int) := c172.1
  let v7_175 : Int := c172.2.1
  let h0_176 : List Int := v173.1
  let h0_177 : Int := v173.2.1
  let h0_178 : List Int := v173.2.2.1
  let h0_179 : List Int := v173.2.2.2.1
  let h0_180 : Bool := v173.2.2.2.2.1
  let h0_181 : List Int := v173.2.2.2.2.2.1
  let h0_182 : List Int := v173.2.2.2.2.2.2.1
  let v8_183 : Int := v173.2.2.2.2.2.2.2.1
  if (decide (v8_183 < v7_175)) = true then
    gate (inR v8_183 (s0_174.length : Int)) (
      let t14_184 : List Int × Int × List Int × List Int × Bool × List Int × List Int := (getI ([], ((0 : Int), ([], ([], (false, ([], [])))))) s0_174 v8_183)
      if (decide (t14_184.2.2.1 = h0_178)) = true then
        kr (h0_176, h0_177, h0_178, h0_179, h0_180, h0_181, h0_182, v8_183, ())
      else
        again (h0_176, h0_177, h0_178, h0_179, h0_180, h0_181, h0_182, (IntKind.wrap .i64 (v8_183 + (1 : Int))), ())) s
  else
    k0 (h0_176, h0_177, h0_178, h0_179, h0_180, h0_181, h0_182, ())
def mail_Check.s0 {R : Type} (N : Nat) (s : R) (k0 : Unit → R) (kr : (Int × Unit) → R) (c162 : List (List Int × Int × List Int × List Int × Bool × List Int × List Int) × List (List Int × Int × List Int × List Int × Bool × List Int × List Int) × Int × Unit) (again : (Int × Unit) → R) (v163 : Int × Unit) : R :=
  let l0_164 : List (List Int × Int × List Int × List Int × Bool × List Int × List Int) := c162.1
  let v9_165 : List (List Int × Int × List Int × List Int × Bool × List Int × List Int) := c162.2.1
  let v10_166 : Int := c162.2.2.1
  let v11_167 : Int := v163.1
  if (decide (v11_167 < v10_166)) = true then
    gate (inR v11_167 (v9_165.length : Int)) (
      let t14_168 : List Int × Int × List Int × List Int × Bool × List Int × List Int := (getI ([], ((0 : Int), ([], ([], (false, ([], [])))))) v9_165 v11_167)
      bindO (mail_one N t14_168) (fun r17_169 =>
        if (!decide (r17_169 = (0 : Int))) = true then
          kr (r17_169, ())
        else
          gate (bounds (l0_164.length : Int) (0 : Int) v11_167) (
            let t7_170 : Int := ((cut l0_164 (0 : Int) v11_167).length : Int)
            iter (mail_Check_i0_slices_ContainsFunc_i0_slices_IndexFunc.s0 N s (fun (x185 : List Int × Int × List Int × List Int × Bool × List Int × List Int × Unit) =>
              let h0_186 : List Int := x185.1
              let h0_187 : Int := x185.2.1
              let h0_188 : List Int := x185.2.2.1
              let h0_189 : List Int := x185.2.2.2.1
              let h0_190 : Bool := x185.2.2.2.2.1
              let h0_191 : List Int := x185.2.2.2.2.2.1
              let h0_192 : List Int := x185.2.2.2.2.2.2.1
              if (decide ((-1 : Int) ≥ (0 : Int))) = true then
                kr ((7 : Int), ())
              else
                again ((IntKind.wrap .i64 (v11_167 + (1 : Int))), ())) (fun (x193 : List Int × Int × List Int × List Int × Bool × List Int × List Int × Int × Unit) =>
              let h0_194 : List Int := x193.1
              let h0_195 : Int := x193.2.1
              let h0_196 : List Int := x193.2.2.1
              let h0_197 : List Int := x193.2.2.2.1
              let h0_198 : Bool := x193.2.2.2.2.1
              let h0_199 : List Int := x193.2.2.2.2.2.1
              let h0_200 : List Int := x193.2.2.2.2.2.2.1
              let v4_201 : Int := x193.2.2.2.2.2.2.2.1
              if (decide (v4_201 ≥ (0 : Int))) = true then
                kr ((7 : Int), ())
              else
                again ((IntKind.wrap .i64 (v11_167 + (1 : Int))), ())) ((cut l0_164 (0 : Int) v11_167), t7_170, ())) s N (t14_168.1, t14_168.2.1, t14_168.2.2.1, t14_168.2.2.2.1, t14_168.2.2.2.2.1, t14_168.2.2.2.2.2.1, t14_168.2.2.2.2.2.2, (0 : Int), ())) s) s) s
  else
    k0 ()
def mail_Check (N : Nat) (l0 : List (List Int × Int × List Int × List Int × Bool × List Int × List Int)) : Option Int :=
  if (decide ((l0.length : Int) > (60 : Int))) = true then
    some (9 : Int)
  else
    iter (mail_Check.s0 N none (fun (x202 : Unit) =>
      some (0 : Int)) (fun (x203 : Int × Unit) =>
      let v2_204 : Int := x203.1
      some v2_204) (l0, l0, (l0.length : Int), ())) none N ((0 : Int), ())
def mail_Print.r0 {R : Type} (N : Nat) (s : R) (c359 : List (List Int × Int × List Int × List Int × Bool × List Int × List Int) × Int × Int × Unit) (x361 : List Int) (again : (List Int × Unit) → R) (v360 : List Int × Unit) : R :=
  let v14_362 : List (List Int × Int × List Int × List Int × Bool × List Int × List Int) := c359.1
  let v15_363 : Int := c359.2.1
  let v16_364 : Int := c359.2.2.1
  let m0_365 : List Int := v360.1
  gate (inR (0 : Int) (x361.length : Int)) (
    let t56_366 : Bool := (decide ((getI 0 x361 (0 : Int)) = (46 : Int)))
    if t56_366 = true then
      gate (roomFor (m0_365.length + [(46 : Int)].length) 1) (
        gate (roomFor ((m0_365 ++ [(46 : Int)]).length + x361.length) 1) (
          again (((m0_365 ++ [(46 : Int)]) ++ x361), ())) s) s
    else
      gate (roomFor (m0_365.length + x361.length) 1) (
        again ((m0_365 ++ x361), ())) s) s
def mail_Print.s0 {R : Type} (N : Nat) (s : R) (k0 : (List Int × Unit) → R) (kr : (List Int × Int × Unit) → R) (c328 : List (List Int × Int × List Int × List Int × Bool × List Int × List Int) × Int × Unit) (again : (Int × List Int × Unit) → R) (v329 : Int × List Int × Unit) : R :=
  let v14_330 : List (List Int × Int × List Int × List Int × Bool × List Int × List Int) := c328.1
  let v15_331 : Int := c328.2.1
  let v16_332 : Int := v329.1
  let m0_333 : List Int := v329.2.1
  if (decide (v16_332 < v15_331)) = true then
    gate (inR v16_332 (v14_330.length : Int)) (
      let t18_334 : List Int × Int × List Int × List Int × Bool × List Int × List Int := (getI ([], ((0 : Int), ([], ([], (false, ([], [])))))) v14_330 v16_332)
      gate (decide ([109, 97, 105, 108, 32].length + t18_334.2.2.1.length ≤ 140737488355328)) (
        gate (decide (([109, 97, 105, 108, 32] ++ t18_334.2.2.1).length + [32].length ≤ 140737488355328)) (
          let t23_335 : List Int := (([109, 97, 105, 108, 32] ++ t18_334.2.2.1) ++ [32])
          gate (decide (t23_335.length + t18_334.1.length ≤ 140737488355328)) (
            gate (decide ((t23_335 ++ t18_334.1).length + [32].length ≤ 140737488355328)) (
              bindO (itoaF t18_334.2.1) (fun r30_336 =>
                gate (decide (((t23_335 ++ t18_334.1) ++ [32]).length + r30_336.length ≤ 140737488355328)) (
                  let t31_337 : List Int := (((t23_335 ++ t18_334.1) ++ [32]) ++ r30_336)
                  gate (decide (t31_337.length + [10].length ≤ 140737488355328)) (
                    gate (roomFor (m0_333.length + (t31_337 ++ [10]).length) 1) (
                      bindO ((
                        if (!decide (t18_334.2.2.2.1 = [])) = true then
                          gate (decide ([114, 101, 102, 32].length + t18_334.2.2.2.1.length ≤ 140737488355328)) (
                            gate (decide (([114, 101, 102, 32] ++ t18_334.2.2.2.1).length + [10].length ≤ 140737488355328)) (
                              let t40_339 : List Int := (([114, 101, 102, 32] ++ t18_334.2.2.2.1) ++ [10])
                              gate (roomFor ((m0_333 ++ (t31_337 ++ [10])).length + t40_339.length) 1) (
                                some (((m0_333 ++ (t31_337 ++ [10])) ++ t40_339), t18_334.1, t18_334.2.1, t18_334.2.2.1, t18_334.2.2.2.1, t18_334.2.2.2.2.1, t18_334.2.2.2.2.2.1, t18_334.2.2.2.2.2.2, ())) none) none) none
                        else
                          some ((m0_333 ++ (t31_337 ++ [10])), t18_334.1, t18_334.2.1, t18_334.2.2.1, t18_334.2.2.2.1, t18_334.2.2.2.2.1, t18_334.2.2.2.2.2.1, t18_334.2.2.2.2.2.2, ()) : Option (List Int × List Int × Int × List Int × List Int × Bool × List Int × List Int × Unit))) (fun j340 =>
                        let m0_341 : List Int := j340.1
                        let m1_342 : List Int := j340.2.1
                        let m1_343 : Int := j340.2.2.1
                        let m1_344 : List Int := j340.2.2.2.1
                        let m1_345 : List Int := j340.2.2.2.2.1
                        let m1_346 : Bool := j340.2.2.2.2.2.1
                        let m1_347 : List Int := j340.2.2.2.2.2.2.1
                        let m1_348 : List Int := j340.2.2.2.2.2.2.2.1
                        bindO ((
                          if m1_346 = true then
                            gate (roomFor (m0_341.length + [103, 111, 110, 101, 10].length) 1) (
                              some ((m0_341 ++ [103, 111, 110, 101, 10]), m1_342, m1_343, m1_344, m1_345, m1_346, m1_347, m1_348, ())) none
                          else
                            some (m0_341, m1_342, m1_343, m1_344, m1_345, m1_346, m1_347, m1_348, ()) : Option (List Int × List Int × Int × List Int × List Int × Bool × List Int × List Int × Unit))) (fun j349 =>
                          let m0_350 : List Int := j349.1
                          let m1_351 : List Int := j349.2.1
                          let m1_352 : Int := j349.2.2.1
                          let m1_353 : List Int := j349.2.2.2.1
                          let m1_354 : List Int := j349.2.2.2.2.1
                          let m1_355 : Bool := j349.2.2.2.2.2.1
                          let m1_356 : List Int := j349.2.2.2.2.2.2.1
                          let m1_357 : List Int := j349.2.2.2.2.2.2.2.1
                          gate (decide ([97, 98, 111, 117, 116, 32].length + m1_356.length ≤ 140737488355328)) (
                            gate (decide (([97, 98, 111, 117, 116, 32] ++ m1_356).length + [10].length ≤ 140737488355328)) (
                              let t48_358 : List Int := (([97, 98, 111, 117, 116, 32] ++ m1_356) ++ [10])
                              gate (roomFor (m0_350.length + t48_358.length) 1) (
                                bindO (linesGo m1_357) (fun (l369 : List (List Int)) =>
                                  foldR (mail_Print.r0 N s  (v14_330, v15_331, v16_332, ())) (fun (x367 : List Int × Unit) =>
                                  let m0_368 : List Int := x367.1
                                  gate (roomFor (m0_368.length + [46, 10].length) 1) (
                                    let t62_370 : Bool := (decide (((m0_368 ++ [46, 10]).length : Int) > (65536 : Int)))
                                    if t62_370 = true then
                                      kr ([], (2 : Int), ())
                                    else
                                      again ((IntKind.wrap .i64 (v16_332 + (1 : Int))), (m0_368 ++ [46, 10]), ())) s) l369 ((m0_350 ++ t48_358), ())) s) s) s) s) s) s) s) s) s) s) s) s) s) s) s
  else
    k0 (m0_333, ())
def mail_Print (N : Nat) (l0 : List (List Int × Int × List Int × List Int × Bool × List Int × List Int)) : Option (List Int × Int) :=
  bindO (mail_Check N l0) (fun r10_269 =>
    if (!decide (r10_269 = (0 : Int))) = true then
      some ([], r10_269)
    else
      iter (mail_Print.s0 N none (fun (x371 : List Int × Unit) =>
        let m0_372 : List Int := x371.1
        some (m0_372, (0 : Int))) (fun (x373 : List Int × Int × Unit) =>
        let v2_374 : List Int := x373.1
        let v3_375 : Int := x373.2.1
        some (v2_374, v3_375)) (l0, (l0.length : Int), ())) none N ((0 : Int), [], ())) none
def strings_Contains (N : Nat) (s0 : List Int) (substr1 : List Int) : Option Bool :=
  bindO (indexF s0 substr1) (fun r7_379 =>
    some (decide (r7_379 ≥ (0 : Int)))) none
def wrackref2_Word (N : Nat) (s0 : List Int) : Option Bool :=
  bindO (
    if (decide ((s0.length : Int) > (0 : Int))) = true then
      if (decide ((s0.length : Int) ≤ (12 : Int))) = true then
        gate (bounds (s0.length : Int) (0 : Int) (1 : Int)) (
          bindO (strings_Contains N [97, 98, 99, 100, 101, 102, 103, 104, 105, 106, 107, 108, 109, 110, 111, 112, 113, 114, 115, 116, 117, 118, 119, 120, 121, 122] (cut s0 (0 : Int) (1 : Int))) (fun r14_387 =>
            if r14_387 = true then
              bindO (trimF s0 [97, 98, 99, 100, 101, 102, 103, 104, 105, 106, 107, 108, 109, 110, 111, 112, 113, 114, 115, 116, 117, 118, 119, 120, 121, 122, 48, 49, 50, 51, 52, 53, 54, 55, 56, 57, 45]) (fun r18_388 =>
                some (decide (r18_388 = []))) none
            else
              some false) none) none
      else
        some false
    else
      some false) (fun (c2_389 : Bool) =>
    some c2_389) none
def wrackref2_MailErr_1.s0 {R : Type} (N : Nat) (s : R) (k0 : Unit → R) (kr : (Bool × Unit) → R) (c403 : List Int × Int × Unit) (again : (Int × Unit) → R) (v404 : Int × Unit) : R :=
  let s0_405 : List Int := c403.1
  let v5_406 : Int := c403.2.1
  let v6_407 : Int := v404.1
  if (decide (v6_407 < v5_406)) = true then
    bindO (
      gate (inR v6_407 (s0_405.length : Int)) (
        let t12_410 : Bool := (decide ((getI 0 s0_405 v6_407) < (32 : Int)))
        if t12_410 = true then
          some true
        else
          gate (inR v6_407 (s0_405.length : Int)) (
            let t17_411 : Bool := (decide ((getI 0 s0_405 v6_407) > (126 : Int)))
            some t17_411) none) none) (fun (c18_412 : Bool) =>
      if c18_412 = true then
        kr (false, ())
      else
        again ((IntKind.wrap .i64 (v6_407 + (1 : Int))), ())) s
  else
    k0 ()
def wrackref2_MailErr_1 (N : Nat) (s0 : List Int) : Option Bool :=
  iter (wrackref2_MailErr_1.s0 N none (fun (x413 : Unit) =>
    some true) (fun (x414 : Bool × Unit) =>
    let v2_415 : Bool := x414.1
    some v2_415) (s0, (s0.length : Int), ())) none N ((0 : Int), ())
def strings_Split (N : Nat) (s0 : List Int) (sep1 : List Int) : Option (List (List Int)) :=
  bindO (genSplitF s0 sep1 (0 : Int) (-1 : Int)) (fun r7_502 =>
    some r7_502) none
def wrackref2_MailErr.s1 {R : Type} (N : Nat) (s : R) (k3 : (List (List Int × Bool) × List Int × Int × List Int × List Int × Bool × List Int × List Int × Unit) → R) (kr : (Int × Unit) → R) (c766 : List (List Int × Int × List Int × List Int × Bool × List Int × List Int) × Int × Int × Int × Unit) (again : (List (List Int × Bool) × List (List Int) × Int × List Int × Int × List Int × List Int × Bool × List Int × List Int × Unit) → R) (v767 : List (List Int × Bool) × List (List Int) × Int × List Int × Int × List Int × List Int × Bool × List Int × List Int × Unit) : R :=
  let v13_768 : List (List Int × Int × List Int × List Int × Bool × List Int × List Int) := c766.1
  let v14_769 : Int := c766.2.1
  let v15_770 : Int := c766.2.2.1
  let v72_771 : Int := c766.2.2.2.1
  let seen3_772 : List (List Int × Bool) := v767.1
  let v71_773 : List (List Int) := v767.2.1
  let v73_774 : Int := v767.2.2.1
  let m1_775 : List Int := v767.2.2.2.1
  let m1_776 : Int := v767.2.2.2.2.1
  let m1_777 : List Int := v767.2.2.2.2.2.1
  let m1_778 : List Int := v767.2.2.2.2.2.2.1
  let m1_779 : Bool := v767.2.2.2.2.2.2.2.1
  let m1_780 : List Int := v767.2.2.2.2.2.2.2.2.1
  let m1_781 : List Int := v767.2.2.2.2.2.2.2.2.2.1
  if (decide (v73_774 < v72_771)) = true then
    gate (inR v73_774 (v71_773.length : Int)) (
      gate (inR v73_774 (v71_773.length : Int)) (
        bindO (wrackref2_MailErr_1 N (getI [] v71_773 v73_774)) (fun r79_782 =>
          if (!r79_782) = true then
            kr ((3 : Int), ())
          else
            again (seen3_772, v71_773, (IntKind.wrap .i64 (v73_774 + (1 : Int))), m1_775, m1_776, m1_777, m1_778, m1_779, m1_780, m1_781, ())) s) s) s
  else
    k3 (seen3_772, m1_775, m1_776, m1_777, m1_778, m1_779, m1_780, m1_781, ())
def wrackref2_MailErr.s0 {R : Type} (N : Nat) (s : R) (k0 : Unit → R) (kr : (Int × Unit) → R) (c652 : List (List Int × Int × List Int × List Int × Bool × List Int × List Int) × Int × Unit) (again : (List (List Int × Bool) × Int × Unit) → R) (v653 : List (List Int × Bool) × Int × Unit) : R :=
  let v13_654 : List (List Int × Int × List Int × List Int × Bool × List Int × List Int) := c652.1
  let v14_655 : Int := c652.2.1
  let seen3_656 : List (List Int × Bool) := v653.1
  let v15_657 : Int := v653.2.1
  if (decide (v15_657 < v14_655)) = true then
    gate (inR v15_657 (v13_654.length : Int)) (
      let t17_658 : List Int × Int × List Int × List Int × Bool × List Int × List Int := (getI ([], ((0 : Int), ([], ([], (false, ([], [])))))) v13_654 v15_657)
      bindO (
        bindO (wrackref2_Word N t17_658.1) (fun r22_662 =>
          if (!r22_662) = true then
            some true
          else
            bindO (wrackref2_Word N t17_658.2.2.1) (fun r27_663 =>
              if (!r27_663) = true then
                some true
              else
                if (!decide (t17_658.2.2.2.1 = [])) = true then
                  bindO (wrackref2_Word N t17_658.2.2.2.1) (fun r37_664 =>
                    some (!r37_664)) none
                else
                  some false) none) none) (fun (c19_665 : Bool) =>
        if c19_665 = true then
          kr ((6 : Int), ())
        else
          bindO (
            if (decide (t17_658.2.1 < (0 : Int))) = true then
              some true
            else
              some (decide (t17_658.2.1 ≥ (4294967296 : Int)))) (fun (c41_709 : Bool) =>
            if c41_709 = true then
              kr ((21 : Int), ())
            else
              bindO (wrackref2_MailErr_1 N t17_658.2.2.2.2.2.1) (fun r54_731 =>
                bindO ((
                  if (!r54_731) = true then
                    some (seen3_656, (!r54_731), t17_658.1, t17_658.2.1, t17_658.2.2.1, t17_658.2.2.2.1, t17_658.2.2.2.2.1, t17_658.2.2.2.2.2.1, t17_658.2.2.2.2.2.2, ())
                  else
                    bindO (
                      if (!decide (t17_658.2.2.2.2.2.2 = [])) = true then
                        let t65_739 : Int := (IntKind.wrap .i64 ((t17_658.2.2.2.2.2.2.length : Int) - (1 : Int)))
                        gate (inR t65_739 (t17_658.2.2.2.2.2.2.length : Int)) (
                          let t67_740 : Bool := (!decide ((getI 0 t17_658.2.2.2.2.2.2 t65_739) = (10 : Int)))
                          some t67_740) none
                      else
                        some false) (fun (c50_741 : Bool) =>
                      some (seen3_656, c50_741, t17_658.1, t17_658.2.1, t17_658.2.2.1, t17_658.2.2.2.1, t17_658.2.2.2.2.1, t17_658.2.2.2.2.2.1, t17_658.2.2.2.2.2.2, ())) none : Option (List (List Int × Bool) × Bool × List Int × Int × List Int × List Int × Bool × List Int × List Int × Unit))) (fun j742 =>
                  let seen3_743 : List (List Int × Bool) := j742.1
                  let v50_744 : Bool := j742.2.1
                  let m1_745 : List Int := j742.2.2.1
                  let m1_746 : Int := j742.2.2.2.1
                  let m1_747 : List Int := j742.2.2.2.2.1
                  let m1_748 : List Int := j742.2.2.2.2.2.1
                  let m1_749 : Bool := j742.2.2.2.2.2.2.1
                  let m1_750 : List Int := j742.2.2.2.2.2.2.2.1
                  let m1_751 : List Int := j742.2.2.2.2.2.2.2.2.1
                  if v50_744 = true then
                    kr ((3 : Int), ())
                  else
                    bindO (strings_Split N m1_751 [10]) (fun r71_752 =>
                      iter (wrackref2_MailErr.s1 N s (fun (x783 : List (List Int × Bool) × List Int × Int × List Int × List Int × Bool × List Int × List Int × Unit) =>
                        let seen3_784 : List (List Int × Bool) := x783.1
                        let m1_785 : List Int := x783.2.1
                        let m1_786 : Int := x783.2.2.1
                        let m1_787 : List Int := x783.2.2.2.1
                        let m1_788 : List Int := x783.2.2.2.2.1
                        let m1_789 : Bool := x783.2.2.2.2.2.1
                        let m1_790 : List Int := x783.2.2.2.2.2.2.1
                        let m1_791 : List Int := x783.2.2.2.2.2.2.2.1
                        let t85_792 : Bool := ((mapGet (k := .str) (v := .bool) seen3_784 m1_787).getD false)
                        if t85_792 = true then
                          kr ((7 : Int), ())
                        else
                          again ((mapPut (k := .str) (v := .bool) seen3_784 m1_787 true), (IntKind.wrap .i64 (v15_657 + (1 : Int))), ())) (fun (x793 : Int × Unit) =>
                        let v2_794 : Int := x793.1
                        kr (v2_794, ())) (v13_654, v14_655, v15_657, (r71_752.length : Int), ())) s N (seen3_743, r71_752, (0 : Int), m1_745, m1_746, m1_747, m1_748, m1_749, m1_750, m1_751, ())) s) s) s) s) s) s
  else
    k0 ()
def wrackref2_MailErr (N : Nat) (l0 : List (List Int × Int × List Int × List Int × Bool × List Int × List Int)) : Option Int :=
  if (decide ((l0.length : Int) > (60 : Int))) = true then
    some (9 : Int)
  else
    iter (wrackref2_MailErr.s0 N none (fun (x795 : Unit) =>
      some (0 : Int)) (fun (x796 : Int × Unit) =>
      let v2_797 : Int := x796.1
      some v2_797) (l0, (l0.length : Int), ())) none N (([] : List (List Int × Bool)), (0 : Int), ())
def wracklaw2_mails (N : Nat) : Option Bool :=
  let b5_804 : List (List Int × Int × List Int × List Int × Bool × List Int × List Int) := [([97], ((5 : Int), ([98], ([], (false, ([], []))))))]
  bindO (mail_Print N b5_804) (fun r6_805 =>
    bindO (
      if (decide (r6_805.2 = (0 : Int))) = true then
        let t13_807 : Bool := (decide (r6_805.1 = [109, 97, 105, 108, 32, 98, 32, 97, 32, 53, 10, 97, 98, 111, 117, 116, 32, 10, 46, 10]))
        some t13_807
      else
        some false) (fun (c0_808 : Bool) =>
      some c0_808) none) none
def stringslite_HasPrefix (N : Nat) (s0 : List Int) (prefix1 : List Int) : Option Bool :=
  bindO (
    let t9_848 : Bool := (decide ((s0.length : Int) ≥ (prefix1.length : Int)))
    if t9_848 = true then
      gate (bounds (s0.length : Int) (0 : Int) (prefix1.length : Int)) (
        let t16_849 : Bool := (decide ((cut s0 (0 : Int) (prefix1.length : Int)) = prefix1))
        some t16_849) none
    else
      some false) (fun (c4_850 : Bool) =>
    some c4_850) none
def strings_HasPrefix (N : Nat) (s0 : List Int) (prefix1 : List Int) : Option Bool :=
  bindO (stringslite_HasPrefix N s0 prefix1) (fun r7_852 =>
    some r7_852) none
def wrackref2_MailText.s0 {R : Type} (N : Nat) (s : R) (k0 : (List (List Int) × Unit) → R) (c892 : Int × Unit) (again : (List (List Int) × List (List Int) × Int × Unit) → R) (v893 : List (List Int) × List (List Int) × Int × Unit) : R :=
  let v45_894 : Int := c892.1
  let l3_895 : List (List Int) := v893.1
  let v44_896 : List (List Int) := v893.2.1
  let v46_897 : Int := v893.2.2.1
  if (decide (v46_897 < v45_894)) = true then
    gate (inR v46_897 (v44_896.length : Int)) (
      gate (inR v46_897 (v44_896.length : Int)) (
        bindO (strings_HasPrefix N (getI [] v44_896 v46_897) [46]) (fun r51_898 =>
          bindO ((
            if r51_898 = true then
              gate (decide ([46].length + (getI [] v44_896 v46_897).length ≤ 140737488355328)) (
                some (l3_895, ([46] ++ (getI [] v44_896 v46_897)), v44_896, ())) none
            else
              some (l3_895, (getI [] v44_896 v46_897), v44_896, ()) : Option (List (List Int) × List Int × List (List Int) × Unit))) (fun j899 =>
            let l3_900 : List (List Int) := j899.1
            let s6_901 : List Int := j899.2.1
            let v44_902 : List (List Int) := j899.2.2.1
            gate (roomFor (l3_900.length + [s6_901].length) 16) (
              again ((l3_900 ++ [s6_901]), v44_902, (IntKind.wrap .i64 (v46_897 + (1 : Int))), ())) s) s) s) s) s
  else
    k0 (l3_895, ())
def wrackref2_MailText (N : Nat) (m0 : List Int × Int × List Int × List Int × Bool × List Int × List Int) : Option (List Int) :=
  bindO (itoaF m0.2.1) (fun r13_861 =>
    let b14_862 : List (List Int) := [[109, 97, 105, 108], m0.2.2.1, m0.1, r13_861]
    bindO (joinF b14_862 [32]) (fun r15_863 =>
      bindO ((
        if (!decide (m0.2.2.2.1 = [])) = true then
          gate (decide ([114, 101, 102, 32].length + m0.2.2.2.1.length ≤ 140737488355328)) (
            gate (roomFor ([r15_863].length + [([114, 101, 102, 32] ++ m0.2.2.2.1)].length) 16) (
              let b25_865 : List (List Int) := ([r15_863] ++ [([114, 101, 102, 32] ++ m0.2.2.2.1)])
              some (b25_865, m0.1, m0.2.1, m0.2.2.1, m0.2.2.2.1, m0.2.2.2.2.1, m0.2.2.2.2.2.1, m0.2.2.2.2.2.2, ())) none) none
        else
          some ([r15_863], m0.1, m0.2.1, m0.2.2.1, m0.2.2.2.1, m0.2.2.2.2.1, m0.2.2.2.2.2.1, m0.2.2.2.2.2.2, ()) : Option (List (List Int) × List Int × Int × List Int × List Int × Bool × List Int × List Int × Unit))) (fun j866 =>
        let l3_867 : List (List Int) := j866.1
        let m0_868 : List Int := j866.2.1
        let m0_869 : Int := j866.2.2.1
        let m0_870 : List Int := j866.2.2.2.1
        let m0_871 : List Int := j866.2.2.2.2.1
        let m0_872 : Bool := j866.2.2.2.2.2.1
        let m0_873 : List Int := j866.2.2.2.2.2.2.1
        let m0_874 : List Int := j866.2.2.2.2.2.2.2.1
        bindO ((
          if m0_872 = true then
            gate (roomFor (l3_867.length + [[103, 111, 110, 101]].length) 16) (
              some ((l3_867 ++ [[103, 111, 110, 101]]), m0_868, m0_869, m0_870, m0_871, m0_872, m0_873, m0_874, ())) none
          else
            some (l3_867, m0_868, m0_869, m0_870, m0_871, m0_872, m0_873, m0_874, ()) : Option (List (List Int) × List Int × Int × List Int × List Int × Bool × List Int × List Int × Unit))) (fun j875 =>
          let l3_876 : List (List Int) := j875.1
          let m0_877 : List Int := j875.2.1
          let m0_878 : Int := j875.2.2.1
          let m0_879 : List Int := j875.2.2.2.1
          let m0_880 : List Int := j875.2.2.2.2.1
          let m0_881 : Bool := j875.2.2.2.2.2.1
          let m0_882 : List Int := j875.2.2.2.2.2.2.1
          let m0_883 : List Int := j875.2.2.2.2.2.2.2.1
          gate (decide ([97, 98, 111, 117, 116, 32].length + m0_882.length ≤ 140737488355328)) (
            gate (roomFor (l3_876.length + [([97, 98, 111, 117, 116, 32] ++ m0_882)].length) 16) (
              let b36_884 : List (List Int) := (l3_876 ++ [([97, 98, 111, 117, 116, 32] ++ m0_882)])
              bindO (strings_Split N m0_883 [10]) (fun r39_885 =>
                let t43_886 : Int := (IntKind.wrap .i64 ((r39_885.length : Int) - (1 : Int)))
                gate (bounds (r39_885.length : Int) (0 : Int) t43_886) (
                  iter (wrackref2_MailText.s0 N none (fun (x903 : List (List Int) × Unit) =>
                    let l3_904 : List (List Int) := x903.1
                    gate (roomFor (l3_904.length + [[46], []].length) 16) (
                      bindO (joinF (l3_904 ++ [[46], []]) [10]) (fun r62_905 =>
                        some r62_905) none) none) ((t43_886 - (0 : Int)), ())) none N (b36_884, (cut r39_885 (0 : Int) t43_886), (0 : Int), ())) none) none) none) none) none) none) none) none
def wracklaw2_MailPrints.s0 {R : Type} (N : Nat) (s : R) (k0 : (List Int × Unit) → R) (c931 : List Int × Int × Int × List (List Int × Int × List Int × List Int × Bool × List Int × List Int) × Int × Unit) (again : (List Int × Int × Unit) → R) (v932 : List Int × Int × Unit) : R :=
  let s3_933 : List Int := c931.1
  let e4_934 : Int := c931.2.1
  let bad5_935 : Int := c931.2.2.1
  let v24_936 : List (List Int × Int × List Int × List Int × Bool × List Int × List Int) := c931.2.2.2.1
  let v25_937 : Int := c931.2.2.2.2.1
  let want6_938 : List Int := v932.1
  let v26_939 : Int := v932.2.1
  if (decide (v26_939 < v25_937)) = true then
    gate (inR v26_939 (v24_936.length : Int)) (
      let t28_940 : List Int × Int × List Int × List Int × Bool × List Int × List Int := (getI ([], ((0 : Int), ([], ([], (false, ([], [])))))) v24_936 v26_939)
      if (decide (bad5_935 = (0 : Int))) = true then
        bindO (wrackref2_MailText N t28_940) (fun r34_941 =>
          gate (decide (want6_938.length + r34_941.length ≤ 140737488355328)) (
            again ((want6_938 ++ r34_941), (IntKind.wrap .i64 (v26_939 + (1 : Int))), ())) s) s
      else
        again (want6_938, (IntKind.wrap .i64 (v26_939 + (1 : Int))), ())) s
  else
    k0 (want6_938, ())
def wracklaw2_MailPrints (N : Nat) (l0 : List (List Int × Int × List Int × List Int × Bool × List Int × List Int)) : Option Bool :=
  bindO (mail_Print N l0) (fun r11_918 =>
    bindO (wrackref2_MailErr N l0) (fun r15_919 =>
      bindO (
        bindO (wracklaw2_mails N) (fun r16_922 =>
          if (!r16_922) = true then
            some true
          else
            bindO (mail_Check N l0) (fun r20_923 =>
              some (!decide (r20_923 = r15_919))) none) none) (fun (c23_924 : Bool) =>
        if c23_924 = true then
          some false
        else
          iter (wracklaw2_MailPrints.s0 N none (fun (x942 : List Int × Unit) =>
            let want6_943 : List Int := x942.1
            let t39_944 : Bool := (decide ((want6_943.length : Int) > (65536 : Int)))
            bindO ((
              if t39_944 = true then
                some ((2 : Int), [], ())
              else
                some (r15_919, want6_943, ()) : Option (Int × List Int × Unit))) (fun j945 =>
              let bad5_946 : Int := j945.1
              let want6_947 : List Int := j945.2.1
              bindO (
                if (decide (r11_918.2 = bad5_946)) = true then
                  some (decide (r11_918.1 = want6_947))
                else
                  some false) (fun (c2_948 : Bool) =>
                some c2_948) none) none) (r11_918.1, r11_918.2, r15_919, l0, (l0.length : Int), ())) none N ([], (0 : Int), ())) none) none) none
end Go.Proofs.YtnklmlnkiepdiaaDoor
