import Derived.Test.YtnklmlnkiepdiaaDoorAbIterFn
import Derived.Test.YtnklmlnkiepdiaaDoorAbStrFn
import Derived.Test.YtnklmlnkiepdiaaDoorAbItoaFn
import Derived.Test.YtnklmlnkiepdiaaDoorAbDen
set_option linter.unusedVariables false
namespace Go.Proofs.YtnklmlnkiepdiaaDoor
open Go Go.Ab
def wrackmake_Below (N : Nat) (x0 : Int) (n1 : Int) : Option Int :=
  gate (decide (n1 ≠ 0)) (
    if (decide ((Int.tmod x0 n1) < (0 : Int))) = true then
      some (IntKind.wrap .i64 ((Int.tmod x0 n1) + n1))
    else
      some (Int.tmod x0 n1)) none
def wrackmake_Stream_Next (N : Nat) (s0 : List Int × Unit) (n1 : Int) : Option (Int × (List Int × Unit)) :=
  bindO (
    if (decide ((s0.1.length : Int) = (0 : Int))) = true then
      some true
    else
      some (decide (n1 < (1 : Int)))) (fun (c15_3 : Bool) =>
    if c15_3 = true then
      some ((0 : Int), (s0.1, ()))
    else
      gate (inR (0 : Int) (s0.1.length : Int)) (
        gate (bounds (s0.1.length : Int) (1 : Int) (s0.1.length : Int)) (
          bindO (wrackmake_Below N (getI (0 : Int) s0.1 (0 : Int)) n1) (fun r32_4 =>
            some (r32_4, ((cut s0.1 (1 : Int) (s0.1.length : Int)), ()))) none) none) none) none
def wrackkeep2_messages.s1 {R : Type} (N : Nat) (s : R) (k2 : (List (List Int × Int × List Int × List Int × Bool × List Int × List Int) × List Int × List Int × Int × List Int × List Int × Bool × List Int × List Int × Unit) → R) (c334 : Int × Int × Int × Unit) (again : (List (List Int × Int × List Int × List Int × Bool × List Int × List Int) × Int × List Int × List Int × Int × List Int × List Int × Bool × List Int × List Int × Unit) → R) (v335 : List (List Int × Int × List Int × List Int × Bool × List Int × List Int) × Int × List Int × List Int × Int × List Int × List Int × Bool × List Int × List Int × Unit) : R :=
  let v11_336 : Int := c334.1
  let v12_337 : Int := c334.2.1
  let v52_338 : Int := c334.2.2.1
  let out4_339 : List (List Int × Int × List Int × List Int × Bool × List Int × List Int) := v335.1
  let v53_340 : Int := v335.2.1
  let m0_341 : List Int := v335.2.2.1
  let m2_342 : List Int := v335.2.2.2.1
  let m2_343 : Int := v335.2.2.2.2.1
  let m2_344 : List Int := v335.2.2.2.2.2.1
  let m2_345 : List Int := v335.2.2.2.2.2.2.1
  let m2_346 : Bool := v335.2.2.2.2.2.2.2.1
  let m2_347 : List Int := v335.2.2.2.2.2.2.2.2.1
  let m2_348 : List Int := v335.2.2.2.2.2.2.2.2.2.1
  if (decide (v53_340 < v52_338)) = true then
    let b57_349 : List (List Int) := [[108, 105, 110, 101], [46], [46, 46, 120], [], [109, 97, 105, 108, 32, 97, 32, 98, 32, 53], [97, 98, 111, 117, 116, 32, 121]]
    bindO (wrackmake_Stream_Next N (m0_341, ()) (6 : Int)) (fun r59_350 =>
      gate (inR r59_350.1 (b57_349.length : Int)) (
        gate (inR r59_350.1 (b57_349.length : Int)) (
          gate (decide ((getI [] b57_349 r59_350.1).length + [10].length ≤ 140737488355328)) (
            gate (decide (m2_348.length + ((getI [] b57_349 r59_350.1) ++ [10]).length ≤ 140737488355328)) (
              let t63_351 : List Int := (m2_348 ++ ((getI [] b57_349 r59_350.1) ++ [10]))
              again (out4_339, (IntKind.wrap .i64 (v53_340 + (1 : Int))), r59_350.2.1, m2_342, m2_343, m2_344, m2_345, m2_346, m2_347, t63_351, ())) s) s) s) s) s
  else
    k2 (out4_339, m0_341, m2_342, m2_343, m2_344, m2_345, m2_346, m2_347, m2_348, ())
def wrackkeep2_messages.s0 {R : Type} (N : Nat) (s : R) (k0 : (List (List Int × Int × List Int × List Int × Bool × List Int × List Int) × Unit) → R) (c288 : Int × Unit) (again : (List (List Int × Int × List Int × List Int × Bool × List Int × List Int) × Int × List Int × Unit) → R) (v289 : List (List Int × Int × List Int × List Int × Bool × List Int × List Int) × Int × List Int × Unit) : R :=
  let v11_290 : Int := c288.1
  let out4_291 : List (List Int × Int × List Int × List Int × Bool × List Int × List Int) := v289.1
  let v12_292 : Int := v289.2.1
  let m0_293 : List Int := v289.2.2.1
  if (decide (v12_292 < v11_290)) = true then
    bindO (wrackmake_Stream_Next N (m0_293, ()) (2 : Int)) (fun r17_294 =>
      gate (inR r17_294.1 ([[97, 110, 110], [98, 111, 98]].length : Int)) (
        gate (inR r17_294.1 ([[97, 110, 110], [98, 111, 98]].length : Int)) (
          let t19_295 : List Int := (getI [] [[97, 110, 110], [98, 111, 98]] r17_294.1)
          bindO (wrackmake_Stream_Next N (r17_294.2.1, ()) (1000 : Int)) (fun r21_296 =>
            let t24_297 : Int := (IntKind.wrap .i32 ((IntKind.wrap .i64 ((97 : Int) + v12_292))))
            gate (decide (0 ≤ t24_297 ∧ t24_297 < 128)) (
              gate (decide ([109].length + [t24_297].length ≤ 140737488355328)) (
                bindO (wrackmake_Stream_Next N (r21_296.2.1, ()) (3 : Int)) (fun r28_298 =>
                  bindO (wrackmake_Stream_Next N (r28_298.2.1, ()) (3 : Int)) (fun r32_299 =>
                    gate (inR r32_299.1 ([[], [120], [114, 101, 58, 32, 120]].length : Int)) (
                      gate (inR r32_299.1 ([[], [120], [114, 101, 58, 32, 120]].length : Int)) (
                        let t34_300 : List Int := (getI [] [[], [120], [114, 101, 58, 32, 120]] r32_299.1)
                        if (decide (v12_292 > (0 : Int))) = true then
                          bindO (wrackmake_Stream_Next N (r32_299.2.1, ()) (2 : Int)) (fun r40_302 =>
                            bindO ((
                              if (decide (r40_302.1 = (0 : Int))) = true then
                                bindO (wrackmake_Stream_Next N (r40_302.2.1, ()) v12_292) (fun r45_305 =>
                                  let t47_306 : Int := (IntKind.wrap .i32 ((IntKind.wrap .i64 ((97 : Int) + r45_305.1))))
                                  gate (decide (0 ≤ t47_306 ∧ t47_306 < 128)) (
                                    gate (decide ([109].length + [t47_306].length ≤ 140737488355328)) (
                                      some (out4_291, r45_305.2.1, t19_295, r21_296.1, ([109] ++ [t24_297]), ([109] ++ [t47_306]), (decide (r28_298.1 = (0 : Int))), t34_300, [], ())) none) none) none
                              else
                                some (out4_291, r40_302.2.1, t19_295, r21_296.1, ([109] ++ [t24_297]), [], (decide (r28_298.1 = (0 : Int))), t34_300, [], ()) : Option (List (List Int × Int × List Int × List Int × Bool × List Int × List Int) × List Int × List Int × Int × List Int × List Int × Bool × List Int × List Int × Unit))) (fun j307 =>
                              let out4_308 : List (List Int × Int × List Int × List Int × Bool × List Int × List Int) := j307.1
                              let m0_309 : List Int := j307.2.1
                              let m2_310 : List Int := j307.2.2.1
                              let m2_311 : Int := j307.2.2.2.1
                              let m2_312 : List Int := j307.2.2.2.2.1
                              let m2_313 : List Int := j307.2.2.2.2.2.1
                              let m2_314 : Bool := j307.2.2.2.2.2.2.1
                              let m2_315 : List Int := j307.2.2.2.2.2.2.2.1
                              let m2_316 : List Int := j307.2.2.2.2.2.2.2.2.1
                              bindO (wrackmake_Stream_Next N (m0_309, ()) (4 : Int)) (fun r52_317 =>
                                iter (wrackkeep2_messages.s1 N s (fun (x352 : List (List Int × Int × List Int × List Int × Bool × List Int × List Int) × List Int × List Int × Int × List Int × List Int × Bool × List Int × List Int × Unit) =>
                                  let out4_353 : List (List Int × Int × List Int × List Int × Bool × List Int × List Int) := x352.1
                                  let m0_354 : List Int := x352.2.1
                                  let m2_355 : List Int := x352.2.2.1
                                  let m2_356 : Int := x352.2.2.2.1
                                  let m2_357 : List Int := x352.2.2.2.2.1
                                  let m2_358 : List Int := x352.2.2.2.2.2.1
                                  let m2_359 : Bool := x352.2.2.2.2.2.2.1
                                  let m2_360 : List Int := x352.2.2.2.2.2.2.2.1
                                  let m2_361 : List Int := x352.2.2.2.2.2.2.2.2.1
                                  let b68_362 : List (List Int × Int × List Int × List Int × Bool × List Int × List Int) := [(m2_355, (m2_356, (m2_357, (m2_358, (m2_359, (m2_360, m2_361))))))]
                                  gate (roomFor (out4_353.length + b68_362.length) 96) (
                                    again ((out4_353 ++ b68_362), (IntKind.wrap .i64 (v12_292 + (1 : Int))), m0_354, ())) s) (v11_290, v12_292, r52_317.1, ())) s N (out4_308, (0 : Int), r52_317.2.1, m2_310, m2_311, m2_312, m2_313, m2_314, m2_315, m2_316, ())) s) s) s
                        else
                          bindO (wrackmake_Stream_Next N (r32_299.2.1, ()) (4 : Int)) (fun r52_363 =>
                            iter (wrackkeep2_messages.s1 N s (fun (x374 : List (List Int × Int × List Int × List Int × Bool × List Int × List Int) × List Int × List Int × Int × List Int × List Int × Bool × List Int × List Int × Unit) =>
                              let out4_375 : List (List Int × Int × List Int × List Int × Bool × List Int × List Int) := x374.1
                              let m0_376 : List Int := x374.2.1
                              let m2_377 : List Int := x374.2.2.1
                              let m2_378 : Int := x374.2.2.2.1
                              let m2_379 : List Int := x374.2.2.2.2.1
                              let m2_380 : List Int := x374.2.2.2.2.2.1
                              let m2_381 : Bool := x374.2.2.2.2.2.2.1
                              let m2_382 : List Int := x374.2.2.2.2.2.2.2.1
                              let m2_383 : List Int := x374.2.2.2.2.2.2.2.2.1
                              let b68_384 : List (List Int × Int × List Int × List Int × Bool × List Int × List Int) := [(m2_377, (m2_378, (m2_379, (m2_380, (m2_381, (m2_382, m2_383))))))]
                              gate (roomFor (out4_375.length + b68_384.length) 96) (
                                again ((out4_375 ++ b68_384), (IntKind.wrap .i64 (v12_292 + (1 : Int))), m0_376, ())) s) (v11_290, v12_292, r52_363.1, ())) s N (out4_291, (0 : Int), r52_363.2.1, t19_295, r21_296.1, ([109] ++ [t24_297]), [], (decide (r28_298.1 = (0 : Int))), t34_300, [], ())) s) s) s) s) s) s) s) s) s) s) s
  else
    k0 (out4_291, ())
def wrackkeep2_messages (N : Nat) (l0 : List Int) : Option (List (List Int × Int × List Int × List Int × Bool × List Int × List Int)) :=
  bindO (wrackmake_Stream_Next N (l0, ()) (7 : Int)) (fun r11_146 =>
    iter (wrackkeep2_messages.s0 N none (fun (x385 : List (List Int × Int × List Int × List Int × Bool × List Int × List Int) × Unit) =>
      let out4_386 : List (List Int × Int × List Int × List Int × Bool × List Int × List Int) := x385.1
      some out4_386) (r11_146.1, ())) none N ([], (0 : Int), r11_146.2.1, ())) none
def fs_Named.s0 {R : Type} (N : Nat) (s : R) (k0 : Unit → R) (kr : (Bool × Unit) → R) (c404 : List Int × Int × Unit) (again : (Int × Unit) → R) (v405 : Int × Unit) : R :=
  let s0_406 : List Int := c404.1
  let v23_407 : Int := c404.2.1
  let v24_408 : Int := v405.1
  if (decide (v24_408 < v23_407)) = true then
    gate (inR v24_408 (s0_406.length : Int)) (
      bindO (
        let t31_419 : Bool := (decide ((getI 0 s0_406 v24_408) < (97 : Int)))
        if t31_419 = true then
          let t38_420 : Bool := (decide ((getI 0 s0_406 v24_408) < (48 : Int)))
          if t38_420 = true then
            let t46_421 : Bool := (!decide ((getI 0 s0_406 v24_408) = (45 : Int)))
            some t46_421
          else
            let t41_422 : Bool := (decide ((getI 0 s0_406 v24_408) > (57 : Int)))
            if t41_422 = true then
              let t46_423 : Bool := (!decide ((getI 0 s0_406 v24_408) = (45 : Int)))
              some t46_423
            else
              some false
        else
          let t34_424 : Bool := (decide ((getI 0 s0_406 v24_408) > (122 : Int)))
          if t34_424 = true then
            let t38_425 : Bool := (decide ((getI 0 s0_406 v24_408) < (48 : Int)))
            if t38_425 = true then
              let t46_426 : Bool := (!decide ((getI 0 s0_406 v24_408) = (45 : Int)))
              some t46_426
            else
              let t41_427 : Bool := (decide ((getI 0 s0_406 v24_408) > (57 : Int)))
              if t41_427 = true then
                let t46_428 : Bool := (!decide ((getI 0 s0_406 v24_408) = (45 : Int)))
                some t46_428
              else
                some false
          else
            some false) (fun (c47_429 : Bool) =>
        if c47_429 = true then
          kr (false, ())
        else
          again ((IntKind.wrap .i64 (v24_408 + (1 : Int))), ())) s) s
  else
    k0 ()
def fs_Named (N : Nat) (s0 : List Int) : Option Bool :=
  bindO (
    if (decide (s0 = [])) = true then
      some true
    else
      if (decide ((s0.length : Int) > (12 : Int))) = true then
        some true
      else
        gate (inR (0 : Int) (s0.length : Int)) (
          let t15_400 : Bool := (decide ((getI 0 s0 (0 : Int)) < (97 : Int)))
          if t15_400 = true then
            some true
          else
            gate (inR (0 : Int) (s0.length : Int)) (
              let t20_401 : Bool := (decide ((getI 0 s0 (0 : Int)) > (122 : Int)))
              some t20_401) none) none) (fun (c21_402 : Bool) =>
    if c21_402 = true then
      some false
    else
      iter (fs_Named.s0 N none (fun (x430 : Unit) =>
        some true) (fun (x431 : Bool × Unit) =>
        let v2_432 : Bool := x431.1
        some v2_432) (s0, (s0.length : Int), ())) none N ((0 : Int), ())) none
def mail_plain_1 (N : Nat) (c0 : Int) : Option Bool :=
  bindO (
    if (decide (c0 < (32 : Int))) = true then
      some true
    else
      some (decide (c0 > (126 : Int)))) (fun (c2_442 : Bool) =>
    some c2_442) none
def mail_plain_i0_slices_ContainsFunc_i0_slices_IndexFunc.s0 {R : Type} (N : Nat) (s : R) (k0 : Unit → R) (kr : (Int × Unit) → R) (c448 : List Int × Int × Unit) (again : (Int × Unit) → R) (v449 : Int × Unit) : R :=
  let s0_450 : List Int := c448.1
  let v7_451 : Int := c448.2.1
  let v8_452 : Int := v449.1
  if (decide (v8_452 < v7_451)) = true then
    gate (inR v8_452 (s0_450.length : Int)) (
      bindO (mail_plain_1 N (getI (0 : Int) s0_450 v8_452)) (fun r16_453 =>
        if r16_453 = true then
          kr (v8_452, ())
        else
          again ((IntKind.wrap .i64 (v8_452 + (1 : Int))), ())) s) s
  else
    k0 ()
def mail_plain (N : Nat) (s0 : List Int) : Option Bool :=
  gate (roomFor (s0.length) 1) (
    iter (mail_plain_i0_slices_ContainsFunc_i0_slices_IndexFunc.s0 N none (fun (x454 : Unit) =>
      some (!(decide ((-1 : Int) ≥ (0 : Int))))) (fun (x455 : Int × Unit) =>
      let v4_456 : Int := x455.1
      some (!(decide (v4_456 ≥ (0 : Int))))) (s0, (s0.length : Int), ())) none N ((0 : Int), ())) none
def stringslite_HasSuffix (N : Nat) (s0 : List Int) (suffix1 : List Int) : Option Bool :=
  bindO (
    let t9_468 : Bool := (decide ((s0.length : Int) ≥ (suffix1.length : Int)))
    if t9_468 = true then
      let t16_469 : Int := (IntKind.wrap .i64 ((s0.length : Int) - (suffix1.length : Int)))
      gate (bounds (s0.length : Int) t16_469 (s0.length : Int)) (
        let t19_470 : Bool := (decide ((cut s0 t16_469 (s0.length : Int)) = suffix1))
        some t19_470) none
    else
      some false) (fun (c4_471 : Bool) =>
    some c4_471) none
def strings_HasSuffix (N : Nat) (s0 : List Int) (suffix1 : List Int) : Option Bool :=
  bindO (stringslite_HasSuffix N s0 suffix1) (fun r7_473 =>
    some r7_473) none
def mail_one (N : Nat) (m0 : List Int × Int × List Int × List Int × Bool × List Int × List Int) : Option Int :=
  bindO (
    bindO (fs_Named N m0.1) (fun r6_489 =>
      if (!r6_489) = true then
        some true
      else
        bindO (fs_Named N m0.2.2.1) (fun r11_490 =>
          if (!r11_490) = true then
            some true
          else
            if (!decide (m0.2.2.2.1 = [])) = true then
              bindO (fs_Named N m0.2.2.2.1) (fun r21_491 =>
                some (!r21_491)) none
            else
              some false) none) none) (fun (c3_492 : Bool) =>
    if c3_492 = true then
      some (6 : Int)
    else
      bindO (
        if (decide (m0.2.1 < (0 : Int))) = true then
          some true
        else
          some (decide (m0.2.1 > (4294967295 : Int)))) (fun (c25_493 : Bool) =>
        if c25_493 = true then
          some (21 : Int)
        else
          bindO (
            bindO (mail_plain N m0.2.2.2.2.2.1) (fun r37_500 =>
              if (!r37_500) = true then
                some true
              else
                if (!decide (m0.2.2.2.2.2.2 = [])) = true then
                  bindO (strings_HasSuffix N m0.2.2.2.2.2.2 [10]) (fun r46_501 =>
                    if (!r46_501) = true then
                      some true
                    else
                      bindO (dropF m0.2.2.2.2.2.2 [10] []) (fun r53_502 =>
                        bindO (mail_plain N r53_502) (fun r54_503 =>
                          some (!r54_503)) none) none) none
                else
                  bindO (dropF m0.2.2.2.2.2.2 [10] []) (fun r53_504 =>
                    bindO (mail_plain N r53_504) (fun r54_505 =>
                      some (!r54_505)) none) none) none) (fun (c34_506 : Bool) =>
            if c34_506 = true then
              some (3 : Int)
            else
              some (0 : Int)) none) none) none
def mail_Check_i0_slices_ContainsFunc_i0_slices_IndexFunc.s0 {R : Type} (N : Nat) (s : R) (k0 : (List Int × Int × List Int × List Int × Bool × List Int × List Int × Unit) → R) (kr : (List Int × Int × List Int × List Int × Bool × List Int × List Int × Int × Unit) → R) (c559 : List (List Int × Int × List Int × List Int × Bool × List Int × List Int) × Int × Unit) (again : (List Int × Int × List Int × List Int × Bool × List Int × List Int × Int × Unit) → R) (v560 : List Int × Int × List Int × List Int × Bool × List Int × List Int × Int × Unit) : R :=
  let s0_561 : List (List Int × Int × List Int × List Int × Bool × List Int × List Int) := c559.1
  let v7_562 : Int := c559.2.1
  let h0_563 : List Int := v560.1
  let h0_564 : Int := v560.2.1
  let h0_565 : List Int := v560.2.2.1
  let h0_566 : List Int := v560.2.2.2.1
  let h0_567 : Bool := v560.2.2.2.2.1
  let h0_568 : List Int := v560.2.2.2.2.2.1
  let h0_569 : List Int := v560.2.2.2.2.2.2.1
  let v8_570 : Int := v560.2.2.2.2.2.2.2.1
  if (decide (v8_570 < v7_562)) = true then
    gate (inR v8_570 (s0_561.length : Int)) (
      let t14_571 : List Int × Int × List Int × List Int × Bool × List Int × List Int := (getI ([], ((0 : Int), ([], ([], (false, ([], [])))))) s0_561 v8_570)
      if (decide (t14_571.2.2.1 = h0_565)) = true then
        kr (h0_563, h0_564, h0_565, h0_566, h0_567, h0_568, h0_569, v8_570, ())
      else
        again (h0_563, h0_564, h0_565, h0_566, h0_567, h0_568, h0_569, (IntKind.wrap .i64 (v8_570 + (1 : Int))), ())) s
  else
    k0 (h0_563, h0_564, h0_565, h0_566, h0_567, h0_568, h0_569, ())
def mail_Check.s0 {R : Type} (N : Nat) (s : R) (k0 : Unit → R) (kr : (Int × Unit) → R) (c549 : List (List Int × Int × List Int × List Int × Bool × List Int × List Int) × List (List Int × Int × List Int × List Int × Bool × List Int × List Int) × Int × Unit) (again : (Int × Unit) → R) (v550 : Int × Unit) : R :=
  let l0_551 : List (List Int × Int × List Int × List Int × Bool × List Int × List Int) := c549.1
  let v9_552 : List (List Int × Int × List Int × List Int × Bool × List Int × List Int) := c549.2.1
  let v10_553 : Int := c549.2.2.1
  let v11_554 : Int := v550.1
  if (decide (v11_554 < v10_553)) = true then
    gate (inR v11_554 (v9_552.length : Int)) (
      let t14_555 : List Int × Int × List Int × List Int × Bool × List Int × List Int := (getI ([], ((0 : Int), ([], ([], (false, ([], [])))))) v9_552 v11_554)
      bindO (mail_one N t14_555) (fun r17_556 =>
        if (!decide (r17_556 = (0 : Int))) = true then
          kr (r17_556, ())
        else
          gate (bounds (l0_551.length : Int) (0 : Int) v11_554) (
            let t7_557 : Int := ((cut l0_551 (0 : Int) v11_554).length : Int)
            iter (mail_Check_i0_slices_ContainsFunc_i0_slices_IndexFunc.s0 N s (fun (x572 : List Int × Int × List Int × List Int × Bool × List Int × List Int × Unit) =>
              let h0_573 : List Int := x572.1
              let h0_574 : Int := x572.2.1
              let h0_575 : List Int := x572.2.2.1
              let h0_576 : List Int := x572.2.2.2.1
              let h0_577 : Bool := x572.2.2.2.2.1
              let h0_578 : List Int := x572.2.2.2.2.2.1
              let h0_579 : List Int := x572.2.2.2.2.2.2.1
              if (decide ((-1 : Int) ≥ (0 : Int))) = true then
                kr ((7 : Int), ())
              else
                again ((IntKind.wrap .i64 (v11_554 + (1 : Int))), ())) (fun (x580 : List Int × Int × List Int × List Int × Bool × List Int × List Int × Int × Unit) =>
              let h0_581 : List Int := x580.1
              let h0_582 : Int := x580.2.1
              let h0_583 : List Int := x580.2.2.1
              let h0_584 : List Int := x580.2.2.2.1
              let h0_585 : Bool := x580.2.2.2.2.1
              let h0_586 : List Int := x580.2.2.2.2.2.1
              let h0_587 : List Int := x580.2.2.2.2.2.2.1
              let v4_588 : Int := x580.2.2.2.2.2.2.2.1
              if (decide (v4_588 ≥ (0 : Int))) = true then
                kr ((7 : Int), ())
              else
                again ((IntKind.wrap .i64 (v11_554 + (1 : Int))), ())) ((cut l0_551 (0 : Int) v11_554), t7_557, ())) s N (t14_555.1, t14_555.2.1, t14_555.2.2.1, t14_555.2.2.2.1, t14_555.2.2.2.2.1, t14_555.2.2.2.2.2.1, t14_555.2.2.2.2.2.2, (0 : Int), ())) s) s) s
  else
    k0 ()
def mail_Check (N : Nat) (l0 : List (List Int × Int × List Int × List Int × Bool × List Int × List Int)) : Option Int :=
  if (decide ((l0.length : Int) > (60 : Int))) = true then
    some (9 : Int)
  else
    iter (mail_Check.s0 N none (fun (x589 : Unit) =>
      some (0 : Int)) (fun (x590 : Int × Unit) =>
      let v2_591 : Int := x590.1
      some v2_591) (l0, l0, (l0.length : Int), ())) none N ((0 : Int), ())
def mail_Threads.s0 {R : Type} (N : Nat) (s : R) (k0 : (List Int × Unit) → R) (c680 : List (List Int × Int × List Int × List Int × Bool × List Int × List Int) × Int × Unit) (again : (List Int × Int × Unit) → R) (v681 : List Int × Int × Unit) : R :=
  let l0_682 : List (List Int × Int × List Int × List Int × Bool × List Int × List Int) := c680.1
  let v27_683 : Int := c680.2.1
  let group5_684 : List Int := v681.1
  let v28_685 : Int := v681.2.1
  if (decide (v28_685 < v27_683)) = true then
    gate (inR v28_685 (group5_684.length : Int)) (
      gate (inR v28_685 (group5_684.length : Int)) (
        again ((group5_684.set (v28_685).toNat v28_685), (IntKind.wrap .i64 (v28_685 + (1 : Int))), ())) s) s
  else
    k0 (group5_684, ())
def mail_Threads_i0_slices_IndexFunc.s0 {R : Type} (N : Nat) (s : R) (k0 : (List Int × List Int × Int × List Int × List Int × Bool × List Int × List Int × Unit) → R) (kr : (List Int × List Int × Int × List Int × List Int × Bool × List Int × List Int × Int × Unit) → R) (c757 : List (List Int × Int × List Int × List Int × Bool × List Int × List Int) × Int × Unit) (again : (List Int × List Int × Int × List Int × List Int × Bool × List Int × List Int × Int × Unit) → R) (v758 : List Int × List Int × Int × List Int × List Int × Bool × List Int × List Int × Int × Unit) : R :=
  let s0_759 : List (List Int × Int × List Int × List Int × Bool × List Int × List Int) := c757.1
  let v7_760 : Int := c757.2.1
  let h0_761 : List Int := v758.1
  let h1_762 : List Int := v758.2.1
  let h1_763 : Int := v758.2.2.1
  let h1_764 : List Int := v758.2.2.2.1
  let h1_765 : List Int := v758.2.2.2.2.1
  let h1_766 : Bool := v758.2.2.2.2.2.1
  let h1_767 : List Int := v758.2.2.2.2.2.2.1
  let h1_768 : List Int := v758.2.2.2.2.2.2.2.1
  let v8_769 : Int := v758.2.2.2.2.2.2.2.2.1
  if (decide (v8_769 < v7_760)) = true then
    gate (inR v8_769 (s0_759.length : Int)) (
      let t14_770 : List Int × Int × List Int × List Int × Bool × List Int × List Int := (getI ([], ((0 : Int), ([], ([], (false, ([], [])))))) s0_759 v8_769)
      if (decide (t14_770.2.2.1 = h1_765)) = true then
        kr (h0_761, h1_762, h1_763, h1_764, h1_765, h1_766, h1_767, h1_768, v8_769, ())
      else
        again (h0_761, h1_762, h1_763, h1_764, h1_765, h1_766, h1_767, h1_768, (IntKind.wrap .i64 (v8_769 + (1 : Int))), ())) s
  else
    k0 (h0_761, h1_762, h1_763, h1_764, h1_765, h1_766, h1_767, h1_768, ())
def mail_Threads.s2 {R : Type} (N : Nat) (s : R) (k4 : (List Int × Unit) → R) (c782 : List (List Int × Int × List Int × List Int × Bool × List Int × List Int) × Int × Int × List (List Int × Int × List Int × List Int × Bool × List Int × List Int) × Int × Int × Int × Unit) (again : (List Int × Int × Unit) → R) (v783 : List Int × Int × Unit) : R :=
  let l0_784 : List (List Int × Int × List Int × List Int × Bool × List Int × List Int) := c782.1
  let a10_785 : Int := c782.2.1
  let b11_786 : Int := c782.2.2.1
  let v36_787 : List (List Int × Int × List Int × List Int × Bool × List Int × List Int) := c782.2.2.2.1
  let v37_788 : Int := c782.2.2.2.2.1
  let v38_789 : Int := c782.2.2.2.2.2.1
  let v67_790 : Int := c782.2.2.2.2.2.2.1
  let group5_791 : List Int := v783.1
  let v68_792 : Int := v783.2.1
  if (decide (v68_792 < v67_790)) = true then
    gate (inR v68_792 (group5_791.length : Int)) (
      gate (inR v68_792 (group5_791.length : Int)) (
        let t76_793 : Bool := (decide ((getI (0 : Int) group5_791 v68_792) = b11_786))
        if t76_793 = true then
          gate (inR v68_792 (group5_791.length : Int)) (
            gate (inR v68_792 (group5_791.length : Int)) (
              again ((group5_791.set (v68_792).toNat a10_785), (IntKind.wrap .i64 (v68_792 + (1 : Int))), ())) s) s
        else
          again (group5_791, (IntKind.wrap .i64 (v68_792 + (1 : Int))), ())) s) s
  else
    k4 (group5_791, ())
def mail_Threads.s1 {R : Type} (N : Nat) (s : R) (k2 : (List Int × Unit) → R) (c748 : List (List Int × Int × List Int × List Int × Bool × List Int × List Int) × List (List Int × Int × List Int × List Int × Bool × List Int × List Int) × Int × Unit) (again : (List Int × Int × Unit) → R) (v749 : List Int × Int × Unit) : R :=
  let l0_750 : List (List Int × Int × List Int × List Int × Bool × List Int × List Int) := c748.1
  let v36_751 : List (List Int × Int × List Int × List Int × Bool × List Int × List Int) := c748.2.1
  let v37_752 : Int := c748.2.2.1
  let group5_753 : List Int := v749.1
  let v38_754 : Int := v749.2.1
  if (decide (v38_754 < v37_752)) = true then
    gate (inR v38_754 (v36_751.length : Int)) (
      let t41_755 : List Int × Int × List Int × List Int × Bool × List Int × List Int := (getI ([], ((0 : Int), ([], ([], (false, ([], [])))))) v36_751 v38_754)
      iter (mail_Threads_i0_slices_IndexFunc.s0 N s (fun (x771 : List Int × List Int × Int × List Int × List Int × Bool × List Int × List Int × Unit) =>
        let h0_772 : List Int := x771.1
        let h1_773 : List Int := x771.2.1
        let h1_774 : Int := x771.2.2.1
        let h1_775 : List Int := x771.2.2.2.1
        let h1_776 : List Int := x771.2.2.2.2.1
        let h1_777 : Bool := x771.2.2.2.2.2.1
        let h1_778 : List Int := x771.2.2.2.2.2.2.1
        let h1_779 : List Int := x771.2.2.2.2.2.2.2.1
        if (decide ((-1 : Int) < (0 : Int))) = true then
          again (h0_772, (IntKind.wrap .i64 (v38_754 + (1 : Int))), ())
        else
          gate (inR v38_754 (h0_772.length : Int)) (
            gate (inR v38_754 (h0_772.length : Int)) (
              gate (inR (-1 : Int) (h0_772.length : Int)) (
                gate (inR (-1 : Int) (h0_772.length : Int)) (
                  let t56_780 : Int := (minI (getI (0 : Int) h0_772 v38_754) (getI (0 : Int) h0_772 (-1 : Int)))
                  gate (inR v38_754 (h0_772.length : Int)) (
                    gate (inR v38_754 (h0_772.length : Int)) (
                      gate (inR (-1 : Int) (h0_772.length : Int)) (
                        gate (inR (-1 : Int) (h0_772.length : Int)) (
                          let t65_781 : Int := (maxI (getI (0 : Int) h0_772 v38_754) (getI (0 : Int) h0_772 (-1 : Int)))
                          iter (mail_Threads.s2 N s (fun (x794 : List Int × Unit) =>
                            let group5_795 : List Int := x794.1
                            again (group5_795, (IntKind.wrap .i64 (v38_754 + (1 : Int))), ())) (l0_750, t56_780, t65_781, v36_751, v37_752, v38_754, (h0_772.length : Int), ())) s N (h0_772, (0 : Int), ())) s) s) s) s) s) s) s) s) (fun (x796 : List Int × List Int × Int × List Int × List Int × Bool × List Int × List Int × Int × Unit) =>
        let h0_797 : List Int := x796.1
        let h1_798 : List Int := x796.2.1
        let h1_799 : Int := x796.2.2.1
        let h1_800 : List Int := x796.2.2.2.1
        let h1_801 : List Int := x796.2.2.2.2.1
        let h1_802 : Bool := x796.2.2.2.2.2.1
        let h1_803 : List Int := x796.2.2.2.2.2.2.1
        let h1_804 : List Int := x796.2.2.2.2.2.2.2.1
        let v4_805 : Int := x796.2.2.2.2.2.2.2.2.1
        if (decide (v4_805 < (0 : Int))) = true then
          again (h0_797, (IntKind.wrap .i64 (v38_754 + (1 : Int))), ())
        else
          gate (inR v38_754 (h0_797.length : Int)) (
            gate (inR v38_754 (h0_797.length : Int)) (
              gate (inR v4_805 (h0_797.length : Int)) (
                gate (inR v4_805 (h0_797.length : Int)) (
                  let t56_806 : Int := (minI (getI (0 : Int) h0_797 v38_754) (getI (0 : Int) h0_797 v4_805))
                  gate (inR v38_754 (h0_797.length : Int)) (
                    gate (inR v38_754 (h0_797.length : Int)) (
                      gate (inR v4_805 (h0_797.length : Int)) (
                        gate (inR v4_805 (h0_797.length : Int)) (
                          let t65_807 : Int := (maxI (getI (0 : Int) h0_797 v38_754) (getI (0 : Int) h0_797 v4_805))
                          iter (mail_Threads.s2 N s (fun (x808 : List Int × Unit) =>
                            let group5_809 : List Int := x808.1
                            again (group5_809, (IntKind.wrap .i64 (v38_754 + (1 : Int))), ())) (l0_750, t56_806, t65_807, v36_751, v37_752, v38_754, (h0_797.length : Int), ())) s N (h0_797, (0 : Int), ())) s) s) s) s) s) s) s) s) (l0_750, (l0_750.length : Int), ())) s N (group5_753, t41_755.1, t41_755.2.1, t41_755.2.2.1, t41_755.2.2.2.1, t41_755.2.2.2.2.1, t41_755.2.2.2.2.2.1, t41_755.2.2.2.2.2.2, (0 : Int), ())) s
  else
    k2 (group5_753, ())
def mail_Threads.s4 {R : Type} (N : Nat) (s : R) (k8 : (List (List Int) × List Int × Unit) → R) (c835 : List Int × Int × Int × Int × List Int × Int × Unit) (again : (List (List Int) × List Int × Int × Unit) → R) (v836 : List (List Int) × List Int × Int × Unit) : R :=
  let group5_837 : List Int := c835.1
  let i14_838 : Int := c835.2.1
  let v84_839 : Int := c835.2.2.1
  let v85_840 : Int := c835.2.2.2.1
  let v88_841 : List Int := c835.2.2.2.2.1
  let v89_842 : Int := c835.2.2.2.2.2.1
  let out13_843 : List (List Int) := v836.1
  let x15_844 : List Int := v836.2.1
  let v90_845 : Int := v836.2.2.1
  if (decide (v90_845 < v89_842)) = true then
    gate (inR v90_845 (v88_841.length : Int)) (
      let t97_846 : Bool := (decide ((getI (0 : Int) v88_841 v90_845) = i14_838))
      if t97_846 = true then
        gate (roomFor (x15_844.length + [v90_845].length) 8) (
          again (out13_843, (x15_844 ++ [v90_845]), (IntKind.wrap .i64 (v90_845 + (1 : Int))), ())) s
      else
        again (out13_843, x15_844, (IntKind.wrap .i64 (v90_845 + (1 : Int))), ())) s
  else
    k8 (out13_843, x15_844, ())
def mail_Threads.s3 {R : Type} (N : Nat) (s : R) (k6 : (List (List Int) × Unit) → R) (c826 : Int × Unit) (again : (List Int × List (List Int) × Int × Unit) → R) (v827 : List Int × List (List Int) × Int × Unit) : R :=
  let v84_828 : Int := c826.1
  let group5_829 : List Int := v827.1
  let out13_830 : List (List Int) := v827.2.1
  let v85_831 : Int := v827.2.2.1
  if (decide (v85_831 < v84_828)) = true then
    iter (mail_Threads.s4 N s (fun (x847 : List (List Int) × List Int × Unit) =>
      let out13_848 : List (List Int) := x847.1
      let x15_849 : List Int := x847.2.1
      let t105_850 : Bool := (decide ((x15_849.length : Int) > (0 : Int)))
      if t105_850 = true then
        gate (roomFor (out13_848.length + [x15_849].length) 24) (
          again (group5_829, (out13_848 ++ [x15_849]), (IntKind.wrap .i64 (v85_831 + (1 : Int))), ())) s
      else
        again (group5_829, out13_848, (IntKind.wrap .i64 (v85_831 + (1 : Int))), ())) (group5_829, v85_831, v84_828, v85_831, group5_829, (group5_829.length : Int), ())) s N (out13_830, [], (0 : Int), ())
  else
    k6 (out13_830, ())
def mail_Threads (N : Nat) (l0 : List (List Int × Int × List Int × List Int × Bool × List Int × List Int)) : Option (List (List Int) × Int) :=
  bindO (mail_Check N l0) (fun r19_676 =>
    if (!decide (r19_676 = (0 : Int))) = true then
      some ([], r19_676)
    else
      gate (decide (0 ≤ (l0.length : Int) ∧ (l0.length : Int) ≤ (l0.length : Int)) && roomFor ((l0.length : Int)).toNat 8) (
        let b25_677 : List Int := (List.replicate ((l0.length : Int)).toNat (0 : Int))
        iter (mail_Threads.s0 N none (fun (x686 : List Int × Unit) =>
          let group5_687 : List Int := x686.1
          iter (mail_Threads.s1 N none (fun (x810 : List Int × Unit) =>
            let group5_811 : List Int := x810.1
            iter (mail_Threads.s3 N none (fun (x851 : List (List Int) × Unit) =>
              let out13_852 : List (List Int) := x851.1
              some (out13_852, (0 : Int))) ((l0.length : Int), ())) none N (group5_811, [], (0 : Int), ())) (l0, l0, (l0.length : Int), ())) none N (group5_687, (0 : Int), ())) (l0, (b25_677.length : Int), ())) none N (b25_677, (0 : Int), ())) none) none
def slices_Clone_mail_Mail (N : Nat) (s0 : List (List Int × Int × List Int × List Int × Bool × List Int × List Int)) : Option (List (List Int × Int × List Int × List Int × Bool × List Int × List Int)) :=
  let b5_856 : List (List Int × Int × List Int × List Int × Bool × List Int × List Int) := ([] : List (List Int × Int × List Int × List Int × Bool × List Int × List Int))
  gate (roomFor (b5_856.length + s0.length) 96) (
    some (b5_856 ++ s0)) none
def mail_Purge_1 (N : Nat) (m0 : List Int × Int × List Int × List Int × Bool × List Int × List Int) : Option Bool :=
  some m0.2.2.2.2.1
def mail_Purge_i0_slices_DeleteFunc_i0_slices_IndexFunc.s0 {R : Type} (N : Nat) (s : R) (k0 : (List (List Int × Int × List Int × List Int × Bool × List Int × List Int) × Unit) → R) (kr : (List (List Int × Int × List Int × List Int × Bool × List Int × List Int) × Int × Unit) → R) (c887 : Int × Unit) (again : (List (List Int × Int × List Int × List Int × Bool × List Int × List Int) × Int × Unit) → R) (v888 : List (List Int × Int × List Int × List Int × Bool × List Int × List Int) × Int × Unit) : R :=
  let v7_889 : Int := c887.1
  let h0_890 : List (List Int × Int × List Int × List Int × Bool × List Int × List Int) := v888.1
  let v8_891 : Int := v888.2.1
  if (decide (v8_891 < v7_889)) = true then
    gate (inR v8_891 (h0_890.length : Int)) (
      gate (inR v8_891 (h0_890.length : Int)) (
        let t15_892 : List Int × Int × List Int × List Int × Bool × List Int × List Int := (getI ([], ((0 : Int), ([], ([], (false, ([], [])))))) h0_890 v8_891)
        bindO (mail_Purge_1 N t15_892) (fun r16_893 =>
          if r16_893 = true then
            kr (h0_890, v8_891, ())
          else
            again (h0_890, (IntKind.wrap .i64 (v8_891 + (1 : Int))), ())) s) s) s
  else
    k0 (h0_890, ())
def mail_Purge_i0_slices_DeleteFunc.s0 {R : Type} (N : Nat) (s : R) (k0 : (List (List Int × Int × List Int × List Int × Bool × List Int × List Int) × Int × Unit) → R) (c903 : Unit) (again : (List (List Int × Int × List Int × List Int × Bool × List Int × List Int) × Int × Int × Unit) → R) (v904 : List (List Int × Int × List Int × List Int × Bool × List Int × List Int) × Int × Int × Unit) : R :=
  let h0_905 : List (List Int × Int × List Int × List Int × Bool × List Int × List Int) := v904.1
  let i5_906 : Int := v904.2.1
  let j6_907 : Int := v904.2.2.1
  if (decide (j6_907 < (h0_905.length : Int))) = true then
    gate (inR j6_907 (h0_905.length : Int)) (
      gate (inR j6_907 (h0_905.length : Int)) (
        let t25_908 : List Int × Int × List Int × List Int × Bool × List Int × List Int := (getI ([], ((0 : Int), ([], ([], (false, ([], [])))))) h0_905 j6_907)
        bindO (mail_Purge_1 N t25_908) (fun r28_909 =>
          if (!r28_909) = true then
            gate (inR i5_906 (h0_905.length : Int)) (
              gate (inR i5_906 (h0_905.length : Int)) (
                again ((h0_905.set (i5_906).toNat t25_908), (IntKind.wrap .i64 (i5_906 + (1 : Int))), (IntKind.wrap .i64 (j6_907 + (1 : Int))), ())) s) s
          else
            again (h0_905, i5_906, (IntKind.wrap .i64 (j6_907 + (1 : Int))), ())) s) s) s
  else
    k0 (h0_905, i5_906, ())
def mail_Purge (N : Nat) (l0 : List (List Int × Int × List Int × List Int × Bool × List Int × List Int)) : Option (List (List Int × Int × List Int × List Int × Bool × List Int × List Int) × Int) :=
  bindO (mail_Check N l0) (fun r6_883 =>
    if (!decide (r6_883 = (0 : Int))) = true then
      some ([], r6_883)
    else
      bindO (slices_Clone_mail_Mail N l0) (fun r11_884 =>
        iter (mail_Purge_i0_slices_DeleteFunc_i0_slices_IndexFunc.s0 N none (fun (x894 : List (List Int × Int × List Int × List Int × Bool × List Int × List Int) × Unit) =>
          let h0_895 : List (List Int × Int × List Int × List Int × Bool × List Int × List Int) := x894.1
          if (decide ((-1 : Int) = (-1 : Int))) = true then
            some (h0_895, (0 : Int))
          else
            iter (mail_Purge_i0_slices_DeleteFunc.s0 N none (fun (x910 : List (List Int × Int × List Int × List Int × Bool × List Int × List Int) × Int × Unit) =>
              let h0_911 : List (List Int × Int × List Int × List Int × Bool × List Int × List Int) := x910.1
              let i5_912 : Int := x910.2.1
              gate (bounds (h0_911.length : Int) i5_912 (h0_911.length : Int)) (
                let bx_913 : List (List Int × Int × List Int × List Int × Bool × List Int × List Int) := (over h0_911 (List.replicate ((h0_911.length : Int) - i5_912).toNat ([], ((0 : Int), ([], ([], (false, ([], []))))))) (i5_912).toNat ((h0_911.length : Int) - i5_912).toNat)
                gate (bounds (bx_913.length : Int) (0 : Int) i5_912) (
                  some ((cut bx_913 (0 : Int) i5_912), (0 : Int))) none) none) ()) none N (h0_895, (-1 : Int), (IntKind.wrap .i64 ((-1 : Int) + (1 : Int))), ())) (fun (x914 : List (List Int × Int × List Int × List Int × Bool × List Int × List Int) × Int × Unit) =>
          let h0_915 : List (List Int × Int × List Int × List Int × Bool × List Int × List Int) := x914.1
          let v4_916 : Int := x914.2.1
          if (decide (v4_916 = (-1 : Int))) = true then
            some (h0_915, (0 : Int))
          else
            iter (mail_Purge_i0_slices_DeleteFunc.s0 N none (fun (x920 : List (List Int × Int × List Int × List Int × Bool × List Int × List Int) × Int × Unit) =>
              let h0_921 : List (List Int × Int × List Int × List Int × Bool × List Int × List Int) := x920.1
              let i5_922 : Int := x920.2.1
              gate (bounds (h0_921.length : Int) i5_922 (h0_921.length : Int)) (
                let bx_923 : List (List Int × Int × List Int × List Int × Bool × List Int × List Int) := (over h0_921 (List.replicate ((h0_921.length : Int) - i5_922).toNat ([], ((0 : Int), ([], ([], (false, ([], []))))))) (i5_922).toNat ((h0_921.length : Int) - i5_922).toNat)
                gate (bounds (bx_923.length : Int) (0 : Int) i5_922) (
                  some ((cut bx_923 (0 : Int) i5_922), (0 : Int))) none) none) ()) none N (h0_915, v4_916, (IntKind.wrap .i64 (v4_916 + (1 : Int))), ())) ((r11_884.length : Int), ())) none N (r11_884, (0 : Int), ())) none) none
def mail_Print.r0 {R : Type} (N : Nat) (s : R) (c1184 : List (List Int × Int × List Int × List Int × Bool × List Int × List Int) × Int × Int × Unit) (x1186 : List Int) (again : (List Int × Unit) → R) (v1185 : List Int × Unit) : R :=
  let v14_1187 : List (List Int × Int × List Int × List Int × Bool × List Int × List Int) := c1184.1
  let v15_1188 : Int := c1184.2.1
  let v16_1189 : Int := c1184.2.2.1
  let m0_1190 : List Int := v1185.1
  gate (inR (0 : Int) (x1186.length : Int)) (
    let t56_1191 : Bool := (decide ((getI 0 x1186 (0 : Int)) = (46 : Int)))
    if t56_1191 = true then
      gate (roomFor (m0_1190.length + [(46 : Int)].length) 1) (
        gate (roomFor ((m0_1190 ++ [(46 : Int)]).length + x1186.length) 1) (
          again (((m0_1190 ++ [(46 : Int)]) ++ x1186), ())) s) s
    else
      gate (roomFor (m0_1190.length + x1186.length) 1) (
        again ((m0_1190 ++ x1186), ())) s) s
def mail_Print.s0 {R : Type} (N : Nat) (s : R) (k0 : (List Int × Unit) → R) (kr : (List Int × Int × Unit) → R) (c1151 : List (List Int × Int × List Int × List Int × Bool × List Int × List Int) × Int × Unit) (again : (Int × List Int × Unit) → R) (v1152 : Int × List Int × Unit) : R :=
  let v14_1153 : List (List Int × Int × List Int × List Int × Bool × List Int × List Int) := c1151.1
  let v15_1154 : Int := c1151.2.1
  let v16_1155 : Int := v1152.1
  let m0_1156 : List Int := v1152.2.1
  if (decide (v16_1155 < v15_1154)) = true then
    gate (inR v16_1155 (v14_1153.length : Int)) (
      let t18_1157 : List Int × Int × List Int × List Int × Bool × List Int × List Int := (getI ([], ((0 : Int), ([], ([], (false, ([], [])))))) v14_1153 v16_1155)
      gate (decide ([109, 97, 105, 108, 32].length + t18_1157.2.2.1.length ≤ 140737488355328)) (
        gate (decide (([109, 97, 105, 108, 32] ++ t18_1157.2.2.1).length + [32].length ≤ 140737488355328)) (
          let t23_1158 : List Int := (([109, 97, 105, 108, 32] ++ t18_1157.2.2.1) ++ [32])
          gate (decide (t23_1158.length + t18_1157.1.length ≤ 140737488355328)) (
            gate (decide ((t23_1158 ++ t18_1157.1).length + [32].length ≤ 140737488355328)) (
              bindO (itoaF t18_1157.2.1) (fun r30_1159 =>
                gate (decide (((t23_1158 ++ t18_1157.1) ++ [32]).length + r30_1159.length ≤ 140737488355328)) (
                  let t31_1160 : List Int := (((t23_1158 ++ t18_1157.1) ++ [32]) ++ r30_1159)
                  gate (decide (t31_1160.length + [10].length ≤ 140737488355328)) (
                    gate (roomFor (m0_1156.length + (t31_1160 ++ [10]).length) 1) (
                      bindO ((
                        if (!decide (t18_1157.2.2.2.1 = [])) = true then
                          gate (decide ([114, 101, 102, 32].length + t18_1157.2.2.2.1.length ≤ 140737488355328)) (
                            gate (decide (([114, 101, 102, 32] ++ t18_1157.2.2.2.1).length + [10].length ≤ 140737488355328)) (
                              let t40_1163 : List Int := (([114, 101, 102, 32] ++ t18_1157.2.2.2.1) ++ [10])
                              gate (roomFor ((m0_1156 ++ (t31_1160 ++ [10])).length + t40_1163.length) 1) (
                                let b14_1164 : List Int := ((m0_1156 ++ (t31_1160 ++ [10])) ++ t40_1163)
                                some (b14_1164, t18_1157.1, t18_1157.2.1, t18_1157.2.2.1, t18_1157.2.2.2.1, t18_1157.2.2.2.2.1, t18_1157.2.2.2.2.2.1, t18_1157.2.2.2.2.2.2, ())) none) none) none
                        else
                          some ((m0_1156 ++ (t31_1160 ++ [10])), t18_1157.1, t18_1157.2.1, t18_1157.2.2.1, t18_1157.2.2.2.1, t18_1157.2.2.2.2.1, t18_1157.2.2.2.2.2.1, t18_1157.2.2.2.2.2.2, ()) : Option (List Int × List Int × Int × List Int × List Int × Bool × List Int × List Int × Unit))) (fun j1165 =>
                        let m0_1166 : List Int := j1165.1
                        let m1_1167 : List Int := j1165.2.1
                        let m1_1168 : Int := j1165.2.2.1
                        let m1_1169 : List Int := j1165.2.2.2.1
                        let m1_1170 : List Int := j1165.2.2.2.2.1
                        let m1_1171 : Bool := j1165.2.2.2.2.2.1
                        let m1_1172 : List Int := j1165.2.2.2.2.2.2.1
                        let m1_1173 : List Int := j1165.2.2.2.2.2.2.2.1
                        bindO ((
                          if m1_1171 = true then
                            gate (roomFor (m0_1166.length + [103, 111, 110, 101, 10].length) 1) (
                              some ((m0_1166 ++ [103, 111, 110, 101, 10]), m1_1167, m1_1168, m1_1169, m1_1170, m1_1171, m1_1172, m1_1173, ())) none
                          else
                            some (m0_1166, m1_1167, m1_1168, m1_1169, m1_1170, m1_1171, m1_1172, m1_1173, ()) : Option (List Int × List Int × Int × List Int × List Int × Bool × List Int × List Int × Unit))) (fun j1174 =>
                          let m0_1175 : List Int := j1174.1
                          let m1_1176 : List Int := j1174.2.1
                          let m1_1177 : Int := j1174.2.2.1
                          let m1_1178 : List Int := j1174.2.2.2.1
                          let m1_1179 : List Int := j1174.2.2.2.2.1
                          let m1_1180 : Bool := j1174.2.2.2.2.2.1
                          let m1_1181 : List Int := j1174.2.2.2.2.2.2.1
                          let m1_1182 : List Int := j1174.2.2.2.2.2.2.2.1
                          gate (decide ([97, 98, 111, 117, 116, 32].length + m1_1181.length ≤ 140737488355328)) (
                            gate (decide (([97, 98, 111, 117, 116, 32] ++ m1_1181).length + [10].length ≤ 140737488355328)) (
                              let t48_1183 : List Int := (([97, 98, 111, 117, 116, 32] ++ m1_1181) ++ [10])
                              gate (roomFor (m0_1175.length + t48_1183.length) 1) (
                                bindO (linesGo m1_1182) (fun (l1194 : List (List Int)) =>
                                  foldR (mail_Print.r0 N s  (v14_1153, v15_1154, v16_1155, ())) (fun (x1192 : List Int × Unit) =>
                                  let m0_1193 : List Int := x1192.1
                                  gate (roomFor (m0_1193.length + [46, 10].length) 1) (
                                    let t62_1195 : Bool := (decide (((m0_1193 ++ [46, 10]).length : Int) > (65536 : Int)))
                                    if t62_1195 = true then
                                      kr ([], (2 : Int), ())
                                    else
                                      again ((IntKind.wrap .i64 (v16_1155 + (1 : Int))), (m0_1193 ++ [46, 10]), ())) s) l1194 ((m0_1175 ++ t48_1183), ())) s) s) s) s) s) s) s) s) s) s) s) s) s) s) s
  else
    k0 (m0_1156, ())
def mail_Print (N : Nat) (l0 : List (List Int × Int × List Int × List Int × Bool × List Int × List Int)) : Option (List Int × Int) :=
  bindO (mail_Check N l0) (fun r10_1092 =>
    if (!decide (r10_1092 = (0 : Int))) = true then
      some ([], r10_1092)
    else
      iter (mail_Print.s0 N none (fun (x1196 : List Int × Unit) =>
        let m0_1197 : List Int := x1196.1
        some (m0_1197, (0 : Int))) (fun (x1198 : List Int × Int × Unit) =>
        let v2_1199 : List Int := x1198.1
        let v3_1200 : Int := x1198.2.1
        some (v2_1199, v3_1200)) (l0, (l0.length : Int), ())) none N ((0 : Int), [], ())) none
def wrackkeep2_mails (N : Nat) : Option Bool :=
  let b5_1205 : List (List Int × Int × List Int × List Int × Bool × List Int × List Int) := [([97], ((5 : Int), ([98], ([], (false, ([], []))))))]
  bindO (mail_Print N b5_1205) (fun r6_1206 =>
    bindO (
      if (decide (r6_1206.2 = (0 : Int))) = true then
        let t13_1208 : Bool := (decide (r6_1206.1 = [109, 97, 105, 108, 32, 98, 32, 97, 32, 53, 10, 97, 98, 111, 117, 116, 32, 10, 46, 10]))
        some t13_1208
      else
        some false) (fun (c0_1209 : Bool) =>
      some c0_1209) none) none
def wrackkeep2_MailThreaded_2 (N : Nat) (m0 : List Int × Int × List Int × List Int × Bool × List Int × List Int) : Option Bool :=
  some m0.2.2.2.2.1
def wrackkeep2_MailThreaded.s1 {R : Type} (N : Nat) (s : R) (k2 : (List (List Int × Int × List Int × List Int × Bool × List Int × List Int) × List (Int × Int) × List (List Int) × Unit) → R) (kr : (Bool × Unit) → R) (c1280 : List (List Int × Int × List Int × List Int × Bool × List Int × List Int) × Int × Int × Int × Int × Int × List Int × Int × Unit) (again : (List (List Int × Int × List Int × List Int × Bool × List Int × List Int) × List (Int × Int) × List (List Int) × Int × Unit) → R) (v1281 : List (List Int × Int × List Int × List Int × Bool × List Int × List Int) × List (Int × Int) × List (List Int) × Int × Unit) : R :=
  let all3_1282 : List (List Int × Int × List Int × List Int × Bool × List Int × List Int) := c1280.1
  let e5_1283 : Int := c1280.2.1
  let f7_1284 : Int := c1280.2.2.1
  let i9_1285 : Int := c1280.2.2.2.1
  let v32_1286 : Int := c1280.2.2.2.2.1
  let v33_1287 : Int := c1280.2.2.2.2.2.1
  let v38_1288 : List Int := c1280.2.2.2.2.2.2.1
  let v39_1289 : Int := c1280.2.2.2.2.2.2.2.1
  let left6_1290 : List (List Int × Int × List Int × List Int × Bool × List Int × List Int) := v1281.1
  let in8_1291 : List (Int × Int) := v1281.2.1
  let v31_1292 : List (List Int) := v1281.2.2.1
  let v40_1293 : Int := v1281.2.2.2.1
  if (decide (v40_1293 < v39_1289)) = true then
    gate (inR v40_1293 (v38_1288.length : Int)) (
      let t47_1294 : Int := ((mapGet (k := (.int .i64)) (v := (.int .i64)) in8_1291 (getI (0 : Int) v38_1288 v40_1293)).getD (0 : Int))
      let t47_1295 : Bool := (mapGet (k := (.int .i64)) (v := (.int .i64)) in8_1291 (getI (0 : Int) v38_1288 v40_1293)).isSome
      bindO (
        if t47_1295 = true then
          some true
        else
          let t53_1298 : Bool := (decide ((getI (0 : Int) v38_1288 v40_1293) < (0 : Int)))
          if t53_1298 = true then
            some true
          else
            let t59_1299 : Bool := (decide ((getI (0 : Int) v38_1288 v40_1293) ≥ (all3_1282.length : Int)))
            some t59_1299) (fun (c60_1300 : Bool) =>
        if c60_1300 = true then
          kr (false, ())
        else
          let bx_1301 : List (Int × Int) := (mapPut (k := (.int .i64)) (v := (.int .i64)) in8_1291 (getI (0 : Int) v38_1288 v40_1293) i9_1285)
          again (left6_1290, bx_1301, v31_1292, (IntKind.wrap .i64 (v40_1293 + (1 : Int))), ())) s) s
  else
    k2 (left6_1290, in8_1291, v31_1292, ())
def wrackkeep2_MailThreaded.s0 {R : Type} (N : Nat) (s : R) (k0 : (List (List Int × Int × List Int × List Int × Bool × List Int × List Int) × List (Int × Int) × Unit) → R) (kr : (Bool × Unit) → R) (c1264 : List (List Int × Int × List Int × List Int × Bool × List Int × List Int) × Int × Int × Int × Unit) (again : (List (List Int × Int × List Int × List Int × Bool × List Int × List Int) × List (Int × Int) × List (List Int) × Int × Unit) → R) (v1265 : List (List Int × Int × List Int × List Int × Bool × List Int × List Int) × List (Int × Int) × List (List Int) × Int × Unit) : R :=
  let all3_1266 : List (List Int × Int × List Int × List Int × Bool × List Int × List Int) := c1264.1
  let e5_1267 : Int := c1264.2.1
  let f7_1268 : Int := c1264.2.2.1
  let v32_1269 : Int := c1264.2.2.2.1
  let left6_1270 : List (List Int × Int × List Int × List Int × Bool × List Int × List Int) := v1265.1
  let in8_1271 : List (Int × Int) := v1265.2.1
  let v31_1272 : List (List Int) := v1265.2.2.1
  let v33_1273 : Int := v1265.2.2.2.1
  if (decide (v33_1273 < v32_1269)) = true then
    gate (inR v33_1273 (v31_1272.length : Int)) (
      gate (inR v33_1273 (v31_1272.length : Int)) (
        iter (wrackkeep2_MailThreaded.s1 N s (fun (x1302 : List (List Int × Int × List Int × List Int × Bool × List Int × List Int) × List (Int × Int) × List (List Int) × Unit) =>
          let left6_1303 : List (List Int × Int × List Int × List Int × Bool × List Int × List Int) := x1302.1
          let in8_1304 : List (Int × Int) := x1302.2.1
          let v31_1305 : List (List Int) := x1302.2.2.1
          again (left6_1303, in8_1304, v31_1305, (IntKind.wrap .i64 (v33_1273 + (1 : Int))), ())) (fun (x1306 : Bool × Unit) =>
          let v2_1307 : Bool := x1306.1
          kr (v2_1307, ())) (all3_1266, e5_1267, f7_1268, v33_1273, v32_1269, v33_1273, (getI [] v31_1272 v33_1273), ((getI [] v31_1272 v33_1273).length : Int), ())) s N (left6_1270, in8_1271, v31_1272, (0 : Int), ())) s) s
  else
    k0 (left6_1270, in8_1271, ())
def wrackkeep2_MailThreaded_i0_slices_IndexFunc.s0 {R : Type} (N : Nat) (s : R) (k0 : (List (List Int × Int × List Int × List Int × Bool × List Int × List Int) × List (Int × Int) × List Int × Int × List Int × List Int × Bool × List Int × List Int × Unit) → R) (kr : (List (List Int × Int × List Int × List Int × Bool × List Int × List Int) × List (Int × Int) × List Int × Int × List Int × List Int × Bool × List Int × List Int × Int × Unit) → R) (c1390 : List (List Int × Int × List Int × List Int × Bool × List Int × List Int) × Int × Unit) (again : (List (List Int × Int × List Int × List Int × Bool × List Int × List Int) × List (Int × Int) × List Int × Int × List Int × List Int × Bool × List Int × List Int × Int × Unit) → R) (v1391 : List (List Int × Int × List Int × List Int × Bool × List Int × List Int) × List (Int × Int) × List Int × Int × List Int × List Int × Bool × List Int × List Int × Int × Unit) : R :=
  let s0_1392 : List (List Int × Int × List Int × List Int × Bool × List Int × List Int) := c1390.1
  let v7_1393 : Int := c1390.2.1
  let h0_1394 : List (List Int × Int × List Int × List Int × Bool × List Int × List Int) := v1391.1
  let h1_1395 : List (Int × Int) := v1391.2.1
  let h2_1396 : List Int := v1391.2.2.1
  let h2_1397 : Int := v1391.2.2.2.1
  let h2_1398 : List Int := v1391.2.2.2.2.1
  let h2_1399 : List Int := v1391.2.2.2.2.2.1
  let h2_1400 : Bool := v1391.2.2.2.2.2.2.1
  let h2_1401 : List Int := v1391.2.2.2.2.2.2.2.1
  let h2_1402 : List Int := v1391.2.2.2.2.2.2.2.2.1
  let v8_1403 : Int := v1391.2.2.2.2.2.2.2.2.2.1
  if (decide (v8_1403 < v7_1393)) = true then
    gate (inR v8_1403 (s0_1392.length : Int)) (
      let t14_1404 : List Int × Int × List Int × List Int × Bool × List Int × List Int := (getI ([], ((0 : Int), ([], ([], (false, ([], [])))))) s0_1392 v8_1403)
      if (decide (t14_1404.2.2.1 = h2_1399)) = true then
        kr (h0_1394, h1_1395, h2_1396, h2_1397, h2_1398, h2_1399, h2_1400, h2_1401, h2_1402, v8_1403, ())
      else
        again (h0_1394, h1_1395, h2_1396, h2_1397, h2_1398, h2_1399, h2_1400, h2_1401, h2_1402, (IntKind.wrap .i64 (v8_1403 + (1 : Int))), ())) s
  else
    k0 (h0_1394, h1_1395, h2_1396, h2_1397, h2_1398, h2_1399, h2_1400, h2_1401, h2_1402, ())
def wrackkeep2_MailThreaded.s2 {R : Type} (N : Nat) (s : R) (k4 : (List (List Int × Int × List Int × List Int × Bool × List Int × List Int) × List (Int × Int) × Unit) → R) (kr : (Bool × Unit) → R) (c1378 : List (List Int × Int × List Int × List Int × Bool × List Int × List Int) × Int × Int × List (List Int × Int × List Int × List Int × Bool × List Int × List Int) × Int × Unit) (again : (List (List Int × Int × List Int × List Int × Bool × List Int × List Int) × List (Int × Int) × Int × Unit) → R) (v1379 : List (List Int × Int × List Int × List Int × Bool × List Int × List Int) × List (Int × Int) × Int × Unit) : R :=
  let all3_1380 : List (List Int × Int × List Int × List Int × Bool × List Int × List Int) := c1378.1
  let e5_1381 : Int := c1378.2.1
  let f7_1382 : Int := c1378.2.2.1
  let v66_1383 : List (List Int × Int × List Int × List Int × Bool × List Int × List Int) := c1378.2.2.2.1
  let v67_1384 : Int := c1378.2.2.2.2.1
  let left6_1385 : List (List Int × Int × List Int × List Int × Bool × List Int × List Int) := v1379.1
  let in8_1386 : List (Int × Int) := v1379.2.1
  let v68_1387 : Int := v1379.2.2.1
  if (decide (v68_1387 < v67_1384)) = true then
    gate (inR v68_1387 (v66_1383.length : Int)) (
      let t71_1388 : List Int × Int × List Int × List Int × Bool × List Int × List Int := (getI ([], ((0 : Int), ([], ([], (false, ([], [])))))) v66_1383 v68_1387)
      iter (wrackkeep2_MailThreaded_i0_slices_IndexFunc.s0 N s (fun (x1405 : List (List Int × Int × List Int × List Int × Bool × List Int × List Int) × List (Int × Int) × List Int × Int × List Int × List Int × Bool × List Int × List Int × Unit) =>
        let h0_1406 : List (List Int × Int × List Int × List Int × Bool × List Int × List Int) := x1405.1
        let h1_1407 : List (Int × Int) := x1405.2.1
        let h2_1408 : List Int := x1405.2.2.1
        let h2_1409 : Int := x1405.2.2.2.1
        let h2_1410 : List Int := x1405.2.2.2.2.1
        let h2_1411 : List Int := x1405.2.2.2.2.2.1
        let h2_1412 : Bool := x1405.2.2.2.2.2.2.1
        let h2_1413 : List Int := x1405.2.2.2.2.2.2.2.1
        let h2_1414 : List Int := x1405.2.2.2.2.2.2.2.2.1
        bindO (
          if (decide ((-1 : Int) ≥ (0 : Int))) = true then
            let t81_1417 : Int := ((mapGet (k := (.int .i64)) (v := (.int .i64)) h1_1407 v68_1387).getD (0 : Int))
            let t84_1418 : Int := ((mapGet (k := (.int .i64)) (v := (.int .i64)) h1_1407 (-1 : Int)).getD (0 : Int))
            some (!decide (t81_1417 = t84_1418))
          else
            some false) (fun (c86_1419 : Bool) =>
          if c86_1419 = true then
            kr (false, ())
          else
            again (h0_1406, h1_1407, (IntKind.wrap .i64 (v68_1387 + (1 : Int))), ())) s) (fun (x1420 : List (List Int × Int × List Int × List Int × Bool × List Int × List Int) × List (Int × Int) × List Int × Int × List Int × List Int × Bool × List Int × List Int × Int × Unit) =>
        let h0_1421 : List (List Int × Int × List Int × List Int × Bool × List Int × List Int) := x1420.1
        let h1_1422 : List (Int × Int) := x1420.2.1
        let h2_1423 : List Int := x1420.2.2.1
        let h2_1424 : Int := x1420.2.2.2.1
        let h2_1425 : List Int := x1420.2.2.2.2.1
        let h2_1426 : List Int := x1420.2.2.2.2.2.1
        let h2_1427 : Bool := x1420.2.2.2.2.2.2.1
        let h2_1428 : List Int := x1420.2.2.2.2.2.2.2.1
        let h2_1429 : List Int := x1420.2.2.2.2.2.2.2.2.1
        let v4_1430 : Int := x1420.2.2.2.2.2.2.2.2.2.1
        bindO (
          if (decide (v4_1430 ≥ (0 : Int))) = true then
            let t81_1431 : Int := ((mapGet (k := (.int .i64)) (v := (.int .i64)) h1_1422 v68_1387).getD (0 : Int))
            let t84_1432 : Int := ((mapGet (k := (.int .i64)) (v := (.int .i64)) h1_1422 v4_1430).getD (0 : Int))
            some (!decide (t81_1431 = t84_1432))
          else
            some false) (fun (c86_1433 : Bool) =>
          if c86_1433 = true then
            kr (false, ())
          else
            again (h0_1421, h1_1422, (IntKind.wrap .i64 (v68_1387 + (1 : Int))), ())) s) (all3_1380, (all3_1380.length : Int), ())) s N (left6_1385, in8_1386, t71_1388.1, t71_1388.2.1, t71_1388.2.2.1, t71_1388.2.2.2.1, t71_1388.2.2.2.2.1, t71_1388.2.2.2.2.2.1, t71_1388.2.2.2.2.2.2, (0 : Int), ())) s
  else
    k4 (left6_1385, in8_1386, ())
def wrackkeep2_MailThreaded_i1_slices_ContainsFunc_i0_slices_IndexFunc.s0 {R : Type} (N : Nat) (s : R) (k0 : (List (Int × Int) × Unit) → R) (kr : (List (Int × Int) × Int × Unit) → R) (c1450 : List (List Int × Int × List Int × List Int × Bool × List Int × List Int) × Int × Unit) (again : (List (Int × Int) × Int × Unit) → R) (v1451 : List (Int × Int) × Int × Unit) : R :=
  let s0_1452 : List (List Int × Int × List Int × List Int × Bool × List Int × List Int) := c1450.1
  let v7_1453 : Int := c1450.2.1
  let h1_1454 : List (Int × Int) := v1451.1
  let v8_1455 : Int := v1451.2.1
  if (decide (v8_1455 < v7_1453)) = true then
    gate (inR v8_1455 (s0_1452.length : Int)) (
      let t14_1456 : List Int × Int × List Int × List Int × Bool × List Int × List Int := (getI ([], ((0 : Int), ([], ([], (false, ([], [])))))) s0_1452 v8_1455)
      bindO (wrackkeep2_MailThreaded_2 N t14_1456) (fun r16_1457 =>
        if r16_1457 = true then
          kr (h1_1454, v8_1455, ())
        else
          again (h1_1454, (IntKind.wrap .i64 (v8_1455 + (1 : Int))), ())) s) s
  else
    k0 (h1_1454, ())
def wrackkeep2_MailThreaded (N : Nat) (l0 : List Int) : Option Bool :=
  bindO (wrackkeep2_messages N l0) (fun r19_1232 =>
    bindO (mail_Threads N r19_1232) (fun r22_1233 =>
      bindO (mail_Purge N r19_1232) (fun r27_1234 =>
        iter (wrackkeep2_MailThreaded.s0 N none (fun (x1308 : List (List Int × Int × List Int × List Int × Bool × List Int × List Int) × List (Int × Int) × Unit) =>
          let left6_1309 : List (List Int × Int × List Int × List Int × Bool × List Int × List Int) := x1308.1
          let in8_1310 : List (Int × Int) := x1308.2.1
          iter (wrackkeep2_MailThreaded.s2 N none (fun (x1434 : List (List Int × Int × List Int × List Int × Bool × List Int × List Int) × List (Int × Int) × Unit) =>
            let left6_1435 : List (List Int × Int × List Int × List Int × Bool × List Int × List Int) := x1434.1
            let in8_1436 : List (Int × Int) := x1434.2.1
            bindO (wrackkeep2_mails N) (fun r88_1446 =>
              if r88_1446 = true then
                if (decide (r22_1233.2 = (0 : Int))) = true then
                  if (decide (r27_1234.2 = (0 : Int))) = true then
                    gate (decide (in8_1436.length ≤ MAXL)) (
                      let t102_1447 : Bool := (decide ((in8_1436.length : Int) = (r19_1232.length : Int)))
                      if t102_1447 = true then
                        iter (wrackkeep2_MailThreaded_i1_slices_ContainsFunc_i0_slices_IndexFunc.s0 N none (fun (x1458 : List (Int × Int) × Unit) =>
                          let h1_1459 : List (Int × Int) := x1458.1
                          some (!(decide ((-1 : Int) ≥ (0 : Int))))) (fun (x1460 : List (Int × Int) × Int × Unit) =>
                          let h1_1461 : List (Int × Int) := x1460.1
                          let v4_1462 : Int := x1460.2.1
                          some (!(decide (v4_1462 ≥ (0 : Int))))) (left6_1435, (left6_1435.length : Int), ())) none N (in8_1436, (0 : Int), ())
                      else
                        some false) none
                  else
                    some false
                else
                  some false
              else
                some false) none) (fun (x1463 : Bool × Unit) =>
            let v2_1464 : Bool := x1463.1
            some v2_1464) (r19_1232, r22_1233.2, r27_1234.2, r19_1232, (r19_1232.length : Int), ())) none N (left6_1309, in8_1310, (0 : Int), ())) (fun (x1465 : Bool × Unit) =>
          let v2_1466 : Bool := x1465.1
          some v2_1466) (r19_1232, r22_1233.2, r27_1234.2, (r22_1233.1.length : Int), ())) none N (r27_1234.1, ([] : List (Int × Int)), r22_1233.1, (0 : Int), ())) none) none) none
end Go.Proofs.YtnklmlnkiepdiaaDoor
