import Derived.Test.YtnklmlnkiepdiaaDoorAbIterFn
import Derived.Test.YtnklmlnkiepdiaaDoorAbAtoiFn
import Derived.Test.YtnklmlnkiepdiaaDoorAbStrFn
import Derived.Test.YtnklmlnkiepdiaaDoorAbItoaFn
import Derived.Test.YtnklmlnkiepdiaaDoorAbDen
set_option linter.unusedVariables false
namespace Go.Proofs.YtnklmlnkiepdiaaDoor
open Go Go.Ab
def wrackmake_Below (N : Nat) (x0 : Int) (n1 : Int) : Option Int :=
  gate (decide (n1 ≠ 0)) (
    if (decide ((Int.tmod x0 n1) < (0 : Int))) = true then
      some (IntKind.wrap .i64 ((Int.tmod x0 n1) + n1))
    else
      some (Int.tmod x0 n1)) none
def wrackmake_Stream_Next (N : Nat) (s0 : List Int × Unit) (n1 : Int) : Option (Int × (List Int × Unit)) :=
  bindO (
    if (decide ((s0.1.length : Int) = (0 : Int))) = true then
      some true
    else
      some (decide (n1 < (1 : Int)))) (fun (c15_3 : Bool) =>
    if c15_3 = true then
      some ((0 : Int), (s0.1, ()))
    else
      gate (inR (0 : Int) (s0.1.length : Int)) (
        gate (bounds (s0.1.length : Int) (1 : Int) (s0.1.length : Int)) (
          bindO (wrackmake_Below N (getI (0 : Int) s0.1 (0 : Int)) n1) (fun r32_4 =>
            some (r32_4, ((cut s0.1 (1 : Int) (s0.1.length : Int)), ()))) none) none) none) none
def wrackkeep2_messages.s1 {R : Type} (N : Nat) (s : R) (k2 : (List (List Int × Int × List Int × List Int × Bool × List Int × List Int) × List Int × List Int × Int × List Int × List Int × Bool × List Int × List Int × Unit) → R) (c334 : Int × Int × Int × Unit) (again : (List (List Int × Int × List Int × List Int × Bool × List Int × List Int) × Int × List Int × List Int × Int × List Int × List Int × Bool × List Int × List Int × Unit) → R) (v335 : List (List Int × Int × List Int × List Int × Bool × List Int × List Int) × Int × List Int × List Int × Int × List Int × List Int × Bool × List Int × List Int × Unit) : R :=
  let v11_336 : Int := c334.1
  let v12_337 : Int := c334.2.1
  let v52_338 : Int := c334.2.2.1
  let out4_339 : List (List Int × Int × List Int × List Int × Bool × List Int × List Int) := v335.1
  let v53_340 : Int := v335.2.1
  let m0_341 : List Int := v335.2.2.1
  let m2_342 : List Int := v335.2.2.2.1
  let m2_343 : Int := v335.2.2.2.2.1
  let m2_344 : List Int := v335.2.2.2.2.2.1
  let m2_345 : List Int := v335.2.2.2.2.2.2.1
  let m2_346 : Bool := v335.2.2.2.2.2.2.2.1
  let m2_347 : List Int := v335.2.2.2.2.2.2.2.2.1
  let m2_348 : List Int := v335.2.2.2.2.2.2.2.2.2.1
  if (decide (v53_340 < v52_338)) = true then
    let b57_349 : List (List Int) := [[108, 105, 110, 101], [46], [46, 46, 120], [], [109, 97, 105, 108, 32, 97, 32, 98, 32, 53], [97, 98, 111, 117, 116, 32, 121]]
    bindO (wrackmake_Stream_Next N (m0_341, ()) (6 : Int)) (fun r59_350 =>
      gate (inR r59_350.1 (b57_349.length : Int)) (
        gate (inR r59_350.1 (b57_349.length : Int)) (
          gate (decide ((getI [] b57_349 r59_350.1).length + [10].length ≤ 140737488355328)) (
            gate (decide (m2_348.length + ((getI [] b57_349 r59_350.1) ++ [10]).length ≤ 140737488355328)) (
              let t63_351 : List Int := (m2_348 ++ ((getI [] b57_349 r59_350.1) ++ [10]))
              again (out4_339, (IntKind.wrap .i64 (v53_340 + (1 : Int))), r59_350.2.1, m2_342, m2_343, m2_344, m2_345, m2_346, m2_347, t63_351, ())) s) s) s) s) s
  else
    k2 (out4_339, m0_341, m2_342, m2_343, m2_344, m2_345, m2_346, m2_347, m2_348, ())
def wrackkeep2_messages.s0 {R : Type} (N : Nat) (s : R) (k0 : (List (List Int × Int × List Int × List Int × Bool × List Int × List Int) × Unit) → R) (c288 : Int × Unit) (again : (List (List Int × Int × List Int × List Int × Bool × List Int × List Int) × Int × List Int × Unit) → R) (v289 : List (List Int × Int × List Int × List Int × Bool × List Int × List Int) × Int × List Int × Unit) : R :=
  let v11_290 : Int := c288.1
  let out4_291 : List (List Int × Int × List Int × List Int × Bool × List Int × List Int) := v289.1
  let v12_292 : Int := v289.2.1
  let m0_293 : List Int := v289.2.2.1
  if (decide (v12_292 < v11_290)) = true then
    bindO (wrackmake_Stream_Next N (m0_293, ()) (2 : Int)) (fun r17_294 =>
      gate (inR r17_294.1 ([[97, 110, 110], [98, 111, 98]].length : Int)) (
        gate (inR r17_294.1 ([[97, 110, 110], [98, 111, 98]].length : Int)) (
          let t19_295 : List Int := (getI [] [[97, 110, 110], [98, 111, 98]] r17_294.1)
          bindO (wrackmake_Stream_Next N (r17_294.2.1, ()) (1000 : Int)) (fun r21_296 =>
            let t24_297 : Int := (IntKind.wrap .i32 ((IntKind.wrap .i64 ((97 : Int) + v12_292))))
            gate (decide (0 ≤ t24_297 ∧ t24_297 < 128)) (
              gate (decide ([109].length + [t24_297].length ≤ 140737488355328)) (
                bindO (wrackmake_Stream_Next N (r21_296.2.1, ()) (3 : Int)) (fun r28_298 =>
                  bindO (wrackmake_Stream_Next N (r28_298.2.1, ()) (3 : Int)) (fun r32_299 =>
                    gate (inR r32_299.1 ([[], [120], [114, 101, 58, 32, 120]].length : Int)) (
                      gate (inR r32_299.1 ([[], [120], [114, 101, 58, 32, 120]].length : Int)) (
                        let t34_300 : List Int := (getI [] [[], [120], [114, 101, 58, 32, 120]] r32_299.1)
                        if (decide (v12_292 > (0 : Int))) = true then
                          bindO (wrackmake_Stream_Next N (r32_299.2.1, ()) (2 : Int)) (fun r40_302 =>
                            bindO ((
                              if (decide (r40_302.1 = (0 : Int))) = true then
                                bindO (wrackmake_Stream_Next N (r40_302.2.1, ()) v12_292) (fun r45_305 =>
                                  let t47_306 : Int := (IntKind.wrap .i32 ((IntKind.wrap .i64 ((97 : Int) + r45_305.1))))
                                  gate (decide (0 ≤ t47_306 ∧ t47_306 < 128)) (
                                    gate (decide ([109].length + [t47_306].length ≤ 140737488355328)) (
                                      some (out4_291, r45_305.2.1, t19_295, r21_296.1, ([109] ++ [t24_297]), ([109] ++ [t47_306]), (decide (r28_298.1 = (0 : Int))), t34_300, [], ())) none) none) none
                              else
                                some (out4_291, r40_302.2.1, t19_295, r21_296.1, ([109] ++ [t24_297]), [], (decide (r28_298.1 = (0 : Int))), t34_300, [], ()) : Option (List (List Int × Int × List Int × List Int × Bool × List Int × List Int) × List Int × List Int × Int × List Int × List Int × Bool × List Int × List Int × Unit))) (fun j307 =>
                              let out4_308 : List (List Int × Int × List Int × List Int × Bool × List Int × List Int) := j307.1
                              let m0_309 : List Int := j307.2.1
                              let m2_310 : List Int := j307.2.2.1
                              let m2_311 : Int := j307.2.2.2.1
                              let m2_312 : List Int := j307.2.2.2.2.1
                              let m2_313 : List Int := j307.2.2.2.2.2.1
                              let m2_314 : Bool := j307.2.2.2.2.2.2.1
                              let m2_315 : List Int := j307.2.2.2.2.2.2.2.1
                              let m2_316 : List Int := j307.2.2.2.2.2.2.2.2.1
                              bindO (wrackmake_Stream_Next N (m0_309, ()) (4 : Int)) (fun r52_317 =>
                                iter (wrackkeep2_messages.s1 N s (fun (x352 : List (List Int × Int × List Int × List Int × Bool × List Int × List Int) × List Int × List Int × Int × List Int × List Int × Bool × List Int × List Int × Unit) =>
                                  let out4_353 : List (List Int × Int × List Int × List Int × Bool × List Int × List Int) := x352.1
                                  let m0_354 : List Int := x352.2.1
                                  let m2_355 : List Int := x352.2.2.1
                                  let m2_356 : Int := x352.2.2.2.1
                                  let m2_357 : List Int := x352.2.2.2.2.1
                                  let m2_358 : List Int := x352.2.2.2.2.2.1
                                  let m2_359 : Bool := x352.2.2.2.2.2.2.1
                                  let m2_360 : List Int := x352.2.2.2.2.2.2.2.1
                                  let m2_361 : List Int := x352.2.2.2.2.2.2.2.2.1
                                  let b68_362 : List (List Int × Int × List Int × List Int × Bool × List Int × List Int) := [(m2_355, (m2_356, (m2_357, (m2_358, (m2_359, (m2_360, m2_361))))))]
                                  gate (roomFor (out4_353.length + b68_362.length) 96) (
                                    again ((out4_353 ++ b68_362), (IntKind.wrap .i64 (v12_292 + (1 : Int))), m0_354, ())) s) (v11_290, v12_292, r52_317.1, ())) s N (out4_308, (0 : Int), r52_317.2.1, m2_310, m2_311, m2_312, m2_313, m2_314, m2_315, m2_316, ())) s) s) s
                        else
                          bindO (wrackmake_Stream_Next N (r32_299.2.1, ()) (4 : Int)) (fun r52_363 =>
                            iter (wrackkeep2_messages.s1 N s (fun (x374 : List (List Int × Int × List Int × List Int × Bool × List Int × List Int) × List Int × List Int × Int × List Int × List Int × Bool × List Int × List Int × Unit) =>
                              let out4_375 : List (List Int × Int × List Int × List Int × Bool × List Int × List Int) := x374.1
                              let m0_376 : List Int := x374.2.1
                              let m2_377 : List Int := x374.2.2.1
                              let m2_378 : Int := x374.2.2.2.1
                              let m2_379 : List Int := x374.2.2.2.2.1
                              let m2_380 : List Int := x374.2.2.2.2.2.1
                              let m2_381 : Bool := x374.2.2.2.2.2.2.1
                              let m2_382 : List Int := x374.2.2.2.2.2.2.2.1
                              let m2_383 : List Int := x374.2.2.2.2.2.2.2.2.1
                              let b68_384 : List (List Int × Int × List Int × List Int × Bool × List Int × List Int) := [(m2_377, (m2_378, (m2_379, (m2_380, (m2_381, (m2_382, m2_383))))))]
                              gate (roomFor (out4_375.length + b68_384.length) 96) (
                                again ((out4_375 ++ b68_384), (IntKind.wrap .i64 (v12_292 + (1 : Int))), m0_376, ())) s) (v11_290, v12_292, r52_363.1, ())) s N (out4_291, (0 : Int), r52_363.2.1, t19_295, r21_296.1, ([109] ++ [t24_297]), [], (decide (r28_298.1 = (0 : Int))), t34_300, [], ())) s) s) s) s) s) s) s) s) s) s) s
  else
    k0 (out4_291, ())
def wrackkeep2_messages (N : Nat) (l0 : List Int) : Option (List (List Int × Int × List Int × List Int × Bool × List Int × List Int)) :=
  bindO (wrackmake_Stream_Next N (l0, ()) (7 : Int)) (fun r11_146 =>
    iter (wrackkeep2_messages.s0 N none (fun (x385 : List (List Int × Int × List Int × List Int × Bool × List Int × List Int) × Unit) =>
      let out4_386 : List (List Int × Int × List Int × List Int × Bool × List Int × List Int) := x385.1
      some out4_386) (r11_146.1, ())) none N ([], (0 : Int), r11_146.2.1, ())) none
def fs_Named.s0 {R : Type} (N : Nat) (s : R) (k0 : Unit → R) (kr : (Bool × Unit) → R) (c404 : List Int × Int × Unit) (again : (Int × Unit) → R) (v405 : Int × Unit) : R :=
  let s0_406 : List Int := c404.1
  let v23_407 : Int := c404.2.1
  let v24_408 : Int := v405.1
  if (decide (v24_408 < v23_407)) = true then
    gate (inR v24_408 (s0_406.length : Int)) (
      bindO (
        let t31_419 : Bool := (decide ((getI 0 s0_406 v24_408) < (97 : Int)))
        if t31_419 = true then
          let t38_420 : Bool := (decide ((getI 0 s0_406 v24_408) < (48 : Int)))
          if t38_420 = true then
            let t46_421 : Bool := (!decide ((getI 0 s0_406 v24_408) = (45 : Int)))
            some t46_421
          else
            let t41_422 : Bool := (decide ((getI 0 s0_406 v24_408) > (57 : Int)))
            if t41_422 = true then
              let t46_423 : Bool := (!decide ((getI 0 s0_406 v24_408) = (45 : Int)))
              some t46_423
            else
              some false
        else
          let t34_424 : Bool := (decide ((getI 0 s0_406 v24_408) > (122 : Int)))
          if t34_424 = true then
            let t38_425 : Bool := (decide ((getI 0 s0_406 v24_408) < (48 : Int)))
            if t38_425 = true then
              let t46_426 : Bool := (!decide ((getI 0 s0_406 v24_408) = (45 : Int)))
              some t46_426
            else
              let t41_427 : Bool := (decide ((getI 0 s0_406 v24_408) > (57 : Int)))
              if t41_427 = true then
                let t46_428 : Bool := (!decide ((getI 0 s0_406 v24_408) = (45 : Int)))
                some t46_428
              else
                some false
          else
            some false) (fun (c47_429 : Bool) =>
        if c47_429 = true then
          kr (false, ())
        else
          again ((IntKind.wrap .i64 (v24_408 + (1 : Int))), ())) s) s
  else
    k0 ()
def fs_Named (N : Nat) (s0 : List Int) : Option Bool :=
  bindO (
    if (decide (s0 = [])) = true then
      some true
    else
      if (decide ((s0.length : Int) > (12 : Int))) = true then
        some true
      else
        gate (inR (0 : Int) (s0.length : Int)) (
          let t15_400 : Bool := (decide ((getI 0 s0 (0 : Int)) < (97 : Int)))
          if t15_400 = true then
            some true
          else
            gate (inR (0 : Int) (s0.length : Int)) (
              let t20_401 : Bool := (decide ((getI 0 s0 (0 : Int)) > (122 : Int)))
              some t20_401) none) none) (fun (c21_402 : Bool) =>
    if c21_402 = true then
      some false
    else
      iter (fs_Named.s0 N none (fun (x430 : Unit) =>
        some true) (fun (x431 : Bool × Unit) =>
        let v2_432 : Bool := x431.1
        some v2_432) (s0, (s0.length : Int), ())) none N ((0 : Int), ())) none
def mail_plain_1 (N : Nat) (c0 : Int) : Option Bool :=
  bindO (
    if (decide (c0 < (32 : Int))) = true then
      some true
    else
      some (decide (c0 > (126 : Int)))) (fun (c2_442 : Bool) =>
    some c2_442) none
def mail_plain_i0_slices_ContainsFunc_i0_slices_IndexFunc.s0 {R : Type} (N : Nat) (s : R) (k0 : Unit → R) (kr : (Int × Unit) → R) (c448 : List Int × Int × Unit) (again : (Int × Unit) → R) (v449 : Int × Unit) : R :=
  let s0_450 : List Int := c448.1
  let v7_451 : Int := c448.2.1
  let v8_452 : Int := v449.1
  if (decide (v8_452 < v7_451)) = true then
    gate (inR v8_452 (s0_450.length : Int)) (
      bindO (mail_plain_1 N (getI (0 : Int) s0_450 v8_452)) (fun r16_453 =>
        if r16_453 = true then
          kr (v8_452, ())
        else
          again ((IntKind.wrap .i64 (v8_452 + (1 : Int))), ())) s) s
  else
    k0 ()
def mail_plain (N : Nat) (s0 : List Int) : Option Bool :=
  gate (roomFor (s0.length) 1) (
    iter (mail_plain_i0_slices_ContainsFunc_i0_slices_IndexFunc.s0 N none (fun (x454 : Unit) =>
      some (!(decide ((-1 : Int) ≥ (0 : Int))))) (fun (x455 : Int × Unit) =>
      let v4_456 : Int := x455.1
      some (!(decide (v4_456 ≥ (0 : Int))))) (s0, (s0.length : Int), ())) none N ((0 : Int), ())) none
def stringslite_HasSuffix (N : Nat) (s0 : List Int) (suffix1 : List Int) : Option Bool :=
  bindO (
    let t9_468 : Bool := (decide ((s0.length : Int) ≥ (suffix1.length : Int)))
    if t9_468 = true then
      let t16_469 : Int := (IntKind.wrap .i64 ((s0.length : Int) - (suffix1.length : Int)))
      gate (bounds (s0.length : Int) t16_469 (s0.length : Int)) (
        let t19_470 : Bool := (decide ((cut s0 t16_469 (s0.length : Int)) = suffix1))
        some t19_470) none
    else
      some false) (fun (c4_471 : Bool) =>
    some c4_471) none
def strings_HasSuffix (N : Nat) (s0 : List Int) (suffix1 : List Int) : Option Bool :=
  bindO (stringslite_HasSuffix N s0 suffix1) (fun r7_473 =>
    some r7_473) none
def mail_one (N : Nat) (m0 : List Int × Int × List Int × List Int × Bool × List Int × List Int) : Option Int :=
  bindO (
    bindO (fs_Named N m0.1) (fun r6_489 =>
      if (!r6_489) = true then
        some true
      else
        bindO (fs_Named N m0.2.2.1) (fun r11_490 =>
          if (!r11_490) = true then
            some true
          else
            if (!decide (m0.2.2.2.1 = [])) = true then
              bindO (fs_Named N m0.2.2.2.1) (fun r21_491 =>
                some (!r21_491)) none
            else
              some false) none) none) (fun (c3_492 : Bool) =>
    if c3_492 = true then
      some (6 : Int)
    else
      bindO (
        if (decide (m0.2.1 < (0 : Int))) = true then
          some true
        else
          some (decide (m0.2.1 > (4294967295 : Int)))) (fun (c25_493 : Bool) =>
        if c25_493 = true then
          some (21 : Int)
        else
          bindO (
            bindO (mail_plain N m0.2.2.2.2.2.1) (fun r37_500 =>
              if (!r37_500) = true then
                some true
              else
                if (!decide (m0.2.2.2.2.2.2 = [])) = true then
                  bindO (strings_HasSuffix N m0.2.2.2.2.2.2 [10]) (fun r46_501 =>
                    if (!r46_501) = true then
                      some true
                    else
                      bindO (dropF m0.2.2.2.2.2.2 [10] []) (fun r53_502 =>
                        bindO (mail_plain N r53_502) (fun r54_503 =>
                          some (!r54_503)) none) none) none
                else
                  bindO (dropF m0.2.2.2.2.2.2 [10] []) (fun r53_504 =>
                    bindO (mail_plain N r53_504) (fun r54_505 =>
                      some (!r54_505)) none) none) none) (fun (c34_506 : Bool) =>
            if c34_506 = true then
              some (3 : Int)
            else
              some (0 : Int)) none) none) none
def mail_Check_i0_slices_ContainsFunc_i0_slices_IndexFunc.s0 {R : Type} (N : Nat) (s : R) (k0 : (List Int × Int × List Int × List Int × Bool × List Int × List Int × Unit) → R) (kr : (List Int × Int × List Int × List Int × Bool × List Int × List Int × Int × Unit) → R) (c559 : List (List Int × Int × List Int × List Int × Bool × List Int × List Int) × Int × Unit) (again : (List Int × Int × List Int × List Int × Bool × List Int × List Int × Int × Unit) → R) (v560 : List Int × Int × List Int × List Int × Bool × List Int × List Int × Int × Unit) : R :=
  let s0_561 : List (List Int × Int × List Int × List Int × Bool × List Int × List Int) := c559.1
  let v7_562 : Int := c559.2.1
  let h0_563 : List Int := v560.1
  let h0_564 : Int := v560.2.1
  let h0_565 : List Int := v560.2.2.1
  let h0_566 : List Int := v560.2.2.2.1
  let h0_567 : Bool := v560.2.2.2.2.1
  let h0_568 : List Int := v560.2.2.2.2.2.1
  let h0_569 : List Int := v560.2.2.2.2.2.2.1
  let v8_570 : Int := v560.2.2.2.2.2.2.2.1
  if (decide (v8_570 < v7_562)) = true then
    gate (inR v8_570 (s0_561.length : Int)) (
      let t14_571 : List Int × Int × List Int × List Int × Bool × List Int × List Int := (getI ([], ((0 : Int), ([], ([], (false, ([], [])))))) s0_561 v8_570)
      if (decide (t14_571.2.2.1 = h0_565)) = true then
        kr (h0_563, h0_564, h0_565, h0_566, h0_567, h0_568, h0_569, v8_570, ())
      else
        again (h0_563, h0_564, h0_565, h0_566, h0_567, h0_568, h0_569, (IntKind.wrap .i64 (v8_570 + (1 : Int))), ())) s
  else
    k0 (h0_563, h0_564, h0_565, h0_566, h0_567, h0_568, h0_569, ())
def mail_Check.s0 {R : Type} (N : Nat) (s : R) (k0 : Unit → R) (kr : (Int × Unit) → R) (c549 : List (List Int × Int × List Int × List Int × Bool × List Int × List Int) × List (List Int × Int × List Int × List Int × Bool × List Int × List Int) × Int × Unit) (again : (Int × Unit) → R) (v550 : Int × Unit) : R :=
  let l0_551 : List (List Int × Int × List Int × List Int × Bool × List Int × List Int) := c549.1
  let v9_552 : List (List Int × Int × List Int × List Int × Bool × List Int × List Int) := c549.2.1
  let v10_553 : Int := c549.2.2.1
  let v11_554 : Int := v550.1
  if (decide (v11_554 < v10_553)) = true then
    gate (inR v11_554 (v9_552.length : Int)) (
      let t14_555 : List Int × Int × List Int × List Int × Bool × List Int × List Int := (getI ([], ((0 : Int), ([], ([], (false, ([], [])))))) v9_552 v11_554)
      bindO (mail_one N t14_555) (fun r17_556 =>
        if (!decide (r17_556 = (0 : Int))) = true then
          kr (r17_556, ())
        else
          gate (bounds (l0_551.length : Int) (0 : Int) v11_554) (
            let t7_557 : Int := ((cut l0_551 (0 : Int) v11_554).length : Int)
            iter (mail_Check_i0_slices_ContainsFunc_i0_slices_IndexFunc.s0 N s (fun (x572 : List Int × Int × List Int × List Int × Bool × List Int × List Int × Unit) =>
              let h0_573 : List Int := x572.1
              let h0_574 : Int := x572.2.1
              let h0_575 : List Int := x572.2.2.1
              let h0_576 : List Int := x572.2.2.2.1
              let h0_577 : Bool := x572.2.2.2.2.1
              let h0_578 : List Int := x572.2.2.2.2.2.1
              let h0_579 : List Int := x572.2.2.2.2.2.2.1
              if (decide ((-1 : Int) ≥ (0 : Int))) = true then
                kr ((7 : Int), ())
              else
                again ((IntKind.wrap .i64 (v11_554 + (1 : Int))), ())) (fun (x580 : List Int × Int × List Int × List Int × Bool × List Int × List Int × Int × Unit) =>
              let h0_581 : List Int := x580.1
              let h0_582 : Int := x580.2.1
              let h0_583 : List Int := x580.2.2.1
              let h0_584 : List Int := x580.2.2.2.1
              let h0_585 : Bool := x580.2.2.2.2.1
              let h0_586 : List Int := x580.2.2.2.2.2.1
              let h0_587 : List Int := x580.2.2.2.2.2.2.1
              let v4_588 : Int := x580.2.2.2.2.2.2.2.1
              if (decide (v4_588 ≥ (0 : Int))) = true then
                kr ((7 : Int), ())
              else
                again ((IntKind.wrap .i64 (v11_554 + (1 : Int))), ())) ((cut l0_551 (0 : Int) v11_554), t7_557, ())) s N (t14_555.1, t14_555.2.1, t14_555.2.2.1, t14_555.2.2.2.1, t14_555.2.2.2.2.1, t14_555.2.2.2.2.2.1, t14_555.2.2.2.2.2.2, (0 : Int), ())) s) s) s
  else
    k0 ()
def mail_Check (N : Nat) (l0 : List (List Int × Int × List Int × List Int × Bool × List Int × List Int)) : Option Int :=
  if (decide ((l0.length : Int) > (60 : Int))) = true then
    some (9 : Int)
  else
    iter (mail_Check.s0 N none (fun (x589 : Unit) =>
      some (0 : Int)) (fun (x590 : Int × Unit) =>
      let v2_591 : Int := x590.1
      some v2_591) (l0, l0, (l0.length : Int), ())) none N ((0 : Int), ())
def mail_Print.r0 {R : Type} (N : Nat) (s : R) (c746 : List (List Int × Int × List Int × List Int × Bool × List Int × List Int) × Int × Int × Unit) (x748 : List Int) (again : (List Int × Unit) → R) (v747 : List Int × Unit) : R :=
  let v14_749 : List (List Int × Int × List Int × List Int × Bool × List Int × List Int) := c746.1
  let v15_750 : Int := c746.2.1
  let v16_751 : Int := c746.2.2.1
  let m0_752 : List Int := v747.1
  gate (inR (0 : Int) (x748.length : Int)) (
    let t56_753 : Bool := (decide ((getI 0 x748 (0 : Int)) = (46 : Int)))
    if t56_753 = true then
      gate (roomFor (m0_752.length + [(46 : Int)].length) 1) (
        gate (roomFor ((m0_752 ++ [(46 : Int)]).length + x748.length) 1) (
          again (((m0_752 ++ [(46 : Int)]) ++ x748), ())) s) s
    else
      gate (roomFor (m0_752.length + x748.length) 1) (
        again ((m0_752 ++ x748), ())) s) s
def mail_Print.s0 {R : Type} (N : Nat) (s : R) (k0 : (List Int × Unit) → R) (kr : (List Int × Int × Unit) → R) (c715 : List (List Int × Int × List Int × List Int × Bool × List Int × List Int) × Int × Unit) (again : (Int × List Int × Unit) → R) (v716 : Int × List Int × Unit) : R :=
  let v14_717 : List (List Int × Int × List Int × List Int × Bool × List Int × List Int) := c715.1
  let v15_718 : Int := c715.2.1
  let v16_719 : Int := v716.1
  let m0_720 : List Int := v716.2.1
  if (decide (v16_719 < v15_718)) = true then
    gate (inR v16_719 (v14_717.length : Int)) (
      let t18_721 : List Int × Int × List Int × List Int × Bool × List Int × List Int := (getI ([], ((0 : Int), ([], ([], (false, ([], [])))))) v14_717 v16_719)
      gate (decide ([109, 97, 105, 108, 32].length + t18_721.2.2.1.length ≤ 140737488355328)) (
        gate (decide (([109, 97, 105, 108, 32] ++ t18_721.2.2.1).length + [32].length ≤ 140737488355328)) (
          let t23_722 : List Int := (([109, 97, 105, 108, 32] ++ t18_721.2.2.1) ++ [32])
          gate (decide (t23_722.length + t18_721.1.length ≤ 140737488355328)) (
            gate (decide ((t23_722 ++ t18_721.1).length + [32].length ≤ 140737488355328)) (
              bindO (itoaF t18_721.2.1) (fun r30_723 =>
                gate (decide (((t23_722 ++ t18_721.1) ++ [32]).length + r30_723.length ≤ 140737488355328)) (
                  let t31_724 : List Int := (((t23_722 ++ t18_721.1) ++ [32]) ++ r30_723)
                  gate (decide (t31_724.length + [10].length ≤ 140737488355328)) (
                    gate (roomFor (m0_720.length + (t31_724 ++ [10]).length) 1) (
                      bindO ((
                        if (!decide (t18_721.2.2.2.1 = [])) = true then
                          gate (decide ([114, 101, 102, 32].length + t18_721.2.2.2.1.length ≤ 140737488355328)) (
                            gate (decide (([114, 101, 102, 32] ++ t18_721.2.2.2.1).length + [10].length ≤ 140737488355328)) (
                              let t40_726 : List Int := (([114, 101, 102, 32] ++ t18_721.2.2.2.1) ++ [10])
                              gate (roomFor ((m0_720 ++ (t31_724 ++ [10])).length + t40_726.length) 1) (
                                some (((m0_720 ++ (t31_724 ++ [10])) ++ t40_726), t18_721.1, t18_721.2.1, t18_721.2.2.1, t18_721.2.2.2.1, t18_721.2.2.2.2.1, t18_721.2.2.2.2.2.1, t18_721.2.2.2.2.2.2, ())) none) none) none
                        else
                          some ((m0_720 ++ (t31_724 ++ [10])), t18_721.1, t18_721.2.1, t18_721.2.2.1, t18_721.2.2.2.1, t18_721.2.2.2.2.1, t18_721.2.2.2.2.2.1, t18_721.2.2.2.2.2.2, ()) : Option (List Int × List Int × Int × List Int × List Int × Bool × List Int × List Int × Unit))) (fun j727 =>
                        let m0_728 : List Int := j727.1
                        let m1_729 : List Int := j727.2.1
                        let m1_730 : Int := j727.2.2.1
                        let m1_731 : List Int := j727.2.2.2.1
                        let m1_732 : List Int := j727.2.2.2.2.1
                        let m1_733 : Bool := j727.2.2.2.2.2.1
                        let m1_734 : List Int := j727.2.2.2.2.2.2.1
                        let m1_735 : List Int := j727.2.2.2.2.2.2.2.1
                        bindO ((
                          if m1_733 = true then
                            gate (roomFor (m0_728.length + [103, 111, 110, 101, 10].length) 1) (
                              some ((m0_728 ++ [103, 111, 110, 101, 10]), m1_729, m1_730, m1_731, m1_732, m1_733, m1_734, m1_735, ())) none
                          else
                            some (m0_728, m1_729, m1_730, m1_731, m1_732, m1_733, m1_734, m1_735, ()) : Option (List Int × List Int × Int × List Int × List Int × Bool × List Int × List Int × Unit))) (fun j736 =>
                          let m0_737 : List Int := j736.1
                          let m1_738 : List Int := j736.2.1
                          let m1_739 : Int := j736.2.2.1
                          let m1_740 : List Int := j736.2.2.2.1
                          let m1_741 : List Int := j736.2.2.2.2.1
                          let m1_742 : Bool := j736.2.2.2.2.2.1
                          let m1_743 : List Int := j736.2.2.2.2.2.2.1
                          let m1_744 : List Int := j736.2.2.2.2.2.2.2.1
                          gate (decide ([97, 98, 111, 117, 116, 32].length + m1_743.length ≤ 140737488355328)) (
                            gate (decide (([97, 98, 111, 117, 116, 32] ++ m1_743).length + [10].length ≤ 140737488355328)) (
                              let t48_745 : List Int := (([97, 98, 111, 117, 116, 32] ++ m1_743) ++ [10])
                              gate (roomFor (m0_737.length + t48_745.length) 1) (
                                bindO (linesGo m1_744) (fun (l756 : List (List Int)) =>
                                  foldR (mail_Print.r0 N s  (v14_717, v15_718, v16_719, ())) (fun (x754 : List Int × Unit) =>
                                  let m0_755 : List Int := x754.1
                                  gate (roomFor (m0_755.length + [46, 10].length) 1) (
                                    let t62_757 : Bool := (decide (((m0_755 ++ [46, 10]).length : Int) > (65536 : Int)))
                                    if t62_757 = true then
                                      kr ([], (2 : Int), ())
                                    else
                                      again ((IntKind.wrap .i64 (v16_719 + (1 : Int))), (m0_755 ++ [46, 10]), ())) s) l756 ((m0_737 ++ t48_745), ())) s) s) s) s) s) s) s) s) s) s) s) s) s) s) s
  else
    k0 (m0_720, ())
def mail_Print (N : Nat) (l0 : List (List Int × Int × List Int × List Int × Bool × List Int × List Int)) : Option (List Int × Int) :=
  bindO (mail_Check N l0) (fun r10_656 =>
    if (!decide (r10_656 = (0 : Int))) = true then
      some ([], r10_656)
    else
      iter (mail_Print.s0 N none (fun (x758 : List Int × Unit) =>
        let m0_759 : List Int := x758.1
        some (m0_759, (0 : Int))) (fun (x760 : List Int × Int × Unit) =>
        let v2_761 : List Int := x760.1
        let v3_762 : Int := x760.2.1
        some (v2_761, v3_762)) (l0, (l0.length : Int), ())) none N ((0 : Int), [], ())) none
def mail_reader_line (N : Nat) (r0 : List Int × Int) : Option ((List Int × Bool) × (List Int × Int)) :=
  gate (bounds (r0.1.length : Int) r0.2 (r0.1.length : Int)) (
    gate (decide ((cut r0.1 r0.2 (r0.1.length : Int)).length < 4294967281)) (
      let t7_777 : List Int := (cutI 10 (cut r0.1 r0.2 (r0.1.length : Int))).1
      let t7_778 : List Int := (cutI 10 (cut r0.1 r0.2 (r0.1.length : Int))).2.1
      let t7_779 : Bool := (cutI 10 (cut r0.1 r0.2 (r0.1.length : Int))).2.2
      if t7_779 = true then
        let t28_780 : Int := (IntKind.wrap .i64 ((t7_777.length : Int) + (1 : Int)))
        some ((t7_777, t7_779), (r0.1, (IntKind.wrap .i64 (r0.2 + t28_780))))
      else
        some ((t7_777, t7_779), r0)) none) none
def stringslite_HasPrefix (N : Nat) (s0 : List Int) (prefix1 : List Int) : Option Bool :=
  bindO (
    let t9_789 : Bool := (decide ((s0.length : Int) ≥ (prefix1.length : Int)))
    if t9_789 = true then
      gate (bounds (s0.length : Int) (0 : Int) (prefix1.length : Int)) (
        let t16_790 : Bool := (decide ((cut s0 (0 : Int) (prefix1.length : Int)) = prefix1))
        some t16_790) none
    else
      some false) (fun (c4_791 : Bool) =>
    some c4_791) none
def stringslite_CutPrefix (N : Nat) (s0 : List Int) (prefix1 : List Int) : Option (List Int × Bool) :=
  bindO (stringslite_HasPrefix N s0 prefix1) (fun r8_794 =>
    if (!r8_794) = true then
      some (s0, false)
    else
      gate (bounds (s0.length : Int) (prefix1.length : Int) (s0.length : Int)) (
        let t14_795 : List Int := (cut s0 (prefix1.length : Int) (s0.length : Int))
        some (t14_795, true)) none) none
def strings_CutPrefix (N : Nat) (s0 : List Int) (prefix1 : List Int) : Option (List Int × Bool) :=
  bindO (stringslite_CutPrefix N s0 prefix1) (fun r8_797 =>
    some r8_797) none
def mail_reader_word (N : Nat) (r0 : List Int × Int) (w1 : List Int) : Option ((List Int × Bool) × (List Int × Int)) :=
  bindO (mail_reader_line N r0) (fun r17_800 =>
    bindO (strings_CutPrefix N r17_800.1.1 w1) (fun r23_801 =>
      bindO (
        if (!r17_800.1.2) = true then
          some true
        else
          some (!r23_801.2)) (fun (c31_802 : Bool) =>
        if c31_802 = true then
          some (([], false), (r17_800.2.1, r0.2))
        else
          some ((r23_801.1, true), r17_800.2)) none) none) none
def strings_Split (N : Nat) (s0 : List Int) (sep1 : List Int) : Option (List (List Int)) :=
  bindO (genSplitF s0 sep1 (0 : Int) (-1 : Int)) (fun r7_805 =>
    some r7_805) none
def stringslite_TrimPrefix (N : Nat) (s0 : List Int) (prefix1 : List Int) : Option (List Int) :=
  bindO (stringslite_HasPrefix N s0 prefix1) (fun r7_828 =>
    if r7_828 = true then
      gate (bounds (s0.length : Int) (prefix1.length : Int) (s0.length : Int)) (
        let t11_829 : List Int := (cut s0 (prefix1.length : Int) (s0.length : Int))
        some t11_829) none
    else
      some s0) none
def strings_TrimPrefix (N : Nat) (s0 : List Int) (prefix1 : List Int) : Option (List Int) :=
  bindO (stringslite_TrimPrefix N s0 prefix1) (fun r7_831 =>
    some r7_831) none
def mail_reader_mail.s0 {R : Type} (N : Nat) (s : R) (kr : (List Int × Int × Bool × List Int × Int × List Int × List Int × Bool × List Int × List Int × Unit) → R) (c894 : Unit) (again : (List Int × Int × List Int × Int × List Int × List Int × Bool × List Int × List Int × List Int × Int × List Int × List Int × Bool × List Int × List Int × List Int × Unit) → R) (v895 : List Int × Int × List Int × Int × List Int × List Int × Bool × List Int × List Int × List Int × Int × List Int × List Int × Bool × List Int × List Int × List Int × Unit) : R :=
  let h0_896 : List Int := v895.1
  let h0_897 : Int := v895.2.1
  let m1_898 : List Int := v895.2.2.1
  let m1_899 : Int := v895.2.2.2.1
  let m1_900 : List Int := v895.2.2.2.2.1
  let m1_901 : List Int := v895.2.2.2.2.2.1
  let m1_902 : Bool := v895.2.2.2.2.2.2.1
  let m1_903 : List Int := v895.2.2.2.2.2.2.2.1
  let m1_904 : List Int := v895.2.2.2.2.2.2.2.2.1
  let m2_905 : List Int := v895.2.2.2.2.2.2.2.2.2.1
  let m2_906 : Int := v895.2.2.2.2.2.2.2.2.2.2.1
  let m2_907 : List Int := v895.2.2.2.2.2.2.2.2.2.2.2.1
  let m2_908 : List Int := v895.2.2.2.2.2.2.2.2.2.2.2.2.1
  let m2_909 : Bool := v895.2.2.2.2.2.2.2.2.2.2.2.2.2.1
  let m2_910 : List Int := v895.2.2.2.2.2.2.2.2.2.2.2.2.2.2.1
  let m2_911 : List Int := v895.2.2.2.2.2.2.2.2.2.2.2.2.2.2.2.1
  let m3_912 : List Int := v895.2.2.2.2.2.2.2.2.2.2.2.2.2.2.2.2.1
  bindO (mail_reader_line N (h0_896, h0_897)) (fun r92_913 =>
    if (!r92_913.1.2) = true then
      kr (r92_913.2.1, r92_913.2.2, false, m2_905, m2_906, m2_907, m2_908, m2_909, m2_910, m2_911, ())
    else
      if (decide (r92_913.1.1 = [46])) = true then
        bindO (mail_one N (m2_905, (m2_906, (m2_907, (m2_908, (m2_909, (m2_910, m3_912))))))) (fun r104_915 =>
          kr (r92_913.2.1, r92_913.2.2, (decide (r104_915 = (0 : Int))), m2_905, m2_906, m2_907, m2_908, m2_909, m2_910, m3_912, ())) s
      else
        bindO (strings_CutPrefix N r92_913.1.1 [46]) (fun r108_916 =>
          bindO (
            if r108_916.2 = true then
              if (decide (r108_916.1 = [])) = true then
                some true
              else
                gate (inR (0 : Int) (r108_916.1.length : Int)) (
                  let t118_918 : Bool := (!decide ((getI 0 r108_916.1 (0 : Int)) = (46 : Int)))
                  some t118_918) none
            else
              some false) (fun (c120_919 : Bool) =>
            if c120_919 = true then
              kr (r92_913.2.1, r92_913.2.2, false, m2_905, m2_906, m2_907, m2_908, m2_909, m2_910, m2_911, ())
            else
              bindO (strings_TrimPrefix N r92_913.1.1 [46]) (fun r123_920 =>
                gate (decide (r123_920.length + [10].length ≤ 140737488355328)) (
                  gate (roomFor (m3_912.length + (r123_920 ++ [10]).length) 1) (
                    again (r92_913.2.1, r92_913.2.2, m1_898, m1_899, m1_900, m1_901, m1_902, m1_903, m1_904, m2_905, m2_906, m2_907, m2_908, m2_909, m2_910, m2_911, (m3_912 ++ (r123_920 ++ [10])), ())) s) s) s) s) s) s
def mail_reader_mail (N : Nat) (r0 : List Int × Int) : Option (((List Int × Int × List Int × List Int × Bool × List Int × List Int) × Bool) × (List Int × Int)) :=
  bindO (mail_reader_word N r0 [109, 97, 105, 108, 32]) (fun r17_864 =>
    bindO (strings_Split N r17_864.1.1 [32]) (fun r21_865 =>
      bindO (
        if (!r17_864.1.2) = true then
          some true
        else
          let t27_867 : Bool := (!decide ((r21_865.length : Int) = (3 : Int)))
          some t27_867) (fun (c28_868 : Bool) =>
        if c28_868 = true then
          some ((([], ((0 : Int), ([], ([], (false, ([], [])))))), false), r17_864.2)
        else
          gate (inR (2 : Int) (r21_865.length : Int)) (
            gate (inR (2 : Int) (r21_865.length : Int)) (
              gate (decide ((getI [] r21_865 (2 : Int)).length ≤ 281474976710656)) (
                bindO (
                  if (!((atoiI (getI [] r21_865 (2 : Int))).2)) = true then
                    some true
                  else
                    bindO (itoaF ((atoiI (getI [] r21_865 (2 : Int))).1)) (fun r41_871 =>
                      gate (inR (2 : Int) (r21_865.length : Int)) (
                        gate (inR (2 : Int) (r21_865.length : Int)) (
                          let t45_872 : Bool := (!decide (r41_871 = (getI [] r21_865 (2 : Int))))
                          some t45_872) none) none) none) (fun (c46_873 : Bool) =>
                  if c46_873 = true then
                    some ((([], ((0 : Int), ([], ([], (false, ([], [])))))), false), r17_864.2)
                  else
                    gate (inR (0 : Int) (r21_865.length : Int)) (
                      gate (inR (0 : Int) (r21_865.length : Int)) (
                        gate (inR (1 : Int) (r21_865.length : Int)) (
                          gate (inR (1 : Int) (r21_865.length : Int)) (
                            bindO (mail_reader_word N r17_864.2 [114, 101, 102, 32]) (fun r60_874 =>
                              bindO (
                                if r60_874.1.2 = true then
                                  some (decide (r60_874.1.1 = []))
                                else
                                  some false) (fun (c69_875 : Bool) =>
                                if c69_875 = true then
                                  some ((((getI [] r21_865 (1 : Int)), ((atoiI (getI [] r21_865 (2 : Int))).1, ((getI [] r21_865 (0 : Int)), (r60_874.1.1, (false, ([], [])))))), false), r60_874.2)
                                else
                                  bindO (mail_reader_word N r60_874.2 [103, 111, 110, 101]) (fun r73_876 =>
                                    if r73_876.1.2 = true then
                                      if (!decide (r73_876.1.1 = [])) = true then
                                        some ((((getI [] r21_865 (1 : Int)), ((atoiI (getI [] r21_865 (2 : Int))).1, ((getI [] r21_865 (0 : Int)), (r60_874.1.1, (true, ([], [])))))), false), r73_876.2)
                                      else
                                        bindO (mail_reader_word N r73_876.2 [97, 98, 111, 117, 116, 32]) (fun r83_877 =>
                                          if (!r83_877.1.2) = true then
                                            some ((((getI [] r21_865 (1 : Int)), ((atoiI (getI [] r21_865 (2 : Int))).1, ((getI [] r21_865 (0 : Int)), (r60_874.1.1, (true, (r83_877.1.1, [])))))), false), r83_877.2)
                                          else
                                            iter (mail_reader_mail.s0 N none (fun (x921 : List Int × Int × Bool × List Int × Int × List Int × List Int × Bool × List Int × List Int × Unit) =>
                                              let h0_922 : List Int := x921.1
                                              let h0_923 : Int := x921.2.1
                                              let v3_924 : Bool := x921.2.2.1
                                              let m1_925 : List Int := x921.2.2.2.1
                                              let m1_926 : Int := x921.2.2.2.2.1
                                              let m1_927 : List Int := x921.2.2.2.2.2.1
                                              let m1_928 : List Int := x921.2.2.2.2.2.2.1
                                              let m1_929 : Bool := x921.2.2.2.2.2.2.2.1
                                              let m1_930 : List Int := x921.2.2.2.2.2.2.2.2.1
                                              let m1_931 : List Int := x921.2.2.2.2.2.2.2.2.2.1
                                              some (((m1_925, (m1_926, (m1_927, (m1_928, (m1_929, (m1_930, m1_931)))))), v3_924), (h0_922, h0_923))) ()) none N (r83_877.2.1, r83_877.2.2, [], (0 : Int), [], [], false, [], [], (getI [] r21_865 (1 : Int)), (atoiI (getI [] r21_865 (2 : Int))).1, (getI [] r21_865 (0 : Int)), r60_874.1.1, true, r83_877.1.1, [], [], ())) none
                                    else
                                      bindO (mail_reader_word N r73_876.2 [97, 98, 111, 117, 116, 32]) (fun r83_932 =>
                                        if (!r83_932.1.2) = true then
                                          some ((((getI [] r21_865 (1 : Int)), ((atoiI (getI [] r21_865 (2 : Int))).1, ((getI [] r21_865 (0 : Int)), (r60_874.1.1, (false, (r83_932.1.1, [])))))), false), r83_932.2)
                                        else
                                          iter (mail_reader_mail.s0 N none (fun (x933 : List Int × Int × Bool × List Int × Int × List Int × List Int × Bool × List Int × List Int × Unit) =>
                                            let h0_934 : List Int := x933.1
                                            let h0_935 : Int := x933.2.1
                                            let v3_936 : Bool := x933.2.2.1
                                            let m1_937 : List Int := x933.2.2.2.1
                                            let m1_938 : Int := x933.2.2.2.2.1
                                            let m1_939 : List Int := x933.2.2.2.2.2.1
                                            let m1_940 : List Int := x933.2.2.2.2.2.2.1
                                            let m1_941 : Bool := x933.2.2.2.2.2.2.2.1
                                            let m1_942 : List Int := x933.2.2.2.2.2.2.2.2.1
                                            let m1_943 : List Int := x933.2.2.2.2.2.2.2.2.2.1
                                            some (((m1_937, (m1_938, (m1_939, (m1_940, (m1_941, (m1_942, m1_943)))))), v3_936), (h0_934, h0_935))) ()) none N (r83_932.2.1, r83_932.2.2, [], (0 : Int), [], [], false, [], [], (getI [] r21_865 (1 : Int)), (atoiI (getI [] r21_865 (2 : Int))).1, (getI [] r21_865 (0 : Int)), r60_874.1.1, false, r83_932.1.1, [], [], ())) none) none) none) none) none) none) none) none) none) none) none) none) none) none) none
def mail_Read.s0 {R : Type} (N : Nat) (s : R) (k0 : (List (List Int × Int × List Int × List Int × Bool × List Int × List Int) × Unit) → R) (kr : (List (List Int × Int × List Int × List Int × Bool × List Int × List Int) × Int × Int × Unit) → R) (c966 : List Int × Unit) (again : (List (List Int × Int × List Int × List Int × Bool × List Int × List Int) × List Int × Int × Unit) → R) (v967 : List (List Int × Int × List Int × List Int × Bool × List Int × List Int) × List Int × Int × Unit) : R :=
  let s0_968 : List Int := c966.1
  let out6_969 : List (List Int × Int × List Int × List Int × Bool × List Int × List Int) := v967.1
  let m0_970 : List Int := v967.2.1
  let m0_971 : Int := v967.2.2.1
  if (decide (m0_971 < (s0_968.length : Int))) = true then
    bindO (mail_reader_mail N (m0_970, m0_971)) (fun r29_972 =>
      if r29_972.1.2 = true then
        gate (bounds (out6_969.length : Int) (0 : Int) (out6_969.length : Int) && decide ((out6_969.length : Int) = (out6_969.length : Int))) (
          gate (roomFor ((cut out6_969 (0 : Int) (out6_969.length : Int)).length + [r29_972.1.1].length) 96 && decide (0 < [r29_972.1.1].length)) (
            let b42_975 : List (List Int × Int × List Int × List Int × Bool × List Int × List Int) := ((cut out6_969 (0 : Int) (out6_969.length : Int)) ++ [r29_972.1.1])
            bindO (mail_Check N b42_975) (fun r43_976 =>
              if (!(decide (r43_976 = (0 : Int)))) = true then
                kr (out6_969, m0_971, (3 : Int), ())
              else
                gate (roomFor (out6_969.length + [r29_972.1.1].length) 96) (
                  again ((out6_969 ++ [r29_972.1.1]), r29_972.2.1, r29_972.2.2, ())) s) s) s) s
      else
        kr (out6_969, m0_971, (3 : Int), ())) s
  else
    k0 (out6_969, ())
def mail_Read (N : Nat) (s0 : List Int) : Option (List (List Int × Int × List Int × List Int × Bool × List Int × List Int) × Int × Int) :=
  if (decide ((s0.length : Int) > (65536 : Int))) = true then
    some ([], ((0 : Int), (2 : Int)))
  else
    iter (mail_Read.s0 N none (fun (x977 : List (List Int × Int × List Int × List Int × Bool × List Int × List Int) × Unit) =>
      let out6_978 : List (List Int × Int × List Int × List Int × Bool × List Int × List Int) := x977.1
      some (out6_978, ((0 : Int), (0 : Int)))) (fun (x979 : List (List Int × Int × List Int × List Int × Bool × List Int × List Int) × Int × Int × Unit) =>
      let v2_980 : List (List Int × Int × List Int × List Int × Bool × List Int × List Int) := x979.1
      let v3_981 : Int := x979.2.1
      let v4_982 : Int := x979.2.2.1
      some (v2_980, (v3_981, v4_982))) (s0, ())) none N ([], s0, (0 : Int), ())
def wrackkeep2_mails (N : Nat) : Option Bool :=
  let b5_989 : List (List Int × Int × List Int × List Int × Bool × List Int × List Int) := [([97], ((5 : Int), ([98], ([], (false, ([], []))))))]
  bindO (mail_Print N b5_989) (fun r6_990 =>
    bindO (
      if (decide (r6_990.2 = (0 : Int))) = true then
        let t13_992 : Bool := (decide (r6_990.1 = [109, 97, 105, 108, 32, 98, 32, 97, 32, 53, 10, 97, 98, 111, 117, 116, 32, 10, 46, 10]))
        some t13_992
      else
        some false) (fun (c0_993 : Bool) =>
      some c0_993) none) none
def slices_Equal_mail_Mail.s0 {R : Type} (N : Nat) (s : R) (k0 : Unit → R) (kr : (Bool × Unit) → R) (c1006 : List (List Int × Int × List Int × List Int × Bool × List Int × List Int) × List (List Int × Int × List Int × List Int × Bool × List Int × List Int) × Int × Unit) (again : (Int × Unit) → R) (v1007 : Int × Unit) : R :=
  let s10_1008 : List (List Int × Int × List Int × List Int × Bool × List Int × List Int) := c1006.1
  let s21_1009 : List (List Int × Int × List Int × List Int × Bool × List Int × List Int) := c1006.2.1
  let v12_1010 : Int := c1006.2.2.1
  let v13_1011 : Int := v1007.1
  if (decide (v13_1011 < v12_1010)) = true then
    gate (inR v13_1011 (s10_1008.length : Int)) (
      let t18_1012 : List Int × Int × List Int × List Int × Bool × List Int × List Int := (getI ([], ((0 : Int), ([], ([], (false, ([], [])))))) s10_1008 v13_1011)
      gate (inR v13_1011 (s21_1009.length : Int)) (
        let t22_1013 : List Int × Int × List Int × List Int × Bool × List Int × List Int := (getI ([], ((0 : Int), ([], ([], (false, ([], [])))))) s21_1009 v13_1011)
        let t24_1014 : Bool := (!(decide (t18_1012.1 = t22_1013.1) && (decide (t18_1012.2.1 = t22_1013.2.1) && (decide (t18_1012.2.2.1 = t22_1013.2.2.1) && (decide (t18_1012.2.2.2.1 = t22_1013.2.2.2.1) && ((t18_1012.2.2.2.2.1 == t22_1013.2.2.2.2.1) && (decide (t18_1012.2.2.2.2.2.1 = t22_1013.2.2.2.2.2.1) && (decide (t18_1012.2.2.2.2.2.2 = t22_1013.2.2.2.2.2.2) && true))))))))
        if t24_1014 = true then
          kr (false, ())
        else
          again ((IntKind.wrap .i64 (v13_1011 + (1 : Int))), ())) s) s
  else
    k0 ()
def slices_Equal_mail_Mail (N : Nat) (s10 : List (List Int × Int × List Int × List Int × Bool × List Int × List Int)) (s21 : List (List Int × Int × List Int × List Int × Bool × List Int × List Int)) : Option Bool :=
  let t10_1002 : Bool := (!decide ((s10.length : Int) = (s21.length : Int)))
  if t10_1002 = true then
    some false
  else
    iter (slices_Equal_mail_Mail.s0 N none (fun (x1015 : Unit) =>
      some true) (fun (x1016 : Bool × Unit) =>
      let v4_1017 : Bool := x1016.1
      some v4_1017) (s10, s21, (s10.length : Int), ())) none N ((0 : Int), ())
def mail_Repair (N : Nat) (s0 : List Int) : Option (List Int × Int × Int) :=
  bindO (mail_Read N s0) (fun r10_1037 =>
    if (decide (r10_1037.2.2 = (3 : Int))) = true then
      gate (bounds (s0.length : Int) (0 : Int) r10_1037.2.1) (
        let t23_1038 : Int := (IntKind.wrap .i64 ((s0.length : Int) - r10_1037.2.1))
        some ((cut s0 (0 : Int) r10_1037.2.1), (t23_1038, (0 : Int)))) none
    else
      if (decide (r10_1037.2.2 = (0 : Int))) = true then
        some (s0, ((0 : Int), (0 : Int)))
      else
        some ([], ((0 : Int), r10_1037.2.2))) none
def strings_HasPrefix (N : Nat) (s0 : List Int) (prefix1 : List Int) : Option Bool :=
  bindO (stringslite_HasPrefix N s0 prefix1) (fun r7_1043 =>
    some r7_1043) none
def wrackkeep2_MailBack.s0 {R : Type} (N : Nat) (s : R) (k0 : (List (List Int × Int × List Int × List Int × Bool × List Int × List Int) × Int × Unit) → R) (c1068 : Int × List Int × Int × Unit) (again : (List (List Int × Int × List Int × List Int × Bool × List Int × List Int) × Int × Int × Unit) → R) (v1069 : List (List Int × Int × List Int × List Int × Bool × List Int × List Int) × Int × Int × Unit) : R :=
  let cut1_1070 : Int := c1068.1
  let s6_1071 : List Int := c1068.2.1
  let v57_1072 : Int := c1068.2.2.1
  let all5_1073 : List (List Int × Int × List Int × List Int × Bool × List Int × List Int) := v1069.1
  let whole11_1074 : Int := v1069.2.1
  let v58_1075 : Int := v1069.2.2.1
  if (decide (v58_1075 < v57_1072)) = true then
    gate (bounds (all5_1073.length : Int) (0 : Int) v58_1075) (
      bindO (mail_Print N (cut all5_1073 (0 : Int) v58_1075)) (fun r65_1076 =>
        bindO (
          if (decide (r65_1076.2 = (0 : Int))) = true then
            let t74_1078 : Bool := (decide ((r65_1076.1.length : Int) ≤ cut1_1070))
            some t74_1078
          else
            some false) (fun (c75_1079 : Bool) =>
          if c75_1079 = true then
            again (all5_1073, v58_1075, (IntKind.wrap .i64 (v58_1075 + (1 : Int))), ())
          else
            again (all5_1073, whole11_1074, (IntKind.wrap .i64 (v58_1075 + (1 : Int))), ())) s) s) s
  else
    k0 (all5_1073, whole11_1074, ())
def wrackkeep2_MailBack (N : Nat) (l0 : List Int) (cut1 : Int) : Option Bool :=
  bindO (wrackkeep2_messages N l0) (fun r22_1050 =>
    bindO (mail_Print N r22_1050) (fun r25_1051 =>
      bindO (mail_Read N r25_1051.1) (fun r30_1052 =>
        bindO (
          bindO (wrackkeep2_mails N) (fun r34_1055 =>
            if (!r34_1055) = true then
              some true
            else
              if (!decide (r25_1051.2 = (0 : Int))) = true then
                some true
              else
                if (!decide (r30_1052.2.2 = (0 : Int))) = true then
                  some true
                else
                  bindO (slices_Equal_mail_Mail N r30_1052.1 r22_1050) (fun r47_1056 =>
                    some (!r47_1056)) none) none) (fun (c49_1057 : Bool) =>
          if c49_1057 = true then
            some false
          else
            let t53_1058 : Int := (IntKind.wrap .i64 ((r25_1051.1.length : Int) + (1 : Int)))
            bindO (wrackmake_Below N cut1 t53_1058) (fun r54_1059 =>
              let t57_1060 : Int := (IntKind.wrap .i64 ((r22_1050.length : Int) + (1 : Int)))
              iter (wrackkeep2_MailBack.s0 N none (fun (x1080 : List (List Int × Int × List Int × List Int × Bool × List Int × List Int) × Int × Unit) =>
                let all5_1081 : List (List Int × Int × List Int × List Int × Bool × List Int × List Int) := x1080.1
                let whole11_1082 : Int := x1080.2.1
                gate (bounds (r25_1051.1.length : Int) (0 : Int) r54_1059) (
                  bindO (mail_Repair N (cut r25_1051.1 (0 : Int) r54_1059)) (fun r82_1083 =>
                    bindO (mail_Read N r82_1083.1) (fun r88_1084 =>
                      bindO (
                        if (decide (r82_1083.2.2 = (0 : Int))) = true then
                          if (decide (r88_1084.2.2 = (0 : Int))) = true then
                            let t102_1088 : Int := (IntKind.wrap .i64 ((r82_1083.1.length : Int) + r82_1083.2.1))
                            if (decide (t102_1088 = r54_1059)) = true then
                              bindO (strings_HasPrefix N r25_1051.1 r82_1083.1) (fun r109_1089 =>
                                if r109_1089 = true then
                                  gate (bounds (all5_1081.length : Int) (0 : Int) whole11_1082) (
                                    bindO (slices_Equal_mail_Mail N r88_1084.1 (cut all5_1081 (0 : Int) whole11_1082)) (fun r116_1090 =>
                                      some r116_1090) none) none
                                else
                                  some false) none
                            else
                              some false
                          else
                            some false
                        else
                          some false) (fun (c4_1091 : Bool) =>
                        some c4_1091) none) none) none) none) (r54_1059, r25_1051.1, t57_1060, ())) none N (r22_1050, (0 : Int), (0 : Int), ())) none) none) none) none) none
end Go.Proofs.YtnklmlnkiepdiaaDoor
