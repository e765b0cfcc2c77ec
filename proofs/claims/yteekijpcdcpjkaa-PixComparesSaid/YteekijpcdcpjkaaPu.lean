import Derived.Test.YteekijpcdcpjkaaAbIterFn
import Derived.Test.YteekijpcdcpjkaaAbSortFn
import Derived.Test.YteekijpcdcpjkaaAbDen
set_option linter.unusedVariables false
namespace Go.Proofs.Yteekijpcdcpjkaa
open Go Go.Ab
def slices_Max_byte.s0 {R : Type} (N : Nat) (s : R) (k0 : (Int × Unit) → R) (c5 : List Int × Unit) (again : (Int × Int × Unit) → R) (v6 : Int × Int × Unit) : R :=
  let x0_7 : List Int := c5.1
  let m3_8 : Int := v6.1
  let i4_9 : Int := v6.2.1
  if (decide (i4_9 < (x0_7.length : Int))) = true then
    gate (inR i4_9 (x0_7.length : Int)) (
      again ((maxI m3_8 (getI (0 : Int) x0_7 i4_9)), (IntKind.wrap .i64 (i4_9 + (1 : Int))), ())) s
  else
    k0 (m3_8, ())
def slices_Max_byte (N : Nat) (x0 : List Int) : Option Int :=
  if (decide ((x0.length : Int) < (1 : Int))) = true then
    none
  else
    gate (inR (0 : Int) (x0.length : Int)) (
      iter (slices_Max_byte.s0 N none (fun (x10 : Int × Unit) =>
        let m3_11 : Int := x10.1
        some m3_11) (x0, ())) none N ((getI (0 : Int) x0 (0 : Int)), (1 : Int), ())) none
def pix_Check (N : Nat) (p0 : Int × Int × List Int) : Option Int :=
  bindO (
    if (decide (p0.1 < (1 : Int))) = true then
      some true
    else
      if (decide (p0.1 > (64 : Int))) = true then
        some true
      else
        if (decide (p0.2.1 < (1 : Int))) = true then
          some true
        else
          some (decide (p0.2.1 > (64 : Int)))) (fun (c3_13 : Bool) =>
    if c3_13 = true then
      some (4 : Int)
    else
      let t31_14 : Bool := (!decide ((p0.2.2.length : Int) = (IntKind.wrap .i64 (p0.1 * p0.2.1))))
      if t31_14 = true then
        some (3 : Int)
      else
        bindO (slices_Max_byte N p0.2.2) (fun r35_15 =>
          if (decide (r35_15 ≥ (16 : Int))) = true then
            some (4 : Int)
          else
            some (0 : Int)) none) none
def sum_Crc.s1 {R : Type} (N : Nat) (s : R) (k2 : (Int × Unit) → R) (c82 : List Int × Int × Int × Unit) (again : (Int × Int × Unit) → R) (v83 : Int × Int × Unit) : R :=
  let v6_84 : List Int := c82.1
  let v7_85 : Int := c82.2.1
  let v8_86 : Int := c82.2.2.1
  let c3_87 : Int := v83.1
  let v16_88 : Int := v83.2.1
  if (decide (v16_88 < (8 : Int))) = true then
    gate (decide (0 ≤ (1 : Int))) (
      let t22_89 : Int := (IntKind.wrap .u32 ((bitAnd .u32 c3_87 (1 : Int)) * (3988292384 : Int)))
      let t23_90 : Int := (bitXor .u32 (shrI .u32 c3_87 (1 : Int)) t22_89)
      again (t23_90, (IntKind.wrap .i64 (v16_88 + (1 : Int))), ())) s
  else
    k2 (c3_87, ())
def sum_Crc.s0 {R : Type} (N : Nat) (s : R) (k0 : (Int × Unit) → R) (c73 : List Int × Int × Unit) (again : (Int × Int × Unit) → R) (v74 : Int × Int × Unit) : R :=
  let v6_75 : List Int := c73.1
  let v7_76 : Int := c73.2.1
  let c3_77 : Int := v74.1
  let v8_78 : Int := v74.2.1
  if (decide (v8_78 < v7_76)) = true then
    gate (inR v8_78 (v6_75.length : Int)) (
      let t14_79 : Int := (IntKind.wrap .u32 ((getI (0 : Int) v6_75 v8_78)))
      iter (sum_Crc.s1 N s (fun (x91 : Int × Unit) =>
        let c3_92 : Int := x91.1
        again (c3_92, (IntKind.wrap .i64 (v8_78 + (1 : Int))), ())) (v6_75, v7_76, v8_78, ())) s N ((bitXor .u32 c3_77 t14_79), (0 : Int), ())) s
  else
    k0 (c3_77, ())
def sum_Crc (N : Nat) (b0 : List Int) : Option Int :=
  iter (sum_Crc.s0 N none (fun (x93 : Int × Unit) =>
    let c3_94 : Int := x93.1
    let t28_95 : Int := (IntKind.wrap .i64 ((bitXor .u32 4294967295 c3_94)))
    some t28_95) (b0, (b0.length : Int), ())) none N ((4294967295 : Int), (0 : Int), ())
def pix_row.s1 {R : Type} (N : Nat) (s : R) (k2 : (List Int × Int × Unit) → R) (c153 : List Int × Int × Unit) (again : (List Int × Int × Unit) → R) (v154 : List Int × Int × Unit) : R :=
  let dots0_155 : List Int := c153.1
  let i4_156 : Int := c153.2.1
  let out3_157 : List Int := v154.1
  let n5_158 : Int := v154.2.1
  bindO (
    if (decide (n5_158 < (16 : Int))) = true then
      let t19_162 : Bool := (decide ((IntKind.wrap .i64 (i4_156 + n5_158)) < (dots0_155.length : Int)))
      if t19_162 = true then
        gate (inR (IntKind.wrap .i64 (i4_156 + n5_158)) (dots0_155.length : Int)) (
          let t26_163 : Int := (getI (0 : Int) dots0_155 (IntKind.wrap .i64 (i4_156 + n5_158)))
          gate (inR i4_156 (dots0_155.length : Int)) (
            let t32_164 : Bool := (decide (t26_163 = (getI (0 : Int) dots0_155 i4_156)))
            some t32_164) none) none
      else
        some false
    else
      some false) (fun (c33_165 : Bool) =>
    if c33_165 = true then
      again (out3_157, (IntKind.wrap .i64 (n5_158 + (1 : Int))), ())
    else
      k2 (out3_157, n5_158, ())) s
def pix_row.s0 {R : Type} (N : Nat) (s : R) (k0 : (List Int × Unit) → R) (c135 : List Int × Unit) (again : (List Int × Int × Unit) → R) (v136 : List Int × Int × Unit) : R :=
  let dots0_137 : List Int := c135.1
  let out3_138 : List Int := v136.1
  let i4_139 : Int := v136.2.1
  if (decide (i4_139 < (dots0_137.length : Int))) = true then
    iter (pix_row.s1 N s (fun (x166 : List Int × Int × Unit) =>
      let out3_167 : List Int := x166.1
      let n5_168 : Int := x166.2.1
      let t39_169 : Int := (IntKind.wrap .u8 ((IntKind.wrap .i64 (n5_168 - (1 : Int)))))
      gate (decide (0 ≤ (4 : Int))) (
        gate (inR i4_139 (dots0_137.length : Int)) (
          let t45_170 : Int := (bitOr .u8 (shlI .u8 t39_169 (4 : Int)) (getI (0 : Int) dots0_137 i4_139))
          gate (roomFor (out3_167.length + [t45_170].length) 1) (
            again ((out3_167 ++ [t45_170]), (IntKind.wrap .i64 (i4_139 + n5_168)), ())) s) s) s) (dots0_137, i4_139, ())) s N (out3_138, (1 : Int), ())
  else
    k0 (out3_138, ())
def pix_row (N : Nat) (dots0 : List Int) : Option (List Int) :=
  iter (pix_row.s0 N none (fun (x171 : List Int × Unit) =>
    let out3_172 : List Int := x171.1
    let t54_173 : Int := (IntKind.wrap .i64 ((out3_172.length : Int) - (1 : Int)))
    gate (inR (0 : Int) (out3_172.length : Int)) (
      gate (inR (0 : Int) (out3_172.length : Int)) (
        let bx_174 : List Int := (out3_172.set ((0 : Int)).toNat (IntKind.wrap .u8 (t54_173)))
        bindO (sum_Crc N bx_174) (fun r59_175 =>
          gate (roomFor (bx_174.length + [(IntKind.wrap .u8 (r59_175))].length) 1) (
            some (bx_174 ++ [(IntKind.wrap .u8 (r59_175))])) none) none) none) none) (dots0, ())) none N ([(0 : Int)], (0 : Int), ())
def pix_Make.r0 {R : Type} (N : Nat) (s : R) (c183 : Unit) (x185 : List Int) (again : (List Int × Unit) → R) (v184 : List Int × Unit) : R :=
  let m0_186 : List Int := v184.1
  bindO (pix_row N x185) (fun r27_187 =>
    gate (roomFor (m0_186.length + r27_187.length) 1) (
      again ((m0_186 ++ r27_187), ())) s) s
def pix_Make (N : Nat) (p0 : Int × Int × List Int) : Option (List Int × Int) :=
  bindO (pix_Check N p0) (fun r8_180 =>
    if (!decide (r8_180 = (0 : Int))) = true then
      some ([], r8_180)
    else
      let b18_181 : List Int := [(112 : Int), (105 : Int), (120 : Int), (IntKind.wrap .u8 (p0.1)), (IntKind.wrap .u8 (p0.2.1))]
      if (decide (p0.1 < (1 : Int))) = true then
        none
      else
        bindO (chunkGo p0.2.2 p0.1) (fun (l190 : List (List Int)) =>
          foldR (pix_Make.r0 N none  ()) (fun (x188 : List Int × Unit) =>
          let m0_189 : List Int := x188.1
          some (m0_189, (0 : Int))) l190 (b18_181, ())) none) none
def wrackref2_PictureErr.s0 {R : Type} (N : Nat) (s : R) (k0 : Unit → R) (kr : (Int × Unit) → R) (c201 : List Int × Int × Unit) (again : (Int × Unit) → R) (v202 : Int × Unit) : R :=
  let v29_203 : List Int := c201.1
  let v30_204 : Int := c201.2.1
  let v31_205 : Int := v202.1
  if (decide (v31_205 < v30_204)) = true then
    gate (inR v31_205 (v29_203.length : Int)) (
      let t36_206 : Bool := (decide ((getI (0 : Int) v29_203 v31_205) > (15 : Int)))
      if t36_206 = true then
        kr ((4 : Int), ())
      else
        again ((IntKind.wrap .i64 (v31_205 + (1 : Int))), ())) s
  else
    k0 ()
def wrackref2_PictureErr (N : Nat) (p0 : Int × Int × List Int) : Option Int :=
  bindO (
    if (decide ((minI p0.1 p0.2.1) < (1 : Int))) = true then
      some true
    else
      some (decide ((maxI p0.1 p0.2.1) > (64 : Int)))) (fun (c18_198 : Bool) =>
    if c18_198 = true then
      some (4 : Int)
    else
      let t27_199 : Bool := (!decide ((p0.2.2.length : Int) = (IntKind.wrap .i64 (p0.1 * p0.2.1))))
      if t27_199 = true then
        some (3 : Int)
      else
        iter (wrackref2_PictureErr.s0 N none (fun (x207 : Unit) =>
          some (0 : Int)) (fun (x208 : Int × Unit) =>
          let v2_209 : Int := x208.1
          some v2_209) (p0.2.2, (p0.2.2.length : Int), ())) none N ((0 : Int), ())) none
def wracklaw2_pictures (N : Nat) : Option Bool :=
  bindO (pix_Make N ((2 : Int), ((1 : Int), [(3 : Int), (3 : Int)]))) (fun r6_217 =>
    bindO (
      if (decide (r6_217.2 = (0 : Int))) = true then
        let t14_220 : Bool := (decide ((r6_217.1.length : Int) = (8 : Int)))
        if t14_220 = true then
          gate (inR (6 : Int) (r6_217.1.length : Int)) (
            gate (inR (6 : Int) (r6_217.1.length : Int)) (
              let t20_221 : Bool := (decide ((getI (0 : Int) r6_217.1 (6 : Int)) = (19 : Int)))
              some t20_221) none) none
        else
          some false
      else
        some false) (fun (c0_222 : Bool) =>
      some c0_222) none) none
def wrackref2_Crc.s1 {R : Type} (N : Nat) (s : R) (k2 : (Int × Unit) → R) (c286 : List Int × Int × Int × Unit) (again : (Int × Int × Unit) → R) (v287 : Int × Int × Unit) : R :=
  let v6_288 : List Int := c286.1
  let v7_289 : Int := c286.2.1
  let v8_290 : Int := c286.2.2.1
  let c3_291 : Int := v287.1
  let v16_292 : Int := v287.2.1
  if (decide (v16_292 < (8 : Int))) = true then
    gate (decide ((2 : Int) ≠ 0)) (
      let t20_293 : Bool := (decide ((Int.tmod c3_291 (2 : Int)) = (1 : Int)))
      if t20_293 = true then
        gate (decide ((2 : Int) ≠ 0)) (
          let t22_294 : Int := (IntKind.wrap .u32 (Int.tdiv c3_291 (2 : Int)))
          again ((bitXor .u32 t22_294 (3988292384 : Int)), (IntKind.wrap .i64 (v16_292 + (1 : Int))), ())) s
      else
        gate (decide ((2 : Int) ≠ 0)) (
          let t25_295 : Int := (IntKind.wrap .u32 (Int.tdiv c3_291 (2 : Int)))
          again (t25_295, (IntKind.wrap .i64 (v16_292 + (1 : Int))), ())) s) s
  else
    k2 (c3_291, ())
def wrackref2_Crc.s0 {R : Type} (N : Nat) (s : R) (k0 : (Int × Unit) → R) (c277 : List Int × Int × Unit) (again : (Int × Int × Unit) → R) (v278 : Int × Int × Unit) : R :=
  let v6_279 : List Int := c277.1
  let v7_280 : Int := c277.2.1
  let c3_281 : Int := v278.1
  let v8_282 : Int := v278.2.1
  if (decide (v8_282 < v7_280)) = true then
    gate (inR v8_282 (v6_279.length : Int)) (
      let t14_283 : Int := (IntKind.wrap .u32 ((getI (0 : Int) v6_279 v8_282)))
      iter (wrackref2_Crc.s1 N s (fun (x296 : Int × Unit) =>
        let c3_297 : Int := x296.1
        again (c3_297, (IntKind.wrap .i64 (v8_282 + (1 : Int))), ())) (v6_279, v7_280, v8_282, ())) s N ((bitXor .u32 c3_281 t14_283), (0 : Int), ())) s
  else
    k0 (c3_281, ())
def wrackref2_Crc (N : Nat) (b0 : List Int) : Option Int :=
  iter (wrackref2_Crc.s0 N none (fun (x298 : Int × Unit) =>
    let c3_299 : Int := x298.1
    let t30_300 : Int := (IntKind.wrap .i64 ((bitXor .u32 4294967295 c3_299)))
    some t30_300) (b0, (b0.length : Int), ())) none N ((4294967295 : Int), (0 : Int), ())
def wrackref2_PictureBytes.s1 {R : Type} (N : Nat) (s : R) (k2 : (List Int × List Int × Int × Int × List Int × Unit) → R) (c376 : Int × Int × Int × Int × Unit) (again : (List Int × List Int × Int × Int × Int × List Int × Unit) → R) (v377 : List Int × List Int × Int × Int × Int × List Int × Unit) : R :=
  let y4_378 : Int := c376.1
  let v17_379 : Int := c376.2.1
  let v18_380 : Int := c376.2.2.1
  let v23_381 : Int := c376.2.2.2.1
  let out3_382 : List Int := v377.1
  let r5_383 : List Int := v377.2.1
  let v24_384 : Int := v377.2.2.1
  let m0_385 : Int := v377.2.2.2.1
  let m0_386 : Int := v377.2.2.2.2.1
  let m0_387 : List Int := v377.2.2.2.2.2.1
  if (decide (v24_384 < v23_381)) = true then
    let t34_388 : Int := (IntKind.wrap .i64 ((IntKind.wrap .i64 (y4_378 * m0_385)) + v24_384))
    gate (inR t34_388 (m0_387.length : Int)) (
      let t39_389 : Int := (IntKind.wrap .i64 ((r5_383.length : Int) - (1 : Int)))
      bindO (
        if (decide (t39_389 > (0 : Int))) = true then
          gate (inR t39_389 (r5_383.length : Int)) (
            gate (inR t39_389 (r5_383.length : Int)) (
              gate (decide ((16 : Int) ≠ 0)) (
                let t47_393 : Int := (Int.tmod (getI (0 : Int) r5_383 t39_389) (16 : Int))
                let t49_394 : Bool := (decide (t47_393 = (getI (0 : Int) m0_387 t34_388)))
                if t49_394 = true then
                  gate (inR t39_389 (r5_383.length : Int)) (
                    gate (inR t39_389 (r5_383.length : Int)) (
                      let t56_395 : Bool := (decide ((getI (0 : Int) r5_383 t39_389) < (240 : Int)))
                      some t56_395) none) none
                else
                  some false) none) none) none
        else
          some false) (fun (c57_396 : Bool) =>
        if c57_396 = true then
          gate (inR t39_389 (r5_383.length : Int)) (
            gate (inR t39_389 (r5_383.length : Int)) (
              let t62_397 : Int := (IntKind.wrap .u8 ((getI (0 : Int) r5_383 t39_389) + (16 : Int)))
              gate (inR t39_389 (r5_383.length : Int)) (
                gate (inR t39_389 (r5_383.length : Int)) (
                  again (out3_382, (r5_383.set (t39_389).toNat t62_397), (IntKind.wrap .i64 (v24_384 + (1 : Int))), m0_385, m0_386, m0_387, ())) s) s) s) s
        else
          gate (roomFor (r5_383.length + [(getI (0 : Int) m0_387 t34_388)].length) 1) (
            let b67_398 : List Int := (r5_383 ++ [(getI (0 : Int) m0_387 t34_388)])
            again (out3_382, b67_398, (IntKind.wrap .i64 (v24_384 + (1 : Int))), m0_385, m0_386, m0_387, ())) s) s) s
  else
    k2 (out3_382, r5_383, m0_385, m0_386, m0_387, ())
def wrackref2_PictureBytes.s0 {R : Type} (N : Nat) (s : R) (k0 : (List Int × Unit) → R) (c342 : Int × Unit) (again : (List Int × Int × Int × Int × List Int × Unit) → R) (v343 : List Int × Int × Int × Int × List Int × Unit) : R :=
  let v17_344 : Int := c342.1
  let out3_345 : List Int := v343.1
  let v18_346 : Int := v343.2.1
  let m0_347 : Int := v343.2.2.1
  let m0_348 : Int := v343.2.2.2.1
  let m0_349 : List Int := v343.2.2.2.2.1
  if (decide (v18_346 < v17_344)) = true then
    iter (wrackref2_PictureBytes.s1 N s (fun (x399 : List Int × List Int × Int × Int × List Int × Unit) =>
      let out3_400 : List Int := x399.1
      let r5_401 : List Int := x399.2.1
      let m0_402 : Int := x399.2.2.1
      let m0_403 : Int := x399.2.2.2.1
      let m0_404 : List Int := x399.2.2.2.2.1
      let t72_405 : Int := (IntKind.wrap .i64 ((r5_401.length : Int) - (1 : Int)))
      gate (inR (0 : Int) (r5_401.length : Int)) (
        gate (inR (0 : Int) (r5_401.length : Int)) (
          let bx_406 : List Int := (r5_401.set ((0 : Int)).toNat (IntKind.wrap .u8 (t72_405)))
          gate (roomFor (out3_400.length + bx_406.length) 1) (
            bindO (wrackref2_Crc N bx_406) (fun r79_407 =>
              gate (decide ((256 : Int) ≠ 0)) (
                let t81_408 : Int := (IntKind.wrap .u8 ((Int.tmod r79_407 (256 : Int))))
                gate (roomFor ((out3_400 ++ bx_406).length + [t81_408].length) 1) (
                  again (((out3_400 ++ bx_406) ++ [t81_408]), (IntKind.wrap .i64 (v18_346 + (1 : Int))), m0_402, m0_403, m0_404, ())) s) s) s) s) s) s) (v18_346, v17_344, v18_346, m0_347, ())) s N (out3_345, [(0 : Int)], (0 : Int), m0_347, m0_348, m0_349, ())
  else
    k0 (out3_345, ())
def wrackref2_PictureBytes (N : Nat) (p0 : Int × Int × List Int) : Option (List Int) :=
  let b15_305 : List Int := [(112 : Int), (105 : Int), (120 : Int), (IntKind.wrap .u8 (p0.1)), (IntKind.wrap .u8 (p0.2.1))]
  iter (wrackref2_PictureBytes.s0 N none (fun (x409 : List Int × Unit) =>
    let out3_410 : List Int := x409.1
    some out3_410) (p0.2.1, ())) none N (b15_305, (0 : Int), p0.1, p0.2.1, p0.2.2, ())
def slices_Equal_byte.s0 {R : Type} (N : Nat) (s : R) (k0 : Unit → R) (kr : (Bool × Unit) → R) (c419 : List Int × List Int × Int × Unit) (again : (Int × Unit) → R) (v420 : Int × Unit) : R :=
  let s10_421 : List Int := c419.1
  let s21_422 : List Int := c419.2.1
  let v12_423 : Int := c419.2.2.1
  let v13_424 : Int := v420.1
  if (decide (v13_424 < v12_423)) = true then
    gate (inR v13_424 (s10_421.length : Int)) (
      gate (inR v13_424 (s21_422.length : Int)) (
        let t24_425 : Bool := (!decide ((getI (0 : Int) s10_421 v13_424) = (getI (0 : Int) s21_422 v13_424)))
        if t24_425 = true then
          kr (false, ())
        else
          again ((IntKind.wrap .i64 (v13_424 + (1 : Int))), ())) s) s
  else
    k0 ()
def slices_Equal_byte (N : Nat) (s10 : List Int) (s21 : List Int) : Option Bool :=
  let t10_417 : Bool := (!decide ((s10.length : Int) = (s21.length : Int)))
  if t10_417 = true then
    some false
  else
    iter (slices_Equal_byte.s0 N none (fun (x426 : Unit) =>
      some true) (fun (x427 : Bool × Unit) =>
      let v4_428 : Bool := x427.1
      some v4_428) (s10, s21, (s10.length : Int), ())) none N ((0 : Int), ())
def wracklaw2_PixMakes (N : Nat) (p0 : Int × Int × List Int) : Option Bool :=
  bindO (pix_Make N p0) (fun r8_437 =>
    bindO (wrackref2_PictureErr N p0) (fun r12_438 =>
      bindO (
        bindO (wracklaw2_pictures N) (fun r13_441 =>
          if (!r13_441) = true then
            some true
          else
            bindO (pix_Check N p0) (fun r17_442 =>
              if (!decide (r17_442 = r12_438)) = true then
                some true
              else
                some (!decide (r8_437.2 = r12_438))) none) none) (fun (c25_443 : Bool) =>
        if c25_443 = true then
          some false
        else
          if (!decide (r12_438 = (0 : Int))) = true then
            let t31_449 : Bool := (decide ((r8_437.1.length : Int) = (0 : Int)))
            if t31_449 = true then
              some true
            else
              if (decide (r12_438 = (0 : Int))) = true then
                bindO (wrackref2_PictureBytes N p0) (fun r39_450 =>
                  bindO (slices_Equal_byte N r8_437.1 r39_450) (fun r40_451 =>
                    some r40_451) none) none
              else
                some false
          else
            if (decide (r12_438 = (0 : Int))) = true then
              bindO (wrackref2_PictureBytes N p0) (fun r39_452 =>
                bindO (slices_Equal_byte N r8_437.1 r39_452) (fun r40_453 =>
                  some r40_453) none) none
            else
              some false) none) none) none
def pix_Small.s3 {R : Type} (N : Nat) (s : R) (k6 : (Int × Int × Int × Int × List Int × Int × Int × Int × Int × List Int × Unit) → R) (c953 : Int × Int × Int × Int × Unit) (again : (Int × Int × Int × Int × Int × List Int × Int × Int × Int × Int × List Int × Unit) → R) (v954 : Int × Int × Int × Int × Int × List Int × Int × Int × Int × Int × List Int × Unit) : R :=
  let side1_955 : Int := c953.1
  let y8_956 : Int := c953.2.1
  let x9_957 : Int := c953.2.2.1
  let v12_958 : Int := c953.2.2.2.1
  let total10_959 : Int := v954.1
  let many11_960 : Int := v954.2.1
  let u13_961 : Int := v954.2.2.1
  let m0_962 : Int := v954.2.2.2.1
  let m0_963 : Int := v954.2.2.2.2.1
  let m0_964 : List Int := v954.2.2.2.2.2.1
  let m1_965 : Int := v954.2.2.2.2.2.2.1
  let m1_966 : Int := v954.2.2.2.2.2.2.2.1
  let m2_967 : Int := v954.2.2.2.2.2.2.2.2.1
  let m2_968 : Int := v954.2.2.2.2.2.2.2.2.2.1
  let m2_969 : List Int := v954.2.2.2.2.2.2.2.2.2.2.1
  let t74_970 : Int := (minI (IntKind.wrap .i64 (x9_957 + side1_955)) m0_962)
  if (decide (u13_961 < t74_970)) = true then
    let t86_971 : Int := (IntKind.wrap .i64 ((IntKind.wrap .i64 (v12_958 * m0_962)) + u13_961))
    gate (inR t86_971 (m0_964.length : Int)) (
      let t89_972 : Int := (IntKind.wrap .i64 ((getI (0 : Int) m0_964 t86_971)))
      again ((IntKind.wrap .i64 (total10_959 + t89_972)), (IntKind.wrap .i64 (many11_960 + (1 : Int))), (IntKind.wrap .i64 (u13_961 + (1 : Int))), m0_962, m0_963, m0_964, m1_965, m1_966, m2_967, m2_968, m2_969, ())) s
  else
    k6 (total10_959, many11_960, m0_962, m0_963, m0_964, m1_965, m1_966, m2_967, m2_968, m2_969, ())
def pix_Small.s2 {R : Type} (N : Nat) (s : R) (k4 : (Int × Int × Int × Int × List Int × Int × Int × Int × Int × List Int × Unit) → R) (c933 : Int × Int × Int × Unit) (again : (Int × Int × Int × Int × Int × List Int × Int × Int × Int × Int × List Int × Unit) → R) (v934 : Int × Int × Int × Int × Int × List Int × Int × Int × Int × Int × List Int × Unit) : R :=
  let side1_935 : Int := c933.1
  let y8_936 : Int := c933.2.1
  let x9_937 : Int := c933.2.2.1
  let total10_938 : Int := v934.1
  let many11_939 : Int := v934.2.1
  let v12_940 : Int := v934.2.2.1
  let m0_941 : Int := v934.2.2.2.1
  let m0_942 : Int := v934.2.2.2.2.1
  let m0_943 : List Int := v934.2.2.2.2.2.1
  let m1_944 : Int := v934.2.2.2.2.2.2.1
  let m1_945 : Int := v934.2.2.2.2.2.2.2.1
  let m2_946 : Int := v934.2.2.2.2.2.2.2.2.1
  let m2_947 : Int := v934.2.2.2.2.2.2.2.2.2.1
  let m2_948 : List Int := v934.2.2.2.2.2.2.2.2.2.2.1
  let t63_949 : Int := (minI (IntKind.wrap .i64 (y8_936 + side1_935)) m0_942)
  if (decide (v12_940 < t63_949)) = true then
    iter (pix_Small.s3 N s (fun (x973 : Int × Int × Int × Int × List Int × Int × Int × Int × Int × List Int × Unit) =>
      let total10_974 : Int := x973.1
      let many11_975 : Int := x973.2.1
      let m0_976 : Int := x973.2.2.1
      let m0_977 : Int := x973.2.2.2.1
      let m0_978 : List Int := x973.2.2.2.2.1
      let m1_979 : Int := x973.2.2.2.2.2.1
      let m1_980 : Int := x973.2.2.2.2.2.2.1
      let m2_981 : Int := x973.2.2.2.2.2.2.2.1
      let m2_982 : Int := x973.2.2.2.2.2.2.2.2.1
      let m2_983 : List Int := x973.2.2.2.2.2.2.2.2.2.1
      again (total10_974, many11_975, (IntKind.wrap .i64 (v12_940 + (1 : Int))), m0_976, m0_977, m0_978, m1_979, m1_980, m2_981, m2_982, m2_983, ())) (side1_935, y8_936, x9_937, v12_940, ())) s N (total10_938, many11_939, x9_937, m0_941, m0_942, m0_943, m1_944, m1_945, m2_946, m2_947, m2_948, ())
  else
    k4 (total10_938, many11_939, m0_941, m0_942, m0_943, m1_944, m1_945, m2_946, m2_947, m2_948, ())
def pix_Small.s1 {R : Type} (N : Nat) (s : R) (k2 : (Int × Int × List Int × Int × Int × Int × Int × List Int × Unit) → R) (c879 : Int × Int × Unit) (again : (Int × Int × Int × List Int × Int × Int × Int × Int × List Int × Unit) → R) (v880 : Int × Int × Int × List Int × Int × Int × Int × Int × List Int × Unit) : R :=
  let side1_881 : Int := c879.1
  let y8_882 : Int := c879.2.1
  let x9_883 : Int := v880.1
  let m0_884 : Int := v880.2.1
  let m0_885 : Int := v880.2.2.1
  let m0_886 : List Int := v880.2.2.2.1
  let m1_887 : Int := v880.2.2.2.2.1
  let m1_888 : Int := v880.2.2.2.2.2.1
  let m2_889 : Int := v880.2.2.2.2.2.2.1
  let m2_890 : Int := v880.2.2.2.2.2.2.2.1
  let m2_891 : List Int := v880.2.2.2.2.2.2.2.2.1
  if (decide (x9_883 < m0_884)) = true then
    iter (pix_Small.s2 N s (fun (x984 : Int × Int × Int × Int × List Int × Int × Int × Int × Int × List Int × Unit) =>
      let total10_985 : Int := x984.1
      let many11_986 : Int := x984.2.1
      let m0_987 : Int := x984.2.2.1
      let m0_988 : Int := x984.2.2.2.1
      let m0_989 : List Int := x984.2.2.2.2.1
      let m1_990 : Int := x984.2.2.2.2.2.1
      let m1_991 : Int := x984.2.2.2.2.2.2.1
      let m2_992 : Int := x984.2.2.2.2.2.2.2.1
      let m2_993 : Int := x984.2.2.2.2.2.2.2.2.1
      let m2_994 : List Int := x984.2.2.2.2.2.2.2.2.2.1
      gate (decide (many11_986 ≠ 0)) (
        let t97_995 : Int := (IntKind.wrap .i64 (Int.tdiv total10_985 many11_986))
        gate (roomFor (m2_994.length + [(IntKind.wrap .u8 (t97_995))].length) 1) (
          again ((IntKind.wrap .i64 (x9_883 + side1_881)), m0_987, m0_988, m0_989, m1_990, m1_991, m2_992, m2_993, (m2_994 ++ [(IntKind.wrap .u8 (t97_995))]), ())) s) s) (side1_881, y8_882, x9_883, ())) s N ((0 : Int), (0 : Int), y8_882, m0_884, m0_885, m0_886, m1_887, m1_888, m2_889, m2_890, m2_891, ())
  else
    k2 (m0_884, m0_885, m0_886, m1_887, m1_888, m2_889, m2_890, m2_891, ())
def pix_Small.s0 {R : Type} (N : Nat) (s : R) (k0 : (Int × Int × Int × Int × List Int × Unit) → R) (c814 : Int × Unit) (again : (Int × Int × Int × List Int × Int × Int × Int × Int × List Int × Unit) → R) (v815 : Int × Int × Int × List Int × Int × Int × Int × Int × List Int × Unit) : R :=
  let side1_816 : Int := c814.1
  let y8_817 : Int := v815.1
  let m0_818 : Int := v815.2.1
  let m0_819 : Int := v815.2.2.1
  let m0_820 : List Int := v815.2.2.2.1
  let m1_821 : Int := v815.2.2.2.2.1
  let m1_822 : Int := v815.2.2.2.2.2.1
  let m2_823 : Int := v815.2.2.2.2.2.2.1
  let m2_824 : Int := v815.2.2.2.2.2.2.2.1
  let m2_825 : List Int := v815.2.2.2.2.2.2.2.2.1
  if (decide (y8_817 < m0_819)) = true then
    iter (pix_Small.s1 N s (fun (x996 : Int × Int × List Int × Int × Int × Int × Int × List Int × Unit) =>
      let m0_997 : Int := x996.1
      let m0_998 : Int := x996.2.1
      let m0_999 : List Int := x996.2.2.1
      let m1_1000 : Int := x996.2.2.2.1
      let m1_1001 : Int := x996.2.2.2.2.1
      let m2_1002 : Int := x996.2.2.2.2.2.1
      let m2_1003 : Int := x996.2.2.2.2.2.2.1
      let m2_1004 : List Int := x996.2.2.2.2.2.2.2.1
      again ((IntKind.wrap .i64 (y8_817 + side1_816)), m0_997, m0_998, m0_999, m1_1000, m1_1001, m2_1002, m2_1003, m2_1004, ())) (side1_816, y8_817, ())) s N ((0 : Int), m0_818, m0_819, m0_820, m1_821, m1_822, m2_823, m2_824, m2_825, ())
  else
    k0 (m1_821, m1_822, m2_823, m2_824, m2_825, ())
def pix_Small (N : Nat) (p0 : Int × Int × List Int) (side1 : Int) : Option ((Int × Int × List Int) × Int) :=
  bindO (pix_Check N p0) (fun r15_637 =>
    if (!decide (r15_637 = (0 : Int))) = true then
      some (((0 : Int), ((0 : Int), [])), r15_637)
    else
      bindO (
        if (decide (side1 < (1 : Int))) = true then
          some true
        else
          some (decide (side1 > (64 : Int)))) (fun (c25_638 : Bool) =>
        if c25_638 = true then
          some (((0 : Int), ((0 : Int), [])), (1 : Int))
        else
          let t31_639 : Int := (IntKind.wrap .i64 ((IntKind.wrap .i64 (p0.1 + side1)) - (1 : Int)))
          gate (decide (side1 ≠ 0)) (
            let t38_640 : Int := (IntKind.wrap .i64 ((IntKind.wrap .i64 (p0.2.1 + side1)) - (1 : Int)))
            gate (decide (side1 ≠ 0)) (
              iter (pix_Small.s0 N none (fun (x1005 : Int × Int × Int × Int × List Int × Unit) =>
                let m0_1006 : Int := x1005.1
                let m0_1007 : Int := x1005.2.1
                let m1_1008 : Int := x1005.2.2.1
                let m1_1009 : Int := x1005.2.2.2.1
                let m1_1010 : List Int := x1005.2.2.2.2.1
                some ((m1_1008, (m1_1009, m1_1010)), (0 : Int))) (side1, ())) none N ((0 : Int), p0.1, p0.2.1, p0.2.2, (0 : Int), (0 : Int), (IntKind.wrap .i64 (Int.tdiv t31_639 side1)), (IntKind.wrap .i64 (Int.tdiv t38_640 side1)), [], ())) none) none) none) none
def pix_Apart.s0 {R : Type} (N : Nat) (s : R) (k0 : (Int × Int × List Int × Int × Int × List Int × Unit) → R) (kr : (Int × Unit) → R) (c1136 : Int × Int × Unit) (again : (List (Int × Int × List Int) × Int × Int × Int × List Int × Int × Int × List Int × Unit) → R) (v1137 : List (Int × Int × List Int) × Int × Int × Int × List Int × Int × Int × List Int × Unit) : R :=
  let side2_1138 : Int := c1136.1
  let v18_1139 : Int := c1136.2.1
  let v17_1140 : List (Int × Int × List Int) := v1137.1
  let v19_1141 : Int := v1137.2.1
  let m0_1142 : Int := v1137.2.2.1
  let m0_1143 : Int := v1137.2.2.2.1
  let m0_1144 : List Int := v1137.2.2.2.2.1
  let m1_1145 : Int := v1137.2.2.2.2.2.1
  let m1_1146 : Int := v1137.2.2.2.2.2.2.1
  let m1_1147 : List Int := v1137.2.2.2.2.2.2.2.1
  if (decide (v19_1141 < v18_1139)) = true then
    gate (inR v19_1141 (v17_1140.length : Int)) (
      gate (inR v19_1141 (v17_1140.length : Int)) (
        let t22_1148 : Int × Int × List Int := (getI ((0 : Int), ((0 : Int), [])) v17_1140 v19_1141)
        bindO (pix_Check N t22_1148) (fun r24_1149 =>
          if (!decide (r24_1149 = (0 : Int))) = true then
            kr (r24_1149, ())
          else
            again (v17_1140, (IntKind.wrap .i64 (v19_1141 + (1 : Int))), m0_1142, m0_1143, m0_1144, m1_1145, m1_1146, m1_1147, ())) s) s) s
  else
    k0 (m0_1142, m0_1143, m0_1144, m1_1145, m1_1146, m1_1147, ())
def pix_Apart.s1 {R : Type} (N : Nat) (s : R) (k2 : (List Int × Unit) → R) (c1178 : Int × Int × Int × Unit) (again : (List Int × Int × Int × Int × List Int × Int × Int × List Int × Unit) → R) (v1179 : List Int × Int × Int × Int × List Int × Int × Int × List Int × Unit) : R :=
  let side2_1180 : Int := c1178.1
  let across11_1181 : Int := c1178.2.1
  let v58_1182 : Int := c1178.2.2.1
  let out12_1183 : List Int := v1179.1
  let v59_1184 : Int := v1179.2.1
  let m0_1185 : Int := v1179.2.2.1
  let m0_1186 : Int := v1179.2.2.2.1
  let m0_1187 : List Int := v1179.2.2.2.2.1
  let m1_1188 : Int := v1179.2.2.2.2.2.1
  let m1_1189 : Int := v1179.2.2.2.2.2.2.1
  let m1_1190 : List Int := v1179.2.2.2.2.2.2.2.1
  if (decide (v59_1184 < v58_1182)) = true then
    gate (decide (m0_1185 ≠ 0)) (
      let t65_1191 : Int := (IntKind.wrap .i64 (Int.tdiv v59_1184 m0_1185))
      gate (decide (side2_1180 ≠ 0)) (
        let t67_1192 : Int := (IntKind.wrap .i64 (Int.tdiv t65_1191 side2_1180))
        let t69_1193 : Int := (IntKind.wrap .i64 (t67_1192 * across11_1181))
        gate (decide (m0_1185 ≠ 0)) (
          gate (decide (side2_1180 ≠ 0)) (
            let t75_1194 : Int := (IntKind.wrap .i64 (Int.tdiv (Int.tmod v59_1184 m0_1185) side2_1180))
            gate (inR v59_1184 (m0_1187.length : Int)) (
              gate (inR v59_1184 (m1_1190.length : Int)) (
                let t87_1195 : Bool := (!decide ((getI (0 : Int) m0_1187 v59_1184) = (getI (0 : Int) m1_1190 v59_1184)))
                if t87_1195 = true then
                  gate (roomFor (out12_1183.length + [(IntKind.wrap .i64 (t69_1193 + t75_1194))].length) 8) (
                    let b91_1196 : List Int := (out12_1183 ++ [(IntKind.wrap .i64 (t69_1193 + t75_1194))])
                    again (b91_1196, (IntKind.wrap .i64 (v59_1184 + (1 : Int))), m0_1185, m0_1186, m0_1187, m1_1188, m1_1189, m1_1190, ())) s
                else
                  again (out12_1183, (IntKind.wrap .i64 (v59_1184 + (1 : Int))), m0_1185, m0_1186, m0_1187, m1_1188, m1_1189, m1_1190, ())) s) s) s) s) s) s
  else
    k2 (out12_1183, ())
def pix_Apart (N : Nat) (p0 : Int × Int × List Int) (q1 : Int × Int × List Int) (side2 : Int) : Option (List Int × Int) :=
  iter (pix_Apart.s0 N none (fun (x1150 : Int × Int × List Int × Int × Int × List Int × Unit) =>
    let m0_1151 : Int := x1150.1
    let m0_1152 : Int := x1150.2.1
    let m0_1153 : List Int := x1150.2.2.1
    let m1_1154 : Int := x1150.2.2.2.1
    let m1_1155 : Int := x1150.2.2.2.2.1
    let m1_1156 : List Int := x1150.2.2.2.2.2.1
    bindO (
      if (decide (side2 < (1 : Int))) = true then
        some true
      else
        if (decide (side2 > (64 : Int))) = true then
          some true
        else
          if (!decide (m0_1151 = m1_1154)) = true then
            some true
          else
            some (!decide (m0_1152 = m1_1155))) (fun (c48_1157 : Bool) =>
      if c48_1157 = true then
        some ([], (1 : Int))
      else
        let t53_1158 : Int := (IntKind.wrap .i64 ((IntKind.wrap .i64 (m0_1151 + side2)) - (1 : Int)))
        gate (decide (side2 ≠ 0)) (
          let t55_1159 : Int := (IntKind.wrap .i64 (Int.tdiv t53_1158 side2))
          iter (pix_Apart.s1 N none (fun (x1197 : List Int × Unit) =>
            let out12_1198 : List Int := x1197.1
            gate (decide (out12_1198.length < 4611686018427387904)) (
              gate (decide ((sortInts out12_1198).length < 4611686018427387904)) (
                some ((cut (compactAll (sortInts out12_1198)) (0 : Int) ((compactInts (sortInts out12_1198)).length : Int)), (0 : Int))) none) none) (side2, t55_1159, (m0_1153.length : Int), ())) none N ([], (0 : Int), m0_1151, m0_1152, m0_1153, m1_1154, m1_1155, m1_1156, ())) none) none) (fun (x1199 : Int × Unit) =>
    let v7_1200 : Int := x1199.1
    some ([], v7_1200)) (side2, ([p0, q1].length : Int), ())) none N ([p0, q1], (0 : Int), p0.1, p0.2.1, p0.2.2, q1.1, q1.2.1, q1.2.2, ())
def wrackref2_Shrunk.s0 {R : Type} (N : Nat) (s : R) (k0 : (List Int × List Int × Int × Int × Int × Int × Unit) → R) (c1303 : Int × List Int × Int × Unit) (again : (List Int × List Int × Int × Int × Int × List Int × Int × Int × Int × Int × Unit) → R) (v1304 : List Int × List Int × Int × Int × Int × List Int × Int × Int × Int × Int × Unit) : R :=
  let side1_1305 : Int := c1303.1
  let v38_1306 : List Int := c1303.2.1
  let v39_1307 : Int := c1303.2.2.1
  let total6_1308 : List Int := v1304.1
  let many7_1309 : List Int := v1304.2.1
  let v40_1310 : Int := v1304.2.2.1
  let m0_1311 : Int := v1304.2.2.2.1
  let m0_1312 : Int := v1304.2.2.2.2.1
  let m0_1313 : List Int := v1304.2.2.2.2.2.1
  let m1_1314 : Int := v1304.2.2.2.2.2.2.1
  let m1_1315 : Int := v1304.2.2.2.2.2.2.2.1
  let m2_1316 : Int := v1304.2.2.2.2.2.2.2.2.1
  let m2_1317 : Int := v1304.2.2.2.2.2.2.2.2.2.1
  if (decide (v40_1310 < v39_1307)) = true then
    gate (inR v40_1310 (v38_1306.length : Int)) (
      gate (decide (m0_1311 ≠ 0)) (
        let t48_1318 : Int := (IntKind.wrap .i64 (Int.tdiv v40_1310 m0_1311))
        gate (decide (side1_1305 ≠ 0)) (
          let t50_1319 : Int := (IntKind.wrap .i64 (Int.tdiv t48_1318 side1_1305))
          gate (decide (m0_1311 ≠ 0)) (
            gate (decide (side1_1305 ≠ 0)) (
              let t59_1320 : Int := (IntKind.wrap .i64 (Int.tdiv (Int.tmod v40_1310 m0_1311) side1_1305))
              let t60_1321 : Int := (IntKind.wrap .i64 ((IntKind.wrap .i64 (t50_1319 * m2_1316)) + t59_1320))
              gate (inR t60_1321 (total6_1308.length : Int)) (
                gate (inR t60_1321 (total6_1308.length : Int)) (
                  let t66_1322 : Int := (IntKind.wrap .i64 ((getI (0 : Int) v38_1306 v40_1310)))
                  let t67_1323 : Int := (IntKind.wrap .i64 ((getI (0 : Int) total6_1308 t60_1321) + t66_1322))
                  gate (inR t60_1321 (total6_1308.length : Int)) (
                    gate (inR t60_1321 (total6_1308.length : Int)) (
                      gate (inR t60_1321 (many7_1309.length : Int)) (
                        gate (inR t60_1321 (many7_1309.length : Int)) (
                          let t73_1324 : Int := (IntKind.wrap .i64 ((getI (0 : Int) many7_1309 t60_1321) + (1 : Int)))
                          gate (inR t60_1321 (many7_1309.length : Int)) (
                            gate (inR t60_1321 (many7_1309.length : Int)) (
                              again ((total6_1308.set (t60_1321).toNat t67_1323), (many7_1309.set (t60_1321).toNat t73_1324), (IntKind.wrap .i64 (v40_1310 + (1 : Int))), m0_1311, m0_1312, m0_1313, m1_1314, m1_1315, m2_1316, m2_1317, ())) s) s) s) s) s) s) s) s) s) s) s) s) s
  else
    k0 (total6_1308, many7_1309, m1_1314, m1_1315, m2_1316, m2_1317, ())
def wrackref2_Shrunk.s1 {R : Type} (N : Nat) (s : R) (k2 : (Int × Int × Int × Int × List Int × Unit) → R) (c1334 : Int × Unit) (again : (List Int × List Int × Int × Int × Int × Int × Int × List Int × Unit) → R) (v1335 : List Int × List Int × Int × Int × Int × Int × Int × List Int × Unit) : R :=
  let v77_1336 : Int := c1334.1
  let total6_1337 : List Int := v1335.1
  let many7_1338 : List Int := v1335.2.1
  let v78_1339 : Int := v1335.2.2.1
  let m0_1340 : Int := v1335.2.2.2.1
  let m0_1341 : Int := v1335.2.2.2.2.1
  let m1_1342 : Int := v1335.2.2.2.2.2.1
  let m1_1343 : Int := v1335.2.2.2.2.2.2.1
  let m1_1344 : List Int := v1335.2.2.2.2.2.2.2.1
  if (decide (v78_1339 < v77_1336)) = true then
    gate (inR v78_1339 (total6_1337.length : Int)) (
      gate (inR v78_1339 (total6_1337.length : Int)) (
        gate (inR v78_1339 (many7_1338.length : Int)) (
          gate (inR v78_1339 (many7_1338.length : Int)) (
            gate (decide ((getI (0 : Int) many7_1338 v78_1339) ≠ 0)) (
              let t91_1345 : Int := (IntKind.wrap .i64 (Int.tdiv (getI (0 : Int) total6_1337 v78_1339) (getI (0 : Int) many7_1338 v78_1339)))
              gate (roomFor (m1_1344.length + [(IntKind.wrap .u8 (t91_1345))].length) 1) (
                again (total6_1337, many7_1338, (IntKind.wrap .i64 (v78_1339 + (1 : Int))), m0_1340, m0_1341, m1_1342, m1_1343, (m1_1344 ++ [(IntKind.wrap .u8 (t91_1345))]), ())) s) s) s) s) s) s
  else
    k2 (m0_1340, m0_1341, m1_1342, m1_1343, m1_1344, ())
def wrackref2_Shrunk (N : Nat) (p0 : Int × Int × List Int) (side1 : Int) : Option (Int × Int × List Int) :=
  gate (decide (side1 ≠ 0)) (
    let t16_1282 : Int := (IntKind.wrap .i64 (Int.tdiv (IntKind.wrap .i64 (p0.1 - (1 : Int))) side1))
    gate (decide (side1 ≠ 0)) (
      let t22_1283 : Int := (IntKind.wrap .i64 (Int.tdiv (IntKind.wrap .i64 (p0.2.1 - (1 : Int))) side1))
      let t29_1284 : Int := (IntKind.wrap .i64 ((IntKind.wrap .i64 (t16_1282 + (1 : Int))) * (IntKind.wrap .i64 (t22_1283 + (1 : Int)))))
      gate (decide (0 ≤ t29_1284 ∧ t29_1284 ≤ t29_1284) && roomFor (t29_1284).toNat 8) (
        let t35_1285 : Int := (IntKind.wrap .i64 ((IntKind.wrap .i64 (t16_1282 + (1 : Int))) * (IntKind.wrap .i64 (t22_1283 + (1 : Int)))))
        gate (decide (0 ≤ t35_1285 ∧ t35_1285 ≤ t35_1285) && roomFor (t35_1285).toNat 8) (
          iter (wrackref2_Shrunk.s0 N none (fun (x1325 : List Int × List Int × Int × Int × Int × Int × Unit) =>
            let total6_1326 : List Int := x1325.1
            let many7_1327 : List Int := x1325.2.1
            let m0_1328 : Int := x1325.2.2.1
            let m0_1329 : Int := x1325.2.2.2.1
            let m1_1330 : Int := x1325.2.2.2.2.1
            let m1_1331 : Int := x1325.2.2.2.2.2.1
            iter (wrackref2_Shrunk.s1 N none (fun (x1346 : Int × Int × Int × Int × List Int × Unit) =>
              let m0_1347 : Int := x1346.1
              let m0_1348 : Int := x1346.2.1
              let m1_1349 : Int := x1346.2.2.1
              let m1_1350 : Int := x1346.2.2.2.1
              let m1_1351 : List Int := x1346.2.2.2.2.1
              some (m1_1349, (m1_1350, m1_1351))) ((total6_1326.length : Int), ())) none N (total6_1326, many7_1327, (0 : Int), m0_1328, m0_1329, m1_1330, m1_1331, [], ())) (side1, p0.2.2, (p0.2.2.length : Int), ())) none N ((List.replicate (t29_1284).toNat (0 : Int)), (List.replicate (t35_1285).toNat (0 : Int)), (0 : Int), p0.1, p0.2.1, p0.2.2, (0 : Int), (0 : Int), (IntKind.wrap .i64 (t16_1282 + (1 : Int))), (IntKind.wrap .i64 (t22_1283 + (1 : Int))), ())) none) none) none) none
def wrackref2_SamePicture (N : Nat) (a0 : Int × Int × List Int) (b1 : Int × Int × List Int) : Option Bool :=
  bindO (
    if (decide (a0.1 = b1.1)) = true then
      if (decide (a0.2.1 = b1.2.1)) = true then
        some (decide (a0.2.2 = b1.2.2))
      else
        some false
    else
      some false) (fun (c4_1612 : Bool) =>
    some c4_1612) none
def slices_Equal_int.s0 {R : Type} (N : Nat) (s : R) (k0 : Unit → R) (kr : (Bool × Unit) → R) (c1621 : List Int × List Int × Int × Unit) (again : (Int × Unit) → R) (v1622 : Int × Unit) : R :=
  let s10_1623 : List Int := c1621.1
  let s21_1624 : List Int := c1621.2.1
  let v12_1625 : Int := c1621.2.2.1
  let v13_1626 : Int := v1622.1
  if (decide (v13_1626 < v12_1625)) = true then
    gate (inR v13_1626 (s10_1623.length : Int)) (
      gate (inR v13_1626 (s21_1624.length : Int)) (
        let t24_1627 : Bool := (!decide ((getI (0 : Int) s10_1623 v13_1626) = (getI (0 : Int) s21_1624 v13_1626)))
        if t24_1627 = true then
          kr (false, ())
        else
          again ((IntKind.wrap .i64 (v13_1626 + (1 : Int))), ())) s) s
  else
    k0 ()
def slices_Equal_int (N : Nat) (s10 : List Int) (s21 : List Int) : Option Bool :=
  let t10_1619 : Bool := (!decide ((s10.length : Int) = (s21.length : Int)))
  if t10_1619 = true then
    some false
  else
    iter (slices_Equal_int.s0 N none (fun (x1628 : Unit) =>
      some true) (fun (x1629 : Bool × Unit) =>
      let v4_1630 : Bool := x1629.1
      some v4_1630) (s10, s21, (s10.length : Int), ())) none N ((0 : Int), ())
def wracklaw2_PixCompares.s1 {R : Type} (N : Nat) (s : R) (k2 : (List Int × List Int × Int × Int × List Int × Int × Int × List Int × Int × Int × List Int × Int × Int × List Int × Unit) → R) (c1955 : Int × Int × Int × Int × Int × Int × Int × Int × Int × Int × Unit) (again : (List Int × List Int × Int × Int × Int × List Int × Int × Int × List Int × Int × Int × List Int × Int × Int × List Int × Unit) → R) (v1956 : List Int × List Int × Int × Int × Int × List Int × Int × Int × List Int × Int × Int × List Int × Int × Int × List Int × Unit) : R :=
  let side2_1957 : Int := c1955.1
  let e8_1958 : Int := c1955.2.1
  let f10_1959 : Int := c1955.2.2.1
  let bad11_1960 : Int := c1955.2.2.2.1
  let worse12_1961 : Int := c1955.2.2.2.2.1
  let across16_1962 : Int := c1955.2.2.2.2.2.1
  let k17_1963 : Int := c1955.2.2.2.2.2.2.1
  let v92_1964 : Int := c1955.2.2.2.2.2.2.2.1
  let v93_1965 : Int := c1955.2.2.2.2.2.2.2.2.1
  let v98_1966 : Int := c1955.2.2.2.2.2.2.2.2.2.1
  let l9_1967 : List Int := v1956.1
  let want15_1968 : List Int := v1956.2.1
  let v99_1969 : Int := v1956.2.2.1
  let m0_1970 : Int := v1956.2.2.2.1
  let m0_1971 : Int := v1956.2.2.2.2.1
  let m0_1972 : List Int := v1956.2.2.2.2.2.1
  let m1_1973 : Int := v1956.2.2.2.2.2.2.1
  let m1_1974 : Int := v1956.2.2.2.2.2.2.2.1
  let m1_1975 : List Int := v1956.2.2.2.2.2.2.2.2.1
  let m2_1976 : Int := v1956.2.2.2.2.2.2.2.2.2.1
  let m2_1977 : Int := v1956.2.2.2.2.2.2.2.2.2.2.1
  let m2_1978 : List Int := v1956.2.2.2.2.2.2.2.2.2.2.2.1
  let m4_1979 : Int := v1956.2.2.2.2.2.2.2.2.2.2.2.2.1
  let m4_1980 : Int := v1956.2.2.2.2.2.2.2.2.2.2.2.2.2.1
  let m4_1981 : List Int := v1956.2.2.2.2.2.2.2.2.2.2.2.2.2.2.1
  if (decide (v99_1969 < v98_1966)) = true then
    bindO (
      gate (decide (m0_1970 ≠ 0)) (
        let t105_1988 : Int := (IntKind.wrap .i64 (Int.tdiv v99_1969 m0_1970))
        gate (decide (side2_1957 ≠ 0)) (
          let t107_1989 : Int := (IntKind.wrap .i64 (Int.tdiv t105_1988 side2_1957))
          let t109_1990 : Int := (IntKind.wrap .i64 (t107_1989 * across16_1962))
          gate (decide (m0_1970 ≠ 0)) (
            gate (decide (side2_1957 ≠ 0)) (
              let t115_1991 : Int := (IntKind.wrap .i64 (Int.tdiv (Int.tmod v99_1969 m0_1970) side2_1957))
              let t118_1992 : Bool := (decide ((IntKind.wrap .i64 (t109_1990 + t115_1991)) = k17_1963))
              if t118_1992 = true then
                gate (inR v99_1969 (m0_1972.length : Int)) (
                  gate (inR v99_1969 (m1_1975.length : Int)) (
                    let t130_1993 : Bool := (!decide ((getI (0 : Int) m0_1972 v99_1969) = (getI (0 : Int) m1_1975 v99_1969)))
                    some t130_1993) none) none
              else
                some false) none) none) none) none) (fun (c131_1994 : Bool) =>
      if c131_1994 = true then
        gate (roomFor (want15_1968.length + [k17_1963].length) 8) (
          k2 (l9_1967, (want15_1968 ++ [k17_1963]), m0_1970, m0_1971, m0_1972, m1_1973, m1_1974, m1_1975, m2_1976, m2_1977, m2_1978, m4_1979, m4_1980, m4_1981, ())) s
      else
        again (l9_1967, want15_1968, (IntKind.wrap .i64 (v99_1969 + (1 : Int))), m0_1970, m0_1971, m0_1972, m1_1973, m1_1974, m1_1975, m2_1976, m2_1977, m2_1978, m4_1979, m4_1980, m4_1981, ())) s
  else
    k2 (l9_1967, want15_1968, m0_1970, m0_1971, m0_1972, m1_1973, m1_1974, m1_1975, m2_1976, m2_1977, m2_1978, m4_1979, m4_1980, m4_1981, ())
def wracklaw2_PixCompares.s0 {R : Type} (N : Nat) (s : R) (k0 : (List Int × List Int × Int × Int × List Int × Int × Int × List Int × Unit) → R) (c1922 : Int × Int × Int × Int × Int × Int × Int × Unit) (again : (List Int × List Int × Int × Int × Int × List Int × Int × Int × List Int × Int × Int × List Int × Int × Int × List Int × Unit) → R) (v1923 : List Int × List Int × Int × Int × Int × List Int × Int × Int × List Int × Int × Int × List Int × Int × Int × List Int × Unit) : R :=
  let side2_1924 : Int := c1922.1
  let e8_1925 : Int := c1922.2.1
  let f10_1926 : Int := c1922.2.2.1
  let bad11_1927 : Int := c1922.2.2.2.1
  let worse12_1928 : Int := c1922.2.2.2.2.1
  let across16_1929 : Int := c1922.2.2.2.2.2.1
  let v92_1930 : Int := c1922.2.2.2.2.2.2.1
  let l9_1931 : List Int := v1923.1
  let want15_1932 : List Int := v1923.2.1
  let v93_1933 : Int := v1923.2.2.1
  let m0_1934 : Int := v1923.2.2.2.1
  let m0_1935 : Int := v1923.2.2.2.2.1
  let m0_1936 : List Int := v1923.2.2.2.2.2.1
  let m1_1937 : Int := v1923.2.2.2.2.2.2.1
  let m1_1938 : Int := v1923.2.2.2.2.2.2.2.1
  let m1_1939 : List Int := v1923.2.2.2.2.2.2.2.2.1
  let m2_1940 : Int := v1923.2.2.2.2.2.2.2.2.2.1
  let m2_1941 : Int := v1923.2.2.2.2.2.2.2.2.2.2.1
  let m2_1942 : List Int := v1923.2.2.2.2.2.2.2.2.2.2.2.1
  let m4_1943 : Int := v1923.2.2.2.2.2.2.2.2.2.2.2.2.1
  let m4_1944 : Int := v1923.2.2.2.2.2.2.2.2.2.2.2.2.2.1
  let m4_1945 : List Int := v1923.2.2.2.2.2.2.2.2.2.2.2.2.2.2.1
  if (decide (v93_1933 < v92_1930)) = true then
    iter (wracklaw2_PixCompares.s1 N s (fun (x1995 : List Int × List Int × Int × Int × List Int × Int × Int × List Int × Int × Int × List Int × Int × Int × List Int × Unit) =>
      let l9_1996 : List Int := x1995.1
      let want15_1997 : List Int := x1995.2.1
      let m0_1998 : Int := x1995.2.2.1
      let m0_1999 : Int := x1995.2.2.2.1
      let m0_2000 : List Int := x1995.2.2.2.2.1
      let m1_2001 : Int := x1995.2.2.2.2.2.1
      let m1_2002 : Int := x1995.2.2.2.2.2.2.1
      let m1_2003 : List Int := x1995.2.2.2.2.2.2.2.1
      let m2_2004 : Int := x1995.2.2.2.2.2.2.2.2.1
      let m2_2005 : Int := x1995.2.2.2.2.2.2.2.2.2.1
      let m2_2006 : List Int := x1995.2.2.2.2.2.2.2.2.2.2.1
      let m4_2007 : Int := x1995.2.2.2.2.2.2.2.2.2.2.2.1
      let m4_2008 : Int := x1995.2.2.2.2.2.2.2.2.2.2.2.2.1
      let m4_2009 : List Int := x1995.2.2.2.2.2.2.2.2.2.2.2.2.2.1
      again (l9_1996, want15_1997, (IntKind.wrap .i64 (v93_1933 + (1 : Int))), m0_1998, m0_1999, m0_2000, m1_2001, m1_2002, m1_2003, m2_2004, m2_2005, m2_2006, m4_2007, m4_2008, m4_2009, ())) (side2_1924, e8_1925, f10_1926, bad11_1927, worse12_1928, across16_1929, v93_1933, v92_1930, v93_1933, (m0_1936.length : Int), ())) s N (l9_1931, want15_1932, (0 : Int), m0_1934, m0_1935, m0_1936, m1_1937, m1_1938, m1_1939, m2_1940, m2_1941, m2_1942, m4_1943, m4_1944, m4_1945, ())
  else
    k0 (l9_1931, want15_1932, m2_1940, m2_1941, m2_1942, m4_1943, m4_1944, m4_1945, ())
def wracklaw2_PixCompares (N : Nat) (p0 : Int × Int × List Int) (q1 : Int × Int × List Int) (side2 : Int) : Option Bool :=
  bindO (pix_Small N p0 side2) (fun r22_1635 =>
    bindO (pix_Apart N p0 q1 side2) (fun r29_1636 =>
      bindO (wracklaw2_pictures N) (fun r32_1637 =>
        if (!r32_1637) = true then
          some false
        else
          bindO (wrackref2_PictureErr N p0) (fun r35_1638 =>
            bindO (wrackref2_PictureErr N p0) (fun r37_1639 =>
              bindO ((
                if (decide (r37_1639 = (0 : Int))) = true then
                  bindO (wrackref2_PictureErr N q1) (fun r41_1641 =>
                    some (r29_1636.1, r41_1641, p0.1, p0.2.1, p0.2.2, q1.1, q1.2.1, q1.2.2, r22_1635.1.1, r22_1635.1.2.1, r22_1635.1.2.2, ())) none
                else
                  some (r29_1636.1, r37_1639, p0.1, p0.2.1, p0.2.2, q1.1, q1.2.1, q1.2.2, r22_1635.1.1, r22_1635.1.2.1, r22_1635.1.2.2, ()) : Option (List Int × Int × Int × Int × List Int × Int × Int × List Int × Int × Int × List Int × Unit))) (fun j1642 =>
                let l9_1643 : List Int := j1642.1
                let worse12_1644 : Int := j1642.2.1
                let m0_1645 : Int := j1642.2.2.1
                let m0_1646 : Int := j1642.2.2.2.1
                let m0_1647 : List Int := j1642.2.2.2.2.1
                let m1_1648 : Int := j1642.2.2.2.2.2.1
                let m1_1649 : Int := j1642.2.2.2.2.2.2.1
                let m1_1650 : List Int := j1642.2.2.2.2.2.2.2.1
                let m2_1651 : Int := j1642.2.2.2.2.2.2.2.2.1
                let m2_1652 : Int := j1642.2.2.2.2.2.2.2.2.2.1
                let m2_1653 : List Int := j1642.2.2.2.2.2.2.2.2.2.2.1
                bindO (
                  if (decide (side2 < (1 : Int))) = true then
                    some true
                  else
                    some (decide (side2 > (64 : Int)))) (fun (c13_1654 : Bool) =>
                  bindO (
                    if (decide (r35_1638 = (0 : Int))) = true then
                      some c13_1654
                    else
                      some false) (fun (c52_1655 : Bool) =>
                    bindO ((
                      if c52_1655 = true then
                        some (l9_1643, (1 : Int), m0_1645, m0_1646, m0_1647, m1_1648, m1_1649, m1_1650, m2_1651, m2_1652, m2_1653, ())
                      else
                        some (l9_1643, r35_1638, m0_1645, m0_1646, m0_1647, m1_1648, m1_1649, m1_1650, m2_1651, m2_1652, m2_1653, ()) : Option (List Int × Int × Int × Int × List Int × Int × Int × List Int × Int × Int × List Int × Unit))) (fun j1656 =>
                      let l9_1657 : List Int := j1656.1
                      let bad11_1658 : Int := j1656.2.1
                      let m0_1659 : Int := j1656.2.2.1
                      let m0_1660 : Int := j1656.2.2.2.1
                      let m0_1661 : List Int := j1656.2.2.2.2.1
                      let m1_1662 : Int := j1656.2.2.2.2.2.1
                      let m1_1663 : Int := j1656.2.2.2.2.2.2.1
                      let m1_1664 : List Int := j1656.2.2.2.2.2.2.2.1
                      let m2_1665 : Int := j1656.2.2.2.2.2.2.2.2.1
                      let m2_1666 : Int := j1656.2.2.2.2.2.2.2.2.2.1
                      let m2_1667 : List Int := j1656.2.2.2.2.2.2.2.2.2.2.1
                      bindO (
                        if (decide (worse12_1644 = (0 : Int))) = true then
                          if c13_1654 = true then
                            some true
                          else
                            if (!decide (m0_1659 = m1_1662)) = true then
                              some true
                            else
                              some (!decide (m0_1660 = m1_1663))
                        else
                          some false) (fun (c71_1668 : Bool) =>
                        bindO ((
                          if c71_1668 = true then
                            some (l9_1657, (1 : Int), m0_1659, m0_1660, m0_1661, m1_1662, m1_1663, m1_1664, m2_1665, m2_1666, m2_1667, ())
                          else
                            some (l9_1657, worse12_1644, m0_1659, m0_1660, m0_1661, m1_1662, m1_1663, m1_1664, m2_1665, m2_1666, m2_1667, ()) : Option (List Int × Int × Int × Int × List Int × Int × Int × List Int × Int × Int × List Int × Unit))) (fun j1669 =>
                          let l9_1670 : List Int := j1669.1
                          let worse12_1671 : Int := j1669.2.1
                          let m0_1672 : Int := j1669.2.2.1
                          let m0_1673 : Int := j1669.2.2.2.1
                          let m0_1674 : List Int := j1669.2.2.2.2.1
                          let m1_1675 : Int := j1669.2.2.2.2.2.1
                          let m1_1676 : Int := j1669.2.2.2.2.2.2.1
                          let m1_1677 : List Int := j1669.2.2.2.2.2.2.2.1
                          let m2_1678 : Int := j1669.2.2.2.2.2.2.2.2.1
                          let m2_1679 : Int := j1669.2.2.2.2.2.2.2.2.2.1
                          let m2_1680 : List Int := j1669.2.2.2.2.2.2.2.2.2.2.1
                          bindO ((
                            if (decide (bad11_1658 = (0 : Int))) = true then
                              bindO (wrackref2_Shrunk N (m0_1672, (m0_1673, m0_1674)) side2) (fun r76_1682 =>
                                some (l9_1670, m0_1672, m0_1673, m0_1674, m1_1675, m1_1676, m1_1677, m2_1678, m2_1679, m2_1680, r76_1682.1, r76_1682.2.1, r76_1682.2.2, ())) none
                            else
                              some (l9_1670, m0_1672, m0_1673, m0_1674, m1_1675, m1_1676, m1_1677, m2_1678, m2_1679, m2_1680, (0 : Int), (0 : Int), [], ()) : Option (List Int × Int × Int × List Int × Int × Int × List Int × Int × Int × List Int × Int × Int × List Int × Unit))) (fun j1683 =>
                            let l9_1684 : List Int := j1683.1
                            let m0_1685 : Int := j1683.2.1
                            let m0_1686 : Int := j1683.2.2.1
                            let m0_1687 : List Int := j1683.2.2.2.1
                            let m1_1688 : Int := j1683.2.2.2.2.1
                            let m1_1689 : Int := j1683.2.2.2.2.2.1
                            let m1_1690 : List Int := j1683.2.2.2.2.2.2.1
                            let m2_1691 : Int := j1683.2.2.2.2.2.2.2.1
                            let m2_1692 : Int := j1683.2.2.2.2.2.2.2.2.1
                            let m2_1693 : List Int := j1683.2.2.2.2.2.2.2.2.2.1
                            let m4_1694 : Int := j1683.2.2.2.2.2.2.2.2.2.2.1
                            let m4_1695 : Int := j1683.2.2.2.2.2.2.2.2.2.2.2.1
                            let m4_1696 : List Int := j1683.2.2.2.2.2.2.2.2.2.2.2.2.1
                            bindO ((
                              if (decide (worse12_1671 = (0 : Int))) = true then
                                gate (decide (side2 ≠ 0)) (
                                  let t83_1814 : Int := (IntKind.wrap .i64 (Int.tdiv (IntKind.wrap .i64 (m0_1685 - (1 : Int))) side2))
                                  gate (decide (side2 ≠ 0)) (
                                    let t90_1815 : Int := (IntKind.wrap .i64 (Int.tdiv (IntKind.wrap .i64 (m0_1686 - (1 : Int))) side2))
                                    let t92_1816 : Int := (IntKind.wrap .i64 ((IntKind.wrap .i64 (t83_1814 + (1 : Int))) * (IntKind.wrap .i64 (t90_1815 + (1 : Int)))))
                                    iter (wracklaw2_PixCompares.s0 N none (fun (x2010 : List Int × List Int × Int × Int × List Int × Int × Int × List Int × Unit) =>
                                      let l9_2011 : List Int := x2010.1
                                      let want15_2012 : List Int := x2010.2.1
                                      let m0_2013 : Int := x2010.2.2.1
                                      let m0_2014 : Int := x2010.2.2.2.1
                                      let m0_2015 : List Int := x2010.2.2.2.2.1
                                      let m2_2016 : Int := x2010.2.2.2.2.2.1
                                      let m2_2017 : Int := x2010.2.2.2.2.2.2.1
                                      let m2_2018 : List Int := x2010.2.2.2.2.2.2.2.1
                                      some (l9_2011, want15_2012, m0_2013, m0_2014, m0_2015, m2_2016, m2_2017, m2_2018, ())) (side2, r22_1635.2, r29_1636.2, bad11_1658, worse12_1671, (IntKind.wrap .i64 (t83_1814 + (1 : Int))), t92_1816, ())) none N (l9_1684, [], (0 : Int), m0_1685, m0_1686, m0_1687, m1_1688, m1_1689, m1_1690, m2_1691, m2_1692, m2_1693, m4_1694, m4_1695, m4_1696, ())) none) none
                              else
                                some (l9_1684, [], m2_1691, m2_1692, m2_1693, m4_1694, m4_1695, m4_1696, ()) : Option (List Int × List Int × Int × Int × List Int × Int × Int × List Int × Unit))) (fun j2019 =>
                              let l9_2020 : List Int := j2019.1
                              let want15_2021 : List Int := j2019.2.1
                              let m0_2022 : Int := j2019.2.2.1
                              let m0_2023 : Int := j2019.2.2.2.1
                              let m0_2024 : List Int := j2019.2.2.2.2.1
                              let m2_2025 : Int := j2019.2.2.2.2.2.1
                              let m2_2026 : Int := j2019.2.2.2.2.2.2.1
                              let m2_2027 : List Int := j2019.2.2.2.2.2.2.2.1
                              bindO (
                                if (decide (r22_1635.2 = bad11_1658)) = true then
                                  bindO (wrackref2_SamePicture N (m0_2022, (m0_2023, m0_2024)) (m2_2025, (m2_2026, m2_2027))) (fun r144_2030 =>
                                    if r144_2030 = true then
                                      if (decide (r29_1636.2 = worse12_1671)) = true then
                                        bindO (slices_Equal_int N l9_2020 want15_2021) (fun r154_2031 =>
                                          some r154_2031) none
                                      else
                                        some false
                                    else
                                      some false) none
                                else
                                  some false) (fun (c6_2032 : Bool) =>
                                some c6_2032) none) none) none) none) none) none) none) none) none) none) none) none) none) none
end Go.Proofs.Yteekijpcdcpjkaa
