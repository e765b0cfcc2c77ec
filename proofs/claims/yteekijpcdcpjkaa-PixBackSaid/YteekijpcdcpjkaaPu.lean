import Derived.Test.YteekijpcdcpjkaaAbIterFn
set_option linter.unusedVariables false
namespace Go.Proofs.Yteekijpcdcpjkaa
open Go Go.Ab
def slices_Max_byte.s0 {R : Type} (N : Nat) (s : R) (k0 : (Int × Unit) → R) (c5 : List Int × Unit) (again : (Int × Int × Unit) → R) (v6 : Int × Int × Unit) : R :=
  let x0_7 : List Int := c5.1
  let m3_8 : Int := v6.1
  let i4_9 : Int := v6.2.1
  if (decide (i4_9 < (x0_7.length : Int))) = true then
    gate (inR i4_9 (x0_7.length : Int)) (
      again ((maxI m3_8 (getI (0 : Int) x0_7 i4_9)), (IntKind.wrap .i64 (i4_9 + (1 : Int))), ())) s
  else
    k0 (m3_8, ())
def slices_Max_byte (N : Nat) (x0 : List Int) : Option Int :=
  if (decide ((x0.length : Int) < (1 : Int))) = true then
    none
  else
    gate (inR (0 : Int) (x0.length : Int)) (
      iter (slices_Max_byte.s0 N none (fun (x10 : Int × Unit) =>
        let m3_11 : Int := x10.1
        some m3_11) (x0, ())) none N ((getI (0 : Int) x0 (0 : Int)), (1 : Int), ())) none
def pix_Check (N : Nat) (p0 : Int × Int × List Int) : Option Int :=
  bindO (
    if (decide (p0.1 < (1 : Int))) = true then
      some true
    else
      if (decide (p0.1 > (64 : Int))) = true then
        some true
      else
        if (decide (p0.2.1 < (1 : Int))) = true then
          some true
        else
          some (decide (p0.2.1 > (64 : Int)))) (fun (c3_13 : Bool) =>
    if c3_13 = true then
      some (4 : Int)
    else
      let t31_14 : Bool := (!decide ((p0.2.2.length : Int) = (IntKind.wrap .i64 (p0.1 * p0.2.1))))
      if t31_14 = true then
        some (3 : Int)
      else
        bindO (slices_Max_byte N p0.2.2) (fun r35_15 =>
          if (decide (r35_15 ≥ (16 : Int))) = true then
            some (4 : Int)
          else
            some (0 : Int)) none) none
def sum_Crc.s1 {R : Type} (N : Nat) (s : R) (k2 : (Int × Unit) → R) (c82 : List Int × Int × Int × Unit) (again : (Int × Int × Unit) → R) (v83 : Int × Int × Unit) : R :=
  let v6_84 : List Int := c82.1
  let v7_85 : Int := c82.2.1
  let v8_86 : Int := c82.2.2.1
  let c3_87 : Int := v83.1
  let v16_88 : Int := v83.2.1
  if (decide (v16_88 < (8 : Int))) = true then
    gate (decide (0 ≤ (1 : Int))) (
      let t22_89 : Int := (IntKind.wrap .u32 ((bitAnd .u32 c3_87 (1 : Int)) * (3988292384 : Int)))
      let t23_90 : Int := (bitXor .u32 (shrI .u32 c3_87 (1 : Int)) t22_89)
      again (t23_90, (IntKind.wrap .i64 (v16_88 + (1 : Int))), ())) s
  else
    k2 (c3_87, ())
def sum_Crc.s0 {R : Type} (N : Nat) (s : R) (k0 : (Int × Unit) → R) (c73 : List Int × Int × Unit) (again : (Int × Int × Unit) → R) (v74 : Int × Int × Unit) : R :=
  let v6_75 : List Int := c73.1
  let v7_76 : Int := c73.2.1
  let c3_77 : Int := v74.1
  let v8_78 : Int := v74.2.1
  if (decide (v8_78 < v7_76)) = true then
    gate (inR v8_78 (v6_75.length : Int)) (
      let t14_79 : Int := (IntKind.wrap .u32 ((getI (0 : Int) v6_75 v8_78)))
      iter (sum_Crc.s1 N s (fun (x91 : Int × Unit) =>
        let c3_92 : Int := x91.1
        again (c3_92, (IntKind.wrap .i64 (v8_78 + (1 : Int))), ())) (v6_75, v7_76, v8_78, ())) s N ((bitXor .u32 c3_77 t14_79), (0 : Int), ())) s
  else
    k0 (c3_77, ())
def sum_Crc (N : Nat) (b0 : List Int) : Option Int :=
  iter (sum_Crc.s0 N none (fun (x93 : Int × Unit) =>
    let c3_94 : Int := x93.1
    let t28_95 : Int := (IntKind.wrap .i64 ((bitXor .u32 4294967295 c3_94)))
    some t28_95) (b0, (b0.length : Int), ())) none N ((4294967295 : Int), (0 : Int), ())
def pix_row.s1 {R : Type} (N : Nat) (s : R) (k2 : (List Int × Int × Unit) → R) (c153 : List Int × Int × Unit) (again : (List Int × Int × Unit) → R) (v154 : List Int × Int × Unit) : R :=
  let dots0_155 : List Int := c153.1
  let i4_156 : Int := c153.2.1
  let out3_157 : List Int := v154.1
  let n5_158 : Int := v154.2.1
  bindO (
    if (decide (n5_158 < (16 : Int))) = true then
      let t19_162 : Bool := (decide ((IntKind.wrap .i64 (i4_156 + n5_158)) < (dots0_155.length : Int)))
      if t19_162 = true then
        gate (inR (IntKind.wrap .i64 (i4_156 + n5_158)) (dots0_155.length : Int)) (
          let t26_163 : Int := (getI (0 : Int) dots0_155 (IntKind.wrap .i64 (i4_156 + n5_158)))
          gate (inR i4_156 (dots0_155.length : Int)) (
            let t32_164 : Bool := (decide (t26_163 = (getI (0 : Int) dots0_155 i4_156)))
            some t32_164) none) none
      else
        some false
    else
      some false) (fun (c33_165 : Bool) =>
    if c33_165 = true then
      again (out3_157, (IntKind.wrap .i64 (n5_158 + (1 : Int))), ())
    else
      k2 (out3_157, n5_158, ())) s
def pix_row.s0 {R : Type} (N : Nat) (s : R) (k0 : (List Int × Unit) → R) (c135 : List Int × Unit) (again : (List Int × Int × Unit) → R) (v136 : List Int × Int × Unit) : R :=
  let dots0_137 : List Int := c135.1
  let out3_138 : List Int := v136.1
  let i4_139 : Int := v136.2.1
  if (decide (i4_139 < (dots0_137.length : Int))) = true then
    iter (pix_row.s1 N s (fun (x166 : List Int × Int × Unit) =>
      let out3_167 : List Int := x166.1
      let n5_168 : Int := x166.2.1
      let t39_169 : Int := (IntKind.wrap .u8 ((IntKind.wrap .i64 (n5_168 - (1 : Int)))))
      gate (decide (0 ≤ (4 : Int))) (
        gate (inR i4_139 (dots0_137.length : Int)) (
          let t45_170 : Int := (bitOr .u8 (shlI .u8 t39_169 (4 : Int)) (getI (0 : Int) dots0_137 i4_139))
          gate (roomFor (out3_167.length + [t45_170].length) 1) (
            again ((out3_167 ++ [t45_170]), (IntKind.wrap .i64 (i4_139 + n5_168)), ())) s) s) s) (dots0_137, i4_139, ())) s N (out3_138, (1 : Int), ())
  else
    k0 (out3_138, ())
def pix_row (N : Nat) (dots0 : List Int) : Option (List Int) :=
  iter (pix_row.s0 N none (fun (x171 : List Int × Unit) =>
    let out3_172 : List Int := x171.1
    let t54_173 : Int := (IntKind.wrap .i64 ((out3_172.length : Int) - (1 : Int)))
    gate (inR (0 : Int) (out3_172.length : Int)) (
      gate (inR (0 : Int) (out3_172.length : Int)) (
        let bx_174 : List Int := (out3_172.set ((0 : Int)).toNat (IntKind.wrap .u8 (t54_173)))
        bindO (sum_Crc N bx_174) (fun r59_175 =>
          gate (roomFor (bx_174.length + [(IntKind.wrap .u8 (r59_175))].length) 1) (
            some (bx_174 ++ [(IntKind.wrap .u8 (r59_175))])) none) none) none) none) (dots0, ())) none N ([(0 : Int)], (0 : Int), ())
def pix_Make.r0 {R : Type} (N : Nat) (s : R) (c183 : Unit) (x185 : List Int) (again : (List Int × Unit) → R) (v184 : List Int × Unit) : R :=
  let m0_186 : List Int := v184.1
  bindO (pix_row N x185) (fun r27_187 =>
    gate (roomFor (m0_186.length + r27_187.length) 1) (
      again ((m0_186 ++ r27_187), ())) s) s
def pix_Make (N : Nat) (p0 : Int × Int × List Int) : Option (List Int × Int) :=
  bindO (pix_Check N p0) (fun r8_180 =>
    if (!decide (r8_180 = (0 : Int))) = true then
      some ([], r8_180)
    else
      let b18_181 : List Int := [(112 : Int), (105 : Int), (120 : Int), (IntKind.wrap .u8 (p0.1)), (IntKind.wrap .u8 (p0.2.1))]
      if (decide (p0.1 < (1 : Int))) = true then
        none
      else
        bindO (chunkGo p0.2.2 p0.1) (fun (l190 : List (List Int)) =>
          foldR (pix_Make.r0 N none  ()) (fun (x188 : List Int × Unit) =>
          let m0_189 : List Int := x188.1
          some (m0_189, (0 : Int))) l190 (b18_181, ())) none) none
def wrackref2_PictureErr.s0 {R : Type} (N : Nat) (s : R) (k0 : Unit → R) (kr : (Int × Unit) → R) (c201 : List Int × Int × Unit) (again : (Int × Unit) → R) (v202 : Int × Unit) : R :=
  let v29_203 : List Int := c201.1
  let v30_204 : Int := c201.2.1
  let v31_205 : Int := v202.1
  if (decide (v31_205 < v30_204)) = true then
    gate (inR v31_205 (v29_203.length : Int)) (
      let t36_206 : Bool := (decide ((getI (0 : Int) v29_203 v31_205) > (15 : Int)))
      if t36_206 = true then
        kr ((4 : Int), ())
      else
        again ((IntKind.wrap .i64 (v31_205 + (1 : Int))), ())) s
  else
    k0 ()
def wrackref2_PictureErr (N : Nat) (p0 : Int × Int × List Int) : Option Int :=
  bindO (
    if (decide ((minI p0.1 p0.2.1) < (1 : Int))) = true then
      some true
    else
      some (decide ((maxI p0.1 p0.2.1) > (64 : Int)))) (fun (c18_198 : Bool) =>
    if c18_198 = true then
      some (4 : Int)
    else
      let t27_199 : Bool := (!decide ((p0.2.2.length : Int) = (IntKind.wrap .i64 (p0.1 * p0.2.1))))
      if t27_199 = true then
        some (3 : Int)
      else
        iter (wrackref2_PictureErr.s0 N none (fun (x207 : Unit) =>
          some (0 : Int)) (fun (x208 : Int × Unit) =>
          let v2_209 : Int := x208.1
          some v2_209) (p0.2.2, (p0.2.2.length : Int), ())) none N ((0 : Int), ())) none
def wracklaw2_pictures (N : Nat) : Option Bool :=
  bindO (pix_Make N ((2 : Int), ((1 : Int), [(3 : Int), (3 : Int)]))) (fun r6_217 =>
    bindO (
      if (decide (r6_217.2 = (0 : Int))) = true then
        let t14_220 : Bool := (decide ((r6_217.1.length : Int) = (8 : Int)))
        if t14_220 = true then
          gate (inR (6 : Int) (r6_217.1.length : Int)) (
            gate (inR (6 : Int) (r6_217.1.length : Int)) (
              let t20_221 : Bool := (decide ((getI (0 : Int) r6_217.1 (6 : Int)) = (19 : Int)))
              some t20_221) none) none
        else
          some false
      else
        some false) (fun (c0_222 : Bool) =>
      some c0_222) none) none
def wrackref2_Crc.s1 {R : Type} (N : Nat) (s : R) (k2 : (Int × Unit) → R) (c286 : List Int × Int × Int × Unit) (again : (Int × Int × Unit) → R) (v287 : Int × Int × Unit) : R :=
  let v6_288 : List Int := c286.1
  let v7_289 : Int := c286.2.1
  let v8_290 : Int := c286.2.2.1
  let c3_291 : Int := v287.1
  let v16_292 : Int := v287.2.1
  if (decide (v16_292 < (8 : Int))) = true then
    gate (decide ((2 : Int) ≠ 0)) (
      let t20_293 : Bool := (decide ((Int.tmod c3_291 (2 : Int)) = (1 : Int)))
      if t20_293 = true then
        gate (decide ((2 : Int) ≠ 0)) (
          let t22_294 : Int := (IntKind.wrap .u32 (Int.tdiv c3_291 (2 : Int)))
          again ((bitXor .u32 t22_294 (3988292384 : Int)), (IntKind.wrap .i64 (v16_292 + (1 : Int))), ())) s
      else
        gate (decide ((2 : Int) ≠ 0)) (
          let t25_295 : Int := (IntKind.wrap .u32 (Int.tdiv c3_291 (2 : Int)))
          again (t25_295, (IntKind.wrap .i64 (v16_292 + (1 : Int))), ())) s) s
  else
    k2 (c3_291, ())
def wrackref2_Crc.s0 {R : Type} (N : Nat) (s : R) (k0 : (Int × Unit) → R) (c277 : List Int × Int × Unit) (again : (Int × Int × Unit) → R) (v278 : Int × Int × Unit) : R :=
  let v6_279 : List Int := c277.1
  let v7_280 : Int := c277.2.1
  let c3_281 : Int := v278.1
  let v8_282 : Int := v278.2.1
  if (decide (v8_282 < v7_280)) = true then
    gate (inR v8_282 (v6_279.length : Int)) (
      let t14_283 : Int := (IntKind.wrap .u32 ((getI (0 : Int) v6_279 v8_282)))
      iter (wrackref2_Crc.s1 N s (fun (x296 : Int × Unit) =>
        let c3_297 : Int := x296.1
        again (c3_297, (IntKind.wrap .i64 (v8_282 + (1 : Int))), ())) (v6_279, v7_280, v8_282, ())) s N ((bitXor .u32 c3_281 t14_283), (0 : Int), ())) s
  else
    k0 (c3_281, ())
def wrackref2_Crc (N : Nat) (b0 : List Int) : Option Int :=
  iter (wrackref2_Crc.s0 N none (fun (x298 : Int × Unit) =>
    let c3_299 : Int := x298.1
    let t30_300 : Int := (IntKind.wrap .i64 ((bitXor .u32 4294967295 c3_299)))
    some t30_300) (b0, (b0.length : Int), ())) none N ((4294967295 : Int), (0 : Int), ())
def wrackref2_PictureBytes.s1 {R : Type} (N : Nat) (s : R) (k2 : (List Int × List Int × Int × Int × List Int × Unit) → R) (c376 : Int × Int × Int × Int × Unit) (again : (List Int × List Int × Int × Int × Int × List Int × Unit) → R) (v377 : List Int × List Int × Int × Int × Int × List Int × Unit) : R :=
  let y4_378 : Int := c376.1
  let v17_379 : Int := c376.2.1
  let v18_380 : Int := c376.2.2.1
  let v23_381 : Int := c376.2.2.2.1
  let out3_382 : List Int := v377.1
  let r5_383 : List Int := v377.2.1
  let v24_384 : Int := v377.2.2.1
  let m0_385 : Int := v377.2.2.2.1
  let m0_386 : Int := v377.2.2.2.2.1
  let m0_387 : List Int := v377.2.2.2.2.2.1
  if (decide (v24_384 < v23_381)) = true then
    let t34_388 : Int := (IntKind.wrap .i64 ((IntKind.wrap .i64 (y4_378 * m0_385)) + v24_384))
    gate (inR t34_388 (m0_387.length : Int)) (
      let t39_389 : Int := (IntKind.wrap .i64 ((r5_383.length : Int) - (1 : Int)))
      bindO (
        if (decide (t39_389 > (0 : Int))) = true then
          gate (inR t39_389 (r5_383.length : Int)) (
            gate (inR t39_389 (r5_383.length : Int)) (
              gate (decide ((16 : Int) ≠ 0)) (
                let t47_393 : Int := (Int.tmod (getI (0 : Int) r5_383 t39_389) (16 : Int))
                let t49_394 : Bool := (decide (t47_393 = (getI (0 : Int) m0_387 t34_388)))
                if t49_394 = true then
                  gate (inR t39_389 (r5_383.length : Int)) (
                    gate (inR t39_389 (r5_383.length : Int)) (
                      let t56_395 : Bool := (decide ((getI (0 : Int) r5_383 t39_389) < (240 : Int)))
                      some t56_395) none) none
                else
                  some false) none) none) none
        else
          some false) (fun (c57_396 : Bool) =>
        if c57_396 = true then
          gate (inR t39_389 (r5_383.length : Int)) (
            gate (inR t39_389 (r5_383.length : Int)) (
              let t62_397 : Int := (IntKind.wrap .u8 ((getI (0 : Int) r5_383 t39_389) + (16 : Int)))
              gate (inR t39_389 (r5_383.length : Int)) (
                gate (inR t39_389 (r5_383.length : Int)) (
                  again (out3_382, (r5_383.set (t39_389).toNat t62_397), (IntKind.wrap .i64 (v24_384 + (1 : Int))), m0_385, m0_386, m0_387, ())) s) s) s) s
        else
          gate (roomFor (r5_383.length + [(getI (0 : Int) m0_387 t34_388)].length) 1) (
            let b67_398 : List Int := (r5_383 ++ [(getI (0 : Int) m0_387 t34_388)])
            again (out3_382, b67_398, (IntKind.wrap .i64 (v24_384 + (1 : Int))), m0_385, m0_386, m0_387, ())) s) s) s
  else
    k2 (out3_382, r5_383, m0_385, m0_386, m0_387, ())
def wrackref2_PictureBytes.s0 {R : Type} (N : Nat) (s : R) (k0 : (List Int × Unit) → R) (c342 : Int × Unit) (again : (List Int × Int × Int × Int × List Int × Unit) → R) (v343 : List Int × Int × Int × Int × List Int × Unit) : R :=
  let v17_344 : Int := c342.1
  let out3_345 : List Int := v343.1
  let v18_346 : Int := v343.2.1
  let m0_347 : Int := v343.2.2.1
  let m0_348 : Int := v343.2.2.2.1
  let m0_349 : List Int := v343.2.2.2.2.1
  if (decide (v18_346 < v17_344)) = true then
    iter (wrackref2_PictureBytes.s1 N s (fun (x399 : List Int × List Int × Int × Int × List Int × Unit) =>
      let out3_400 : List Int := x399.1
      let r5_401 : List Int := x399.2.1
      let m0_402 : Int := x399.2.2.1
      let m0_403 : Int := x399.2.2.2.1
      let m0_404 : List Int := x399.2.2.2.2.1
      let t72_405 : Int := (IntKind.wrap .i64 ((r5_401.length : Int) - (1 : Int)))
      gate (inR (0 : Int) (r5_401.length : Int)) (
        gate (inR (0 : Int) (r5_401.length : Int)) (
          let bx_406 : List Int := (r5_401.set ((0 : Int)).toNat (IntKind.wrap .u8 (t72_405)))
          gate (roomFor (out3_400.length + bx_406.length) 1) (
            bindO (wrackref2_Crc N bx_406) (fun r79_407 =>
              gate (decide ((256 : Int) ≠ 0)) (
                let t81_408 : Int := (IntKind.wrap .u8 ((Int.tmod r79_407 (256 : Int))))
                gate (roomFor ((out3_400 ++ bx_406).length + [t81_408].length) 1) (
                  again (((out3_400 ++ bx_406) ++ [t81_408]), (IntKind.wrap .i64 (v18_346 + (1 : Int))), m0_402, m0_403, m0_404, ())) s) s) s) s) s) s) (v18_346, v17_344, v18_346, m0_347, ())) s N (out3_345, [(0 : Int)], (0 : Int), m0_347, m0_348, m0_349, ())
  else
    k0 (out3_345, ())
def wrackref2_PictureBytes (N : Nat) (p0 : Int × Int × List Int) : Option (List Int) :=
  let b15_305 : List Int := [(112 : Int), (105 : Int), (120 : Int), (IntKind.wrap .u8 (p0.1)), (IntKind.wrap .u8 (p0.2.1))]
  iter (wrackref2_PictureBytes.s0 N none (fun (x409 : List Int × Unit) =>
    let out3_410 : List Int := x409.1
    some out3_410) (p0.2.1, ())) none N (b15_305, (0 : Int), p0.1, p0.2.1, p0.2.2, ())
def slices_Equal_byte.s0 {R : Type} (N : Nat) (s : R) (k0 : Unit → R) (kr : (Bool × Unit) → R) (c419 : List Int × List Int × Int × Unit) (again : (Int × Unit) → R) (v420 : Int × Unit) : R :=
  let s10_421 : List Int := c419.1
  let s21_422 : List Int := c419.2.1
  let v12_423 : Int := c419.2.2.1
  let v13_424 : Int := v420.1
  if (decide (v13_424 < v12_423)) = true then
    gate (inR v13_424 (s10_421.length : Int)) (
      gate (inR v13_424 (s21_422.length : Int)) (
        let t24_425 : Bool := (!decide ((getI (0 : Int) s10_421 v13_424) = (getI (0 : Int) s21_422 v13_424)))
        if t24_425 = true then
          kr (false, ())
        else
          again ((IntKind.wrap .i64 (v13_424 + (1 : Int))), ())) s) s
  else
    k0 ()
def slices_Equal_byte (N : Nat) (s10 : List Int) (s21 : List Int) : Option Bool :=
  let t10_417 : Bool := (!decide ((s10.length : Int) = (s21.length : Int)))
  if t10_417 = true then
    some false
  else
    iter (slices_Equal_byte.s0 N none (fun (x426 : Unit) =>
      some true) (fun (x427 : Bool × Unit) =>
      let v4_428 : Bool := x427.1
      some v4_428) (s10, s21, (s10.length : Int), ())) none N ((0 : Int), ())
def wracklaw2_PixMakes (N : Nat) (p0 : Int × Int × List Int) : Option Bool :=
  bindO (pix_Make N p0) (fun r8_437 =>
    bindO (wrackref2_PictureErr N p0) (fun r12_438 =>
      bindO (
        bindO (wracklaw2_pictures N) (fun r13_441 =>
          if (!r13_441) = true then
            some true
          else
            bindO (pix_Check N p0) (fun r17_442 =>
              if (!decide (r17_442 = r12_438)) = true then
                some true
              else
                some (!decide (r8_437.2 = r12_438))) none) none) (fun (c25_443 : Bool) =>
        if c25_443 = true then
          some false
        else
          if (!decide (r12_438 = (0 : Int))) = true then
            let t31_449 : Bool := (decide ((r8_437.1.length : Int) = (0 : Int)))
            if t31_449 = true then
              some true
            else
              if (decide (r12_438 = (0 : Int))) = true then
                bindO (wrackref2_PictureBytes N p0) (fun r39_450 =>
                  bindO (slices_Equal_byte N r8_437.1 r39_450) (fun r40_451 =>
                    some r40_451) none) none
              else
                some false
          else
            if (decide (r12_438 = (0 : Int))) = true then
              bindO (wrackref2_PictureBytes N p0) (fun r39_452 =>
                bindO (slices_Equal_byte N r8_437.1 r39_452) (fun r40_453 =>
                  some r40_453) none) none
            else
              some false) none) none) none
def bits_Mul64 (N : Nat) (x0 : Int) (y1 : Int) : Option (Int × Int) :=
  gate (decide (0 ≤ (32 : Int))) (
    gate (decide (0 ≤ (32 : Int))) (
      let t24_474 : Int := (IntKind.wrap .u64 ((bitAnd .u64 x0 (4294967295 : Int)) * (bitAnd .u64 y1 (4294967295 : Int))))
      let t27_475 : Int := (IntKind.wrap .u64 ((shrI .u64 x0 (32 : Int)) * (bitAnd .u64 y1 (4294967295 : Int))))
      gate (decide (0 ≤ (32 : Int))) (
        let t30_476 : Int := (IntKind.wrap .u64 (t27_475 + (shrI .u64 t24_474 (32 : Int))))
        gate (decide (0 ≤ (32 : Int))) (
          let t38_477 : Int := (IntKind.wrap .u64 ((bitAnd .u64 x0 (4294967295 : Int)) * (shrI .u64 y1 (32 : Int))))
          let t39_478 : Int := (IntKind.wrap .u64 ((bitAnd .u64 t30_476 (4294967295 : Int)) + t38_477))
          let t42_479 : Int := (IntKind.wrap .u64 ((shrI .u64 x0 (32 : Int)) * (shrI .u64 y1 (32 : Int))))
          let t44_480 : Int := (IntKind.wrap .u64 (t42_479 + (shrI .u64 t30_476 (32 : Int))))
          gate (decide (0 ≤ (32 : Int))) (
            let t47_481 : Int := (IntKind.wrap .u64 (t44_480 + (shrI .u64 t39_478 (32 : Int))))
            some (t47_481, (IntKind.wrap .u64 (x0 * y1)))) none) none) none) none) none
def bits_Mul (N : Nat) (x0 : Int) (y1 : Int) : Option (Int × Int) :=
  bindO (bits_Mul64 N x0 y1) (fun r25_483 =>
    some r25_483) none
def slices_Repeat_byte.s0 {R : Type} (N : Nat) (s : R) (k0 : (List Int × Unit) → R) (c504 : Unit) (again : (List Int × Int × Unit) → R) (v505 : List Int × Int × Unit) : R :=
  let newslice7_506 : List Int := v505.1
  let n8_507 : Int := v505.2.1
  let t37_508 : Bool := (decide (n8_507 < (newslice7_506.length : Int)))
  if t37_508 = true then
    gate (bounds (newslice7_506.length : Int) n8_507 (newslice7_506.length : Int)) (
      gate (bounds (newslice7_506.length : Int) (0 : Int) n8_507) (
        let t45_509 : Int := (((min (cut newslice7_506 (0 : Int) n8_507).length ((newslice7_506.length : Int) - n8_507).toNat) : Nat) : Int)
        let b45_510 : List Int := (over newslice7_506 (cut newslice7_506 (0 : Int) n8_507) (n8_507).toNat (min (cut newslice7_506 (0 : Int) n8_507).length ((newslice7_506.length : Int) - n8_507).toNat))
        again (b45_510, (IntKind.wrap .i64 (n8_507 + t45_509)), ())) s) s
  else
    k0 (newslice7_506, ())
def slices_Repeat_byte (N : Nat) (x0 : List Int) (count1 : Int) : Option (List Int) :=
  if (decide (count1 < (0 : Int))) = true then
    none
  else
    bindO (bits_Mul N (IntKind.wrap .u64 ((x0.length : Int))) (IntKind.wrap .u64 (count1))) (fun r18_495 =>
      bindO (
        if (decide (r18_495.1 > (0 : Int))) = true then
          some true
        else
          let t25_497 : Bool := (decide (r18_495.2 > (9223372036854775807 : Int)))
          some t25_497) (fun (c26_498 : Bool) =>
        if c26_498 = true then
          none
        else
          gate (decide (0 ≤ (IntKind.wrap .i64 (r18_495.2)) ∧ (IntKind.wrap .i64 (r18_495.2)) ≤ (IntKind.wrap .i64 (r18_495.2))) && roomFor ((IntKind.wrap .i64 (r18_495.2))).toNat 1) (
            let b30_499 : List Int := (List.replicate ((IntKind.wrap .i64 (r18_495.2))).toNat (0 : Int))
            let t33_500 : Int := (((min x0.length b30_499.length) : Nat) : Int)
            let b33_501 : List Int := (over b30_499 x0 0 (min x0.length b30_499.length))
            iter (slices_Repeat_byte.s0 N none (fun (x511 : List Int × Unit) =>
              let newslice7_512 : List Int := x511.1
              some newslice7_512) ()) none N (b33_501, t33_500, ())) none) none) none
def pix_dots.s0 {R : Type} (N : Nat) (s : R) (k0 : (List Int × Unit) → R) (c541 : Int × List Int × Int × Unit) (again : (List Int × Int × Unit) → R) (v542 : List Int × Int × Unit) : R :=
  let wide1_543 : Int := c541.1
  let v9_544 : List Int := c541.2.1
  let v10_545 : Int := c541.2.2.1
  let out6_546 : List Int := v542.1
  let v11_547 : Int := v542.2.1
  if (decide (v11_547 < v10_545)) = true then
    gate (inR v11_547 (v9_544.length : Int)) (
      let t17_548 : Int := (bitAnd .u8 (getI (0 : Int) v9_544 v11_547) (15 : Int))
      gate (decide (0 ≤ (4 : Int))) (
        let t20_549 : Int := (shrI .u8 (getI (0 : Int) v9_544 v11_547) (4 : Int))
        let t22_550 : Int := (IntKind.wrap .i64 ((IntKind.wrap .i64 (t20_549)) + (1 : Int)))
        bindO (slices_Repeat_byte N [t17_548] t22_550) (fun r23_551 =>
          gate (roomFor (out6_546.length + r23_551.length) 1) (
            again ((out6_546 ++ r23_551), (IntKind.wrap .i64 (v11_547 + (1 : Int))), ())) s) s) s) s
  else
    k0 (out6_546, ())
def pix_dots (N : Nat) (b0 : List Int) (wide1 : Int) : Option (List Int × Bool) :=
  iter (pix_dots.s0 N none (fun (x552 : List Int × Unit) =>
    let out6_553 : List Int := x552.1
    some (out6_553, (decide ((out6_553.length : Int) = wide1)))) (wide1, b0, (b0.length : Int), ())) none N ([], (0 : Int), ())
def pix_Read.s0 {R : Type} (N : Nat) (s : R) (k0 : (Int × List Int × Int × Int × Int × Int × List Int × Unit) → R) (kr : (Int × Int × Int × Unit) → R) (c738 : List Int × Int × Unit) (again : (Int × List Int × Int × Int × Int × Int × Int × List Int × Unit) → R) (v739 : Int × List Int × Int × Int × Int × Int × Int × List Int × Unit) : R :=
  let b0_740 : List Int := c738.1
  let v51_741 : Int := c738.2.1
  let at6_742 : Int := v739.1
  let bad7_743 : List Int := v739.2.1
  let v52_744 : Int := v739.2.2.1
  let m0_745 : Int := v739.2.2.2.1
  let m0_746 : Int := v739.2.2.2.2.1
  let m1_747 : Int := v739.2.2.2.2.2.1
  let m1_748 : Int := v739.2.2.2.2.2.2.1
  let m1_749 : List Int := v739.2.2.2.2.2.2.2.1
  if (decide (v52_744 < v51_741)) = true then
    bindO (
      if (decide (at6_742 ≥ (b0_740.length : Int))) = true then
        some true
      else
        gate (inR at6_742 (b0_740.length : Int)) (
          let t66_752 : Int := (IntKind.wrap .i64 ((getI (0 : Int) b0_740 at6_742)))
          let t67_753 : Int := (IntKind.wrap .i64 ((IntKind.wrap .i64 (at6_742 + (2 : Int))) + t66_752))
          some (decide (t67_753 > (b0_740.length : Int)))) none) (fun (c71_754 : Bool) =>
      if c71_754 = true then
        kr ((15 : Int), (0 : Int), (0 : Int), ())
      else
        gate (inR at6_742 (b0_740.length : Int)) (
          let t79_755 : Int := (IntKind.wrap .i64 ((getI (0 : Int) b0_740 at6_742)))
          let t80_756 : Int := (IntKind.wrap .i64 ((IntKind.wrap .i64 (at6_742 + (1 : Int))) + t79_755))
          gate (bounds (b0_740.length : Int) (IntKind.wrap .i64 (at6_742 + (1 : Int))) t80_756) (
            let t86_757 : List Int := (cut b0_740 (IntKind.wrap .i64 (at6_742 + (1 : Int))) t80_756)
            bindO (pix_dots N t86_757 m1_747) (fun r89_758 =>
              bindO (
                if (!r89_758.2) = true then
                  some true
                else
                  gate (bounds (b0_740.length : Int) at6_742 t80_756) (
                    bindO (sum_Crc N (cut b0_740 at6_742 t80_756)) (fun r99_761 =>
                      gate (inR t80_756 (b0_740.length : Int)) (
                        let t105_762 : Bool := (!decide ((IntKind.wrap .u8 (r99_761)) = (getI (0 : Int) b0_740 t80_756)))
                        some t105_762) none) none) none) (fun (c106_763 : Bool) =>
                bindO ((
                  if c106_763 = true then
                    gate (decide (0 ≤ m1_747 ∧ m1_747 ≤ m1_747) && roomFor (m1_747).toNat 1) (
                      gate (roomFor (bad7_743.length + [v52_744].length) 8) (
                        some ((bad7_743 ++ [v52_744]), (List.replicate (m1_747).toNat (0 : Int)), m0_745, m0_746, m1_747, m1_748, m1_749, ())) none) none
                  else
                    some (bad7_743, r89_758.1, m0_745, m0_746, m1_747, m1_748, m1_749, ()) : Option (List Int × List Int × Int × Int × Int × Int × List Int × Unit))) (fun j764 =>
                  let bad7_765 : List Int := j764.1
                  let l10_766 : List Int := j764.2.1
                  let m0_767 : Int := j764.2.2.1
                  let m0_768 : Int := j764.2.2.2.1
                  let m1_769 : Int := j764.2.2.2.2.1
                  let m1_770 : Int := j764.2.2.2.2.2.1
                  let m1_771 : List Int := j764.2.2.2.2.2.2.1
                  gate (roomFor (m1_771.length + l10_766.length) 1) (
                    again ((IntKind.wrap .i64 (t80_756 + (1 : Int))), bad7_765, (IntKind.wrap .i64 (v52_744 + (1 : Int))), m0_767, m0_768, m1_769, m1_770, (m1_771 ++ l10_766), ())) s) s) s) s) s) s) s
  else
    k0 (at6_742, bad7_743, m0_745, m0_746, m1_747, m1_748, m1_749, ())
def pix_Read (N : Nat) (b0 : List Int) : Option ((Int × Int × List Int) × List Int × Int) :=
  if (decide ((b0.length : Int) < (5 : Int))) = true then
    some (((0 : Int), ((0 : Int), [])), ([], (15 : Int)))
  else
    gate (inR (3 : Int) (b0.length : Int)) (
      let t19_647 : Int := (IntKind.wrap .i64 ((getI (0 : Int) b0 (3 : Int))))
      gate (inR (4 : Int) (b0.length : Int)) (
        let t23_648 : Int := (IntKind.wrap .i64 ((getI (0 : Int) b0 (4 : Int))))
        bindO (
          gate (bounds (b0.length : Int) (0 : Int) (3 : Int)) (
            let t28_650 : Bool := (!decide ((cut b0 (0 : Int) (3 : Int)) = [112, 105, 120]))
            if t28_650 = true then
              some true
            else
              if (decide (t19_647 < (1 : Int))) = true then
                some true
              else
                if (decide (t19_647 > (64 : Int))) = true then
                  some true
                else
                  if (decide (t23_648 < (1 : Int))) = true then
                    some true
                  else
                    some (decide (t23_648 > (64 : Int)))) none) (fun (c48_651 : Bool) =>
          if c48_651 = true then
            some (((0 : Int), ((0 : Int), [])), ([], (3 : Int)))
          else
            iter (pix_Read.s0 N none (fun (x772 : Int × List Int × Int × Int × Int × Int × List Int × Unit) =>
              let at6_773 : Int := x772.1
              let bad7_774 : List Int := x772.2.1
              let m0_775 : Int := x772.2.2.1
              let m0_776 : Int := x772.2.2.2.1
              let m1_777 : Int := x772.2.2.2.2.1
              let m1_778 : Int := x772.2.2.2.2.2.1
              let m1_779 : List Int := x772.2.2.2.2.2.2.1
              if (decide (at6_773 < (b0.length : Int))) = true then
                some (((0 : Int), ((0 : Int), [])), ([], (3 : Int)))
              else
                some ((m1_777, (m1_778, m1_779)), (bad7_774, (0 : Int)))) (fun (x780 : Int × Int × Int × Unit) =>
              let v4_781 : Int := x780.1
              let m0_782 : Int := x780.2.1
              let m0_783 : Int := x780.2.2.1
              some ((m0_782, (m0_783, [])), ([], v4_781))) (b0, t23_648, ())) none N ((5 : Int), [], (0 : Int), (0 : Int), (0 : Int), t19_647, t23_648, [], ())) none) none) none
def wrackref2_PictureOf.s2 {R : Type} (N : Nat) (s : R) (k4 : (List Int × List Int × Int × Int × Int × Int × List Int × Unit) → R) (c1502 : List Int × Int × Int × Int × Int × Int × List Int × Int × Int × Int × Unit) (again : (List Int × List Int × Int × Int × Int × Int × Int × List Int × Unit) → R) (v1503 : List Int × List Int × Int × Int × Int × Int × Int × List Int × Unit) : R :=
  let rest6_1504 : List Int := c1502.1
  let y8_1505 : Int := c1502.2.1
  let n9_1506 : Int := c1502.2.2.1
  let c12_1507 : Int := c1502.2.2.2.1
  let v50_1508 : Int := c1502.2.2.2.2.1
  let v51_1509 : Int := c1502.2.2.2.2.2.1
  let v75_1510 : List Int := c1502.2.2.2.2.2.2.1
  let v76_1511 : Int := c1502.2.2.2.2.2.2.2.1
  let v77_1512 : Int := c1502.2.2.2.2.2.2.2.2.1
  let v83_1513 : Int := c1502.2.2.2.2.2.2.2.2.2.1
  let bad7_1514 : List Int := v1503.1
  let dots10_1515 : List Int := v1503.2.1
  let v84_1516 : Int := v1503.2.2.1
  let m0_1517 : Int := v1503.2.2.2.1
  let m0_1518 : Int := v1503.2.2.2.2.1
  let m1_1519 : Int := v1503.2.2.2.2.2.1
  let m1_1520 : Int := v1503.2.2.2.2.2.2.1
  let m1_1521 : List Int := v1503.2.2.2.2.2.2.2.1
  if (decide (v84_1516 < v83_1513)) = true then
    gate (decide ((16 : Int) ≠ 0)) (
      gate (roomFor (dots10_1515.length + [(Int.tmod c12_1507 (16 : Int))].length) 1) (
        let b90_1522 : List Int := (dots10_1515 ++ [(Int.tmod c12_1507 (16 : Int))])
        again (bad7_1514, b90_1522, (IntKind.wrap .u8 (v84_1516 + (1 : Int))), m0_1517, m0_1518, m1_1519, m1_1520, m1_1521, ())) s) s
  else
    k4 (bad7_1514, dots10_1515, m0_1517, m0_1518, m1_1519, m1_1520, m1_1521, ())
def wrackref2_PictureOf.s1 {R : Type} (N : Nat) (s : R) (k2 : (List Int × List Int × Int × Int × Int × Int × List Int × Unit) → R) (c1484 : List Int × Int × Int × Int × Int × List Int × Int × Unit) (again : (List Int × List Int × Int × Int × Int × Int × Int × List Int × Unit) → R) (v1485 : List Int × List Int × Int × Int × Int × Int × Int × List Int × Unit) : R :=
  let rest6_1486 : List Int := c1484.1
  let y8_1487 : Int := c1484.2.1
  let n9_1488 : Int := c1484.2.2.1
  let v50_1489 : Int := c1484.2.2.2.1
  let v51_1490 : Int := c1484.2.2.2.2.1
  let v75_1491 : List Int := c1484.2.2.2.2.2.1
  let v76_1492 : Int := c1484.2.2.2.2.2.2.1
  let bad7_1493 : List Int := v1485.1
  let dots10_1494 : List Int := v1485.2.1
  let v77_1495 : Int := v1485.2.2.1
  let m0_1496 : Int := v1485.2.2.2.1
  let m0_1497 : Int := v1485.2.2.2.2.1
  let m1_1498 : Int := v1485.2.2.2.2.2.1
  let m1_1499 : Int := v1485.2.2.2.2.2.2.1
  let m1_1500 : List Int := v1485.2.2.2.2.2.2.2.1
  if (decide (v77_1495 < v76_1492)) = true then
    gate (inR v77_1495 (v75_1491.length : Int)) (
      gate (decide ((16 : Int) ≠ 0)) (
        let t82_1501 : Int := (IntKind.wrap .u8 (Int.tdiv (getI (0 : Int) v75_1491 v77_1495) (16 : Int)))
        iter (wrackref2_PictureOf.s2 N s (fun (x1523 : List Int × List Int × Int × Int × Int × Int × List Int × Unit) =>
          let bad7_1524 : List Int := x1523.1
          let dots10_1525 : List Int := x1523.2.1
          let m0_1526 : Int := x1523.2.2.1
          let m0_1527 : Int := x1523.2.2.2.1
          let m1_1528 : Int := x1523.2.2.2.2.1
          let m1_1529 : Int := x1523.2.2.2.2.2.1
          let m1_1530 : List Int := x1523.2.2.2.2.2.2.1
          again (bad7_1524, dots10_1525, (IntKind.wrap .i64 (v77_1495 + (1 : Int))), m0_1526, m0_1527, m1_1528, m1_1529, m1_1530, ())) (rest6_1486, y8_1487, n9_1488, (getI (0 : Int) v75_1491 v77_1495), v50_1489, v51_1490, v75_1491, v76_1492, v77_1495, (IntKind.wrap .u8 (t82_1501 + (1 : Int))), ())) s N (bad7_1493, dots10_1494, (0 : Int), m0_1496, m0_1497, m1_1498, m1_1499, m1_1500, ())) s) s
  else
    k2 (bad7_1493, dots10_1494, m0_1496, m0_1497, m1_1498, m1_1499, m1_1500, ())
def wrackref2_PictureOf.s0 {R : Type} (N : Nat) (s : R) (k0 : (List Int × List Int × Int × Int × Int × Int × List Int × Unit) → R) (kr : (Int × Int × Int × Unit) → R) (c1420 : Int × Unit) (again : (List Int × List Int × Int × Int × Int × Int × Int × List Int × Unit) → R) (v1421 : List Int × List Int × Int × Int × Int × Int × Int × List Int × Unit) : R :=
  let v50_1422 : Int := c1420.1
  let rest6_1423 : List Int := v1421.1
  let bad7_1424 : List Int := v1421.2.1
  let v51_1425 : Int := v1421.2.2.1
  let m0_1426 : Int := v1421.2.2.2.1
  let m0_1427 : Int := v1421.2.2.2.2.1
  let m1_1428 : Int := v1421.2.2.2.2.2.1
  let m1_1429 : Int := v1421.2.2.2.2.2.2.1
  let m1_1430 : List Int := v1421.2.2.2.2.2.2.2.1
  if (decide (v51_1425 < v50_1422)) = true then
    bindO (
      let t56_1434 : Bool := (decide ((rest6_1423.length : Int) = (0 : Int)))
      if t56_1434 = true then
        some true
      else
        gate (inR (0 : Int) (rest6_1423.length : Int)) (
          let t63_1435 : Int := (IntKind.wrap .i64 ((getI (0 : Int) rest6_1423 (0 : Int))))
          let t65_1436 : Bool := (decide ((rest6_1423.length : Int) < (IntKind.wrap .i64 ((2 : Int) + t63_1435))))
          some t65_1436) none) (fun (c66_1437 : Bool) =>
      if c66_1437 = true then
        kr ((15 : Int), (0 : Int), (0 : Int), ())
      else
        gate (inR (0 : Int) (rest6_1423.length : Int)) (
          let t71_1438 : Int := (IntKind.wrap .i64 ((getI (0 : Int) rest6_1423 (0 : Int))))
          gate (bounds (rest6_1423.length : Int) (1 : Int) (IntKind.wrap .i64 ((1 : Int) + t71_1438))) (
            let t75_1439 : List Int := (cut rest6_1423 (1 : Int) (IntKind.wrap .i64 ((1 : Int) + t71_1438)))
            iter (wrackref2_PictureOf.s1 N s (fun (x1531 : List Int × List Int × Int × Int × Int × Int × List Int × Unit) =>
              let bad7_1532 : List Int := x1531.1
              let dots10_1533 : List Int := x1531.2.1
              let m0_1534 : Int := x1531.2.2.1
              let m0_1535 : Int := x1531.2.2.2.1
              let m1_1536 : Int := x1531.2.2.2.2.1
              let m1_1537 : Int := x1531.2.2.2.2.2.1
              let m1_1538 : List Int := x1531.2.2.2.2.2.2.1
              bindO (
                let t97_1544 : Bool := (!decide ((dots10_1533.length : Int) = m1_1536))
                if t97_1544 = true then
                  some true
                else
                  gate (bounds (rest6_1423.length : Int) (0 : Int) (IntKind.wrap .i64 ((1 : Int) + t71_1438))) (
                    let t101_1545 : List Int := (cut rest6_1423 (0 : Int) (IntKind.wrap .i64 ((1 : Int) + t71_1438)))
                    bindO (wrackref2_Crc N t101_1545) (fun r102_1546 =>
                      gate (decide ((256 : Int) ≠ 0)) (
                        let t104_1547 : Int := (IntKind.wrap .u8 ((Int.tmod r102_1546 (256 : Int))))
                        gate (inR (IntKind.wrap .i64 ((1 : Int) + t71_1438)) (rest6_1423.length : Int)) (
                          let t107_1548 : Int := (getI (0 : Int) rest6_1423 (IntKind.wrap .i64 ((1 : Int) + t71_1438)))
                          some (!decide (t104_1547 = t107_1548))) none) none) none) none) (fun (c110_1549 : Bool) =>
                bindO ((
                  if c110_1549 = true then
                    gate (roomFor (bad7_1532.length + [v51_1425].length) 8) (
                      gate (decide (0 ≤ m1_1536 ∧ m1_1536 ≤ m1_1536) && roomFor (m1_1536).toNat 1) (
                        some ((bad7_1532 ++ [v51_1425]), (List.replicate (m1_1536).toNat (0 : Int)), m0_1534, m0_1535, m1_1536, m1_1537, m1_1538, ())) none) none
                  else
                    some (bad7_1532, dots10_1533, m0_1534, m0_1535, m1_1536, m1_1537, m1_1538, ()) : Option (List Int × List Int × Int × Int × Int × Int × List Int × Unit))) (fun j1550 =>
                  let bad7_1551 : List Int := j1550.1
                  let dots10_1552 : List Int := j1550.2.1
                  let m0_1553 : Int := j1550.2.2.1
                  let m0_1554 : Int := j1550.2.2.2.1
                  let m1_1555 : Int := j1550.2.2.2.2.1
                  let m1_1556 : Int := j1550.2.2.2.2.2.1
                  let m1_1557 : List Int := j1550.2.2.2.2.2.2.1
                  gate (roomFor (m1_1557.length + dots10_1552.length) 1) (
                    let t124_1558 : Int := (IntKind.wrap .i64 ((IntKind.wrap .i64 ((1 : Int) + t71_1438)) + (1 : Int)))
                    gate (bounds (rest6_1423.length : Int) t124_1558 (rest6_1423.length : Int)) (
                      let t125_1559 : List Int := (cut rest6_1423 t124_1558 (rest6_1423.length : Int))
                      again (t125_1559, bad7_1551, (IntKind.wrap .i64 (v51_1425 + (1 : Int))), m0_1553, m0_1554, m1_1555, m1_1556, (m1_1557 ++ dots10_1552), ())) s) s) s) s) (rest6_1423, v51_1425, (IntKind.wrap .i64 ((1 : Int) + t71_1438)), v50_1422, v51_1425, t75_1439, (t75_1439.length : Int), ())) s N (bad7_1424, [], (0 : Int), m0_1426, m0_1427, m1_1428, m1_1429, m1_1430, ())) s) s) s
  else
    k0 (rest6_1423, bad7_1424, m0_1426, m0_1427, m1_1428, m1_1429, m1_1430, ())
def wrackref2_PictureOf (N : Nat) (b0 : List Int) : Option ((Int × Int × List Int) × List Int × Int) :=
  if (decide ((b0.length : Int) < (5 : Int))) = true then
    some (((0 : Int), ((0 : Int), [])), ([], (15 : Int)))
  else
    gate (inR (3 : Int) (b0.length : Int)) (
      let t20_1109 : Int := (IntKind.wrap .i64 ((getI (0 : Int) b0 (3 : Int))))
      gate (inR (4 : Int) (b0.length : Int)) (
        let t24_1110 : Int := (IntKind.wrap .i64 ((getI (0 : Int) b0 (4 : Int))))
        bindO (
          gate (bounds (b0.length : Int) (0 : Int) (3 : Int)) (
            let t29_1114 : Bool := (!decide ((cut b0 (0 : Int) (3 : Int)) = [112, 105, 120]))
            if t29_1114 = true then
              some true
            else
              let t36_1115 : Bool := (decide ((minI t20_1109 t24_1110) < (1 : Int)))
              if t36_1115 = true then
                some true
              else
                let t44_1116 : Bool := (decide ((maxI t20_1109 t24_1110) > (64 : Int)))
                some t44_1116) none) (fun (c45_1117 : Bool) =>
          if c45_1117 = true then
            some (((0 : Int), ((0 : Int), [])), ([], (3 : Int)))
          else
            gate (bounds (b0.length : Int) (5 : Int) (b0.length : Int)) (
              iter (wrackref2_PictureOf.s0 N none (fun (x1560 : List Int × List Int × Int × Int × Int × Int × List Int × Unit) =>
                let rest6_1561 : List Int := x1560.1
                let bad7_1562 : List Int := x1560.2.1
                let m0_1563 : Int := x1560.2.2.1
                let m0_1564 : Int := x1560.2.2.2.1
                let m1_1565 : Int := x1560.2.2.2.2.1
                let m1_1566 : Int := x1560.2.2.2.2.2.1
                let m1_1567 : List Int := x1560.2.2.2.2.2.2.1
                let t130_1568 : Bool := (decide ((rest6_1561.length : Int) > (0 : Int)))
                if t130_1568 = true then
                  some (((0 : Int), ((0 : Int), [])), ([], (3 : Int)))
                else
                  some ((m1_1565, (m1_1566, m1_1567)), (bad7_1562, (0 : Int)))) (fun (x1569 : Int × Int × Int × Unit) =>
                let v4_1570 : Int := x1569.1
                let m0_1571 : Int := x1569.2.1
                let m0_1572 : Int := x1569.2.2.1
                some ((m0_1571, (m0_1572, [])), ([], v4_1570))) (t24_1110, ())) none N ((cut b0 (5 : Int) (b0.length : Int)), [], (0 : Int), (0 : Int), (0 : Int), t20_1109, t24_1110, [], ())) none) none) none) none
def slices_Equal_int.s0 {R : Type} (N : Nat) (s : R) (k0 : Unit → R) (kr : (Bool × Unit) → R) (c1582 : List Int × List Int × Int × Unit) (again : (Int × Unit) → R) (v1583 : Int × Unit) : R :=
  let s10_1584 : List Int := c1582.1
  let s21_1585 : List Int := c1582.2.1
  let v12_1586 : Int := c1582.2.2.1
  let v13_1587 : Int := v1583.1
  if (decide (v13_1587 < v12_1586)) = true then
    gate (inR v13_1587 (s10_1584.length : Int)) (
      gate (inR v13_1587 (s21_1585.length : Int)) (
        let t24_1588 : Bool := (!decide ((getI (0 : Int) s10_1584 v13_1587) = (getI (0 : Int) s21_1585 v13_1587)))
        if t24_1588 = true then
          kr (false, ())
        else
          again ((IntKind.wrap .i64 (v13_1587 + (1 : Int))), ())) s) s
  else
    k0 ()
def slices_Equal_int (N : Nat) (s10 : List Int) (s21 : List Int) : Option Bool :=
  let t10_1580 : Bool := (!decide ((s10.length : Int) = (s21.length : Int)))
  if t10_1580 = true then
    some false
  else
    iter (slices_Equal_int.s0 N none (fun (x1589 : Unit) =>
      some true) (fun (x1590 : Bool × Unit) =>
      let v4_1591 : Bool := x1590.1
      some v4_1591) (s10, s21, (s10.length : Int), ())) none N ((0 : Int), ())
def wrackref2_SamePicture (N : Nat) (a0 : Int × Int × List Int) (b1 : Int × Int × List Int) : Option Bool :=
  bindO (
    if (decide (a0.1 = b1.1)) = true then
      if (decide (a0.2.1 = b1.2.1)) = true then
        some (decide (a0.2.2 = b1.2.2))
      else
        some false
    else
      some false) (fun (c4_1594 : Bool) =>
    some c4_1594) none
def wracklaw2_PixReads (N : Nat) (b0 : List Int) : Option Bool :=
  bindO (pix_Read N b0) (fun r11_1600 =>
    bindO (wrackref2_PictureOf N b0) (fun r17_1601 =>
      bindO (
        bindO (wracklaw2_pictures N) (fun r21_1605 =>
          if r21_1605 = true then
            if (decide (r11_1600.2.2 = r17_1601.2.2)) = true then
              bindO (slices_Equal_int N r11_1600.2.1 r17_1601.2.1) (fun r30_1606 =>
                if r30_1606 = true then
                  bindO (wrackref2_SamePicture N r11_1600.1 r17_1601.1) (fun r35_1607 =>
                    some r35_1607) none
                else
                  some false) none
            else
              some false
          else
            some false) none) (fun (c2_1608 : Bool) =>
        some c2_1608) none) none) none
def wrackmake_Below (N : Nat) (x0 : Int) (n1 : Int) : Option Int :=
  gate (decide (n1 ≠ 0)) (
    if (decide ((Int.tmod x0 n1) < (0 : Int))) = true then
      some (IntKind.wrap .i64 ((Int.tmod x0 n1) + n1))
    else
      some (Int.tmod x0 n1)) none
def wrackmake_Stream_Next (N : Nat) (s0 : List Int × Unit) (n1 : Int) : Option (Int × (List Int × Unit)) :=
  bindO (
    if (decide ((s0.1.length : Int) = (0 : Int))) = true then
      some true
    else
      some (decide (n1 < (1 : Int)))) (fun (c15_1611 : Bool) =>
    if c15_1611 = true then
      some ((0 : Int), (s0.1, ()))
    else
      gate (inR (0 : Int) (s0.1.length : Int)) (
        gate (bounds (s0.1.length : Int) (1 : Int) (s0.1.length : Int)) (
          bindO (wrackmake_Below N (getI (0 : Int) s0.1 (0 : Int)) n1) (fun r32_1612 =>
            some (r32_1612, ((cut s0.1 (1 : Int) (s0.1.length : Int)), ()))) none) none) none) none
def wrackkeep2_picture.s0 {R : Type} (N : Nat) (s : R) (k0 : (Int × Int × Int × Int × List Int × Unit) → R) (c1667 : Unit) (again : (Int × Int × List Int × Int × Int × List Int × Unit) → R) (v1668 : Int × Int × List Int × Int × Int × List Int × Unit) : R :=
  let m0_1669 : Int := v1668.1
  let m0_1670 : Int := v1668.2.1
  let m1_1671 : List Int := v1668.2.2.1
  let m2_1672 : Int := v1668.2.2.2.1
  let m2_1673 : Int := v1668.2.2.2.2.1
  let m2_1674 : List Int := v1668.2.2.2.2.2.1
  let t23_1675 : Bool := (decide ((m2_1674.length : Int) < (IntKind.wrap .i64 (m2_1672 * m2_1673))))
  if t23_1675 = true then
    bindO (wrackmake_Stream_Next N (m1_1671, ()) (16 : Int)) (fun r27_1676 =>
      bindO (wrackmake_Stream_Next N (r27_1676.2.1, ()) (5 : Int)) (fun r31_1677 =>
        bindO (slices_Repeat_byte N [(IntKind.wrap .u8 (r27_1676.1))] (IntKind.wrap .i64 ((1 : Int) + r31_1677.1))) (fun r33_1678 =>
          gate (roomFor (m2_1674.length + r33_1678.length) 1) (
            again (m0_1669, m0_1670, r31_1677.2.1, m2_1672, m2_1673, (m2_1674 ++ r33_1678), ())) s) s) s) s
  else
    k0 (m0_1669, m0_1670, m2_1672, m2_1673, m2_1674, ())
def wrackkeep2_picture (N : Nat) (l0 : List Int) : Option (Int × Int × List Int) :=
  bindO (wrackmake_Stream_Next N (l0, ()) (20 : Int)) (fun r9_1643 =>
    bindO (wrackmake_Stream_Next N (r9_1643.2.1, ()) (12 : Int)) (fun r12_1644 =>
      iter (wrackkeep2_picture.s0 N none (fun (x1679 : Int × Int × Int × Int × List Int × Unit) =>
        let m0_1680 : Int := x1679.1
        let m0_1681 : Int := x1679.2.1
        let m1_1682 : Int := x1679.2.2.1
        let m1_1683 : Int := x1679.2.2.2.1
        let m1_1684 : List Int := x1679.2.2.2.2.1
        gate (bounds (m1_1684.length : Int) (0 : Int) (IntKind.wrap .i64 (m1_1682 * m1_1683))) (
          some (m1_1682, (m1_1683, (cut m1_1684 (0 : Int) (IntKind.wrap .i64 (m1_1682 * m1_1683)))))) none) ()) none N ((0 : Int), (0 : Int), r12_1644.2.1, (IntKind.wrap .i64 ((1 : Int) + r9_1643.1)), (IntKind.wrap .i64 ((1 : Int) + r12_1644.1)), [], ())) none) none
def wrackkeep2_drawn (N : Nat) : Option Bool :=
  bindO (pix_Make N ((2 : Int), ((1 : Int), [(3 : Int), (3 : Int)]))) (fun r6_1694 =>
    bindO (
      if (decide (r6_1694.2 = (0 : Int))) = true then
        let t14_1697 : Bool := (decide ((r6_1694.1.length : Int) = (8 : Int)))
        if t14_1697 = true then
          gate (inR (6 : Int) (r6_1694.1.length : Int)) (
            gate (inR (6 : Int) (r6_1694.1.length : Int)) (
              let t20_1698 : Bool := (decide ((getI (0 : Int) r6_1694.1 (6 : Int)) = (19 : Int)))
              some t20_1698) none) none
        else
          some false
      else
        some false) (fun (c0_1699 : Bool) =>
      some c0_1699) none) none
def wrackkeep2_PixBack_1 (N : Nat) (x0 : Int × Int × List Int) (y1 : Int × Int × List Int) : Option Bool :=
  bindO (
    if (decide (x0.1 = y1.1)) = true then
      if (decide (x0.2.1 = y1.2.1)) = true then
        bindO (slices_Equal_byte N x0.2.2 y1.2.2) (fun r22_1706 =>
          some r22_1706) none
      else
        some false
    else
      some false) (fun (c4_1707 : Bool) =>
    some c4_1707) none
def wrackkeep2_PixBack.s0 {R : Type} (N : Nat) (s : R) (k0 : (List Int × Int × Int × Int × List Int × Int × Int × List Int × Unit) → R) (c1793 : Int × Int × Int × Unit) (again : (List Int × Int × Int × Int × Int × List Int × Int × Int × List Int × Unit) → R) (v1794 : List Int × Int × Int × Int × Int × List Int × Int × Int × List Int × Unit) : R :=
  let row1_1795 : Int := c1793.1
  let by2_1796 : Int := c1793.2.1
  let v55_1797 : Int := c1793.2.2.1
  let b8_1798 : List Int := v1794.1
  let at14_1799 : Int := v1794.2.1
  let v56_1800 : Int := v1794.2.2.1
  let m0_1801 : Int := v1794.2.2.2.1
  let m0_1802 : Int := v1794.2.2.2.2.1
  let m0_1803 : List Int := v1794.2.2.2.2.2.1
  let m2_1804 : Int := v1794.2.2.2.2.2.2.1
  let m2_1805 : Int := v1794.2.2.2.2.2.2.2.1
  let m2_1806 : List Int := v1794.2.2.2.2.2.2.2.2.1
  if (decide (v56_1800 < v55_1797)) = true then
    let t63_1807 : Int := (IntKind.wrap .i64 ((b8_1798.length : Int) - (1 : Int)))
    gate (inR (minI at14_1799 t63_1807) (b8_1798.length : Int)) (
      gate (inR (minI at14_1799 t63_1807) (b8_1798.length : Int)) (
        let t66_1808 : Int := (getI (0 : Int) b8_1798 (minI at14_1799 t63_1807))
        let t68_1809 : Int := (IntKind.wrap .i64 ((2 : Int) + (IntKind.wrap .i64 (t66_1808))))
        again (b8_1798, (IntKind.wrap .i64 (at14_1799 + t68_1809)), (IntKind.wrap .i64 (v56_1800 + (1 : Int))), m0_1801, m0_1802, m0_1803, m2_1804, m2_1805, m2_1806, ())) s) s
  else
    k0 (b8_1798, at14_1799, m0_1801, m0_1802, m0_1803, m2_1804, m2_1805, m2_1806, ())
def wrackkeep2_PixBack.s1 {R : Type} (N : Nat) (s : R) (k2 : (List Int × Int × Int × List Int × Int × Int × List Int × Unit) → R) (c1838 : Int × Int × Int × Unit) (again : (List Int × Int × Int × Int × List Int × Int × Int × List Int × Unit) → R) (v1839 : List Int × Int × Int × Int × List Int × Int × Int × List Int × Unit) : R :=
  let row1_1840 : Int := c1838.1
  let f12_1841 : Int := c1838.2.1
  let v104_1842 : Int := c1838.2.2.1
  let bad11_1843 : List Int := v1839.1
  let v105_1844 : Int := v1839.2.1
  let m0_1845 : Int := v1839.2.2.1
  let m0_1846 : Int := v1839.2.2.2.1
  let m0_1847 : List Int := v1839.2.2.2.2.1
  let m1_1848 : Int := v1839.2.2.2.2.2.1
  let m1_1849 : Int := v1839.2.2.2.2.2.2.1
  let m1_1850 : List Int := v1839.2.2.2.2.2.2.2.1
  if (decide (v105_1844 < v104_1842)) = true then
    let t115_1851 : Int := (IntKind.wrap .i64 ((IntKind.wrap .i64 (row1_1840 * m0_1845)) + v105_1844))
    gate (inR t115_1851 (m0_1847.length : Int)) (
      gate (inR t115_1851 (m0_1847.length : Int)) (
        again (bad11_1843, (IntKind.wrap .i64 (v105_1844 + (1 : Int))), m0_1845, m0_1846, (m0_1847.set (t115_1851).toNat (0 : Int)), m1_1848, m1_1849, m1_1850, ())) s) s
  else
    k2 (bad11_1843, m0_1845, m0_1846, m0_1847, m1_1848, m1_1849, m1_1850, ())
def wrackkeep2_PixBack (N : Nat) (l0 : List Int) (row1 : Int) (by2 : Int) : Option Bool :=
  bindO (wrackkeep2_picture N l0) (fun r17_1768 =>
    bindO (pix_Make N r17_1768) (fun r20_1769 =>
      bindO (pix_Read N r20_1769.1) (fun r25_1770 =>
        bindO (wrackkeep2_drawn N) (fun r29_1774 =>
          if (!r29_1774) = true then
            some false
          else
            if (!decide (r20_1769.2 = (0 : Int))) = true then
              some false
            else
              if (!decide (r25_1770.2.2 = (0 : Int))) = true then
                some false
              else
                let t42_1775 : Bool := (decide ((r25_1770.2.1.length : Int) > (0 : Int)))
                if t42_1775 = true then
                  some false
                else
                  bindO (wrackkeep2_PixBack_1 N r17_1768 r25_1770.1) (fun r48_1776 =>
                    if (!r48_1776) = true then
                      some false
                    else
                      bindO (wrackmake_Below N row1 r17_1768.2.1) (fun r54_1777 =>
                        iter (wrackkeep2_PixBack.s0 N none (fun (x1810 : List Int × Int × Int × Int × List Int × Int × Int × List Int × Unit) =>
                          let b8_1811 : List Int := x1810.1
                          let at14_1812 : Int := x1810.2.1
                          let m0_1813 : Int := x1810.2.2.1
                          let m0_1814 : Int := x1810.2.2.2.1
                          let m0_1815 : List Int := x1810.2.2.2.2.1
                          let m2_1816 : Int := x1810.2.2.2.2.2.1
                          let m2_1817 : Int := x1810.2.2.2.2.2.2.1
                          let m2_1818 : List Int := x1810.2.2.2.2.2.2.2.1
                          let t76_1819 : Int := (IntKind.wrap .i64 ((b8_1811.length : Int) - (1 : Int)))
                          gate (inR (minI at14_1812 t76_1819) (b8_1811.length : Int)) (
                            gate (inR (minI at14_1812 t76_1819) (b8_1811.length : Int)) (
                              let t79_1820 : Int := (getI (0 : Int) b8_1811 (minI at14_1812 t76_1819))
                              let t81_1821 : Int := (IntKind.wrap .i64 ((1 : Int) + (IntKind.wrap .i64 (t79_1820))))
                              let t86_1822 : Bool := (decide ((IntKind.wrap .i64 (at14_1812 + t81_1821)) ≥ (b8_1811.length : Int)))
                              if t86_1822 = true then
                                some false
                              else
                                gate (inR (IntKind.wrap .i64 (at14_1812 + t81_1821)) (b8_1811.length : Int)) (
                                  gate (inR (IntKind.wrap .i64 (at14_1812 + t81_1821)) (b8_1811.length : Int)) (
                                    let t90_1823 : Int := (getI (0 : Int) b8_1811 (IntKind.wrap .i64 (at14_1812 + t81_1821)))
                                    bindO (wrackmake_Below N by2 (255 : Int)) (fun r92_1824 =>
                                      let t94_1825 : Int := (IntKind.wrap .u8 ((IntKind.wrap .i64 ((1 : Int) + r92_1824))))
                                      gate (inR (IntKind.wrap .i64 (at14_1812 + t81_1821)) (b8_1811.length : Int)) (
                                        gate (inR (IntKind.wrap .i64 (at14_1812 + t81_1821)) (b8_1811.length : Int)) (
                                          let bx_1826 : List Int := (b8_1811.set ((IntKind.wrap .i64 (at14_1812 + t81_1821))).toNat (IntKind.wrap .u8 (t90_1823 + t94_1825)))
                                          bindO (pix_Read N bx_1826) (fun r99_1827 =>
                                            iter (wrackkeep2_PixBack.s1 N none (fun (x1852 : List Int × Int × Int × List Int × Int × Int × List Int × Unit) =>
                                              let bad11_1853 : List Int := x1852.1
                                              let m0_1854 : Int := x1852.2.1
                                              let m0_1855 : Int := x1852.2.2.1
                                              let m0_1856 : List Int := x1852.2.2.2.1
                                              let m1_1857 : Int := x1852.2.2.2.2.1
                                              let m1_1858 : Int := x1852.2.2.2.2.2.1
                                              let m1_1859 : List Int := x1852.2.2.2.2.2.2.1
                                              if (decide (r99_1827.2.2 = (0 : Int))) = true then
                                                bindO (slices_Equal_int N bad11_1853 [r54_1777]) (fun r124_1862 =>
                                                  if r124_1862 = true then
                                                    bindO (wrackkeep2_PixBack_1 N (m0_1854, (m0_1855, m0_1856)) (m1_1857, (m1_1858, m1_1859))) (fun r130_1863 =>
                                                      some r130_1863) none
                                                  else
                                                    some false) none
                                              else
                                                some false) (r54_1777, r99_1827.2.2, m0_1813, ())) none N (r99_1827.2.1, (0 : Int), m0_1813, m0_1814, m0_1815, r99_1827.1.1, r99_1827.1.2.1, r99_1827.1.2.2, ())) none) none) none) none) none) none) none) none) (r54_1777, by2, r54_1777, ())) none N (r20_1769.1, (5 : Int), (0 : Int), r17_1768.1, r17_1768.2.1, r17_1768.2.2, r25_1770.1.1, r25_1770.1.2.1, r25_1770.1.2.2, ())) none) none) none) none) none) none
end Go.Proofs.Yteekijpcdcpjkaa
