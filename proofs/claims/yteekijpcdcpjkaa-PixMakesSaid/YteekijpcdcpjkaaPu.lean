import Derived.Test.YteekijpcdcpjkaaAbIterFn
set_option linter.unusedVariables false
namespace Go.Proofs.Yteekijpcdcpjkaa
open Go Go.Ab
def slices_Max_byte.s0 {R : Type} (N : Nat) (s : R) (k0 : (Int × Unit) → R) (c5 : List Int × Unit) (again : (Int × Int × Unit) → R) (v6 : Int × Int × Unit) : R :=
  let x0_7 : List Int := c5.1
  let m3_8 : Int := v6.1
  let i4_9 : Int := v6.2.1
  if (decide (i4_9 < (x0_7.length : Int))) = true then
    gate (inR i4_9 (x0_7.length : Int)) (
      again ((maxI m3_8 (getI (0 : Int) x0_7 i4_9)), (IntKind.wrap .i64 (i4_9 + (1 : Int))), ())) s
  else
    k0 (m3_8, ())
def slices_Max_byte (N : Nat) (x0 : List Int) : Option Int :=
  if (decide ((x0.length : Int) < (1 : Int))) = true then
    none
  else
    gate (inR (0 : Int) (x0.length : Int)) (
      iter (slices_Max_byte.s0 N none (fun (x10 : Int × Unit) =>
        let m3_11 : Int := x10.1
        some m3_11) (x0, ())) none N ((getI (0 : Int) x0 (0 : Int)), (1 : Int), ())) none
def pix_Check (N : Nat) (p0 : Int × Int × List Int) : Option Int :=
  bindO (
    if (decide (p0.1 < (1 : Int))) = true then
      some true
    else
      if (decide (p0.1 > (64 : Int))) = true then
        some true
      else
        if (decide (p0.2.1 < (1 : Int))) = true then
          some true
        else
          some (decide (p0.2.1 > (64 : Int)))) (fun (c3_13 : Bool) =>
    if c3_13 = true then
      some (4 : Int)
    else
      let t31_14 : Bool := (!decide ((p0.2.2.length : Int) = (IntKind.wrap .i64 (p0.1 * p0.2.1))))
      if t31_14 = true then
        some (3 : Int)
      else
        bindO (slices_Max_byte N p0.2.2) (fun r35_15 =>
          if (decide (r35_15 ≥ (16 : Int))) = true then
            some (4 : Int)
          else
            some (0 : Int)) none) none
def sum_Crc.s1 {R : Type} (N : Nat) (s : R) (k2 : (Int × Unit) → R) (c82 : List Int × Int × Int × Unit) (again : (Int × Int × Unit) → R) (v83 : Int × Int × Unit) : R :=
  let v6_84 : List Int := c82.1
  let v7_85 : Int := c82.2.1
  let v8_86 : Int := c82.2.2.1
  let c3_87 : Int := v83.1
  let v16_88 : Int := v83.2.1
  if (decide (v16_88 < (8 : Int))) = true then
    gate (decide (0 ≤ (1 : Int))) (
      let t22_89 : Int := (IntKind.wrap .u32 ((bitAnd .u32 c3_87 (1 : Int)) * (3988292384 : Int)))
      let t23_90 : Int := (bitXor .u32 (shrI .u32 c3_87 (1 : Int)) t22_89)
      again (t23_90, (IntKind.wrap .i64 (v16_88 + (1 : Int))), ())) s
  else
    k2 (c3_87, ())
def sum_Crc.s0 {R : Type} (N : Nat) (s : R) (k0 : (Int × Unit) → R) (c73 : List Int × Int × Unit) (again : (Int × Int × Unit) → R) (v74 : Int × Int × Unit) : R :=
  let v6_75 : List Int := c73.1
  let v7_76 : Int := c73.2.1
  let c3_77 : Int := v74.1
  let v8_78 : Int := v74.2.1
  if (decide (v8_78 < v7_76)) = true then
    gate (inR v8_78 (v6_75.length : Int)) (
      let t14_79 : Int := (IntKind.wrap .u32 ((getI (0 : Int) v6_75 v8_78)))
      iter (sum_Crc.s1 N s (fun (x91 : Int × Unit) =>
        let c3_92 : Int := x91.1
        again (c3_92, (IntKind.wrap .i64 (v8_78 + (1 : Int))), ())) (v6_75, v7_76, v8_78, ())) s N ((bitXor .u32 c3_77 t14_79), (0 : Int), ())) s
  else
    k0 (c3_77, ())
def sum_Crc (N : Nat) (b0 : List Int) : Option Int :=
  iter (sum_Crc.s0 N none (fun (x93 : Int × Unit) =>
    let c3_94 : Int := x93.1
    let t28_95 : Int := (IntKind.wrap .i64 ((bitXor .u32 4294967295 c3_94)))
    some t28_95) (b0, (b0.length : Int), ())) none N ((4294967295 : Int), (0 : Int), ())
def pix_row.s1 {R : Type} (N : Nat) (s : R) (k2 : (List Int × Int × Unit) → R) (c153 : List Int × Int × Unit) (again : (List Int × Int × Unit) → R) (v154 : List Int × Int × Unit) : R :=
  let dots0_155 : List Int := c153.1
  let i4_156 : Int := c153.2.1
  let out3_157 : List Int := v154.1
  let n5_158 : Int := v154.2.1
  bindO (
    if (decide (n5_158 < (16 : Int))) = true then
      let t19_162 : Bool := (decide ((IntKind.wrap .i64 (i4_156 + n5_158)) < (dots0_155.length : Int)))
      if t19_162 = true then
        gate (inR (IntKind.wrap .i64 (i4_156 + n5_158)) (dots0_155.length : Int)) (
          let t26_163 : Int := (getI (0 : Int) dots0_155 (IntKind.wrap .i64 (i4_156 + n5_158)))
          gate (inR i4_156 (dots0_155.length : Int)) (
            let t32_164 : Bool := (decide (t26_163 = (getI (0 : Int) dots0_155 i4_156)))
            some t32_164) none) none
      else
        some false
    else
      some false) (fun (c33_165 : Bool) =>
    if c33_165 = true then
      again (out3_157, (IntKind.wrap .i64 (n5_158 + (1 : Int))), ())
    else
      k2 (out3_157, n5_158, ())) s
def pix_row.s0 {R : Type} (N : Nat) (s : R) (k0 : (List Int × Unit) → R) (c135 : List Int × Unit) (again : (List Int × Int × Unit) → R) (v136 : List Int × Int × Unit) : R :=
  let dots0_137 : List Int := c135.1
  let out3_138 : List Int := v136.1
  let i4_139 : Int := v136.2.1
  if (decide (i4_139 < (dots0_137.length : Int))) = true then
    iter (pix_row.s1 N s (fun (x166 : List Int × Int × Unit) =>
      let out3_167 : List Int := x166.1
      let n5_168 : Int := x166.2.1
      let t39_169 : Int := (IntKind.wrap .u8 ((IntKind.wrap .i64 (n5_168 - (1 : Int)))))
      gate (decide (0 ≤ (4 : Int))) (
        gate (inR i4_139 (dots0_137.length : Int)) (
          let t45_170 : Int := (bitOr .u8 (shlI .u8 t39_169 (4 : Int)) (getI (0 : Int) dots0_137 i4_139))
          gate (roomFor (out3_167.length + [t45_170].length) 1) (
            again ((out3_167 ++ [t45_170]), (IntKind.wrap .i64 (i4_139 + n5_168)), ())) s) s) s) (dots0_137, i4_139, ())) s N (out3_138, (1 : Int), ())
  else
    k0 (out3_138, ())
def pix_row (N : Nat) (dots0 : List Int) : Option (List Int) :=
  iter (pix_row.s0 N none (fun (x171 : List Int × Unit) =>
    let out3_172 : List Int := x171.1
    let t54_173 : Int := (IntKind.wrap .i64 ((out3_172.length : Int) - (1 : Int)))
    gate (inR (0 : Int) (out3_172.length : Int)) (
      gate (inR (0 : Int) (out3_172.length : Int)) (
        let bx_174 : List Int := (out3_172.set ((0 : Int)).toNat (IntKind.wrap .u8 (t54_173)))
        bindO (sum_Crc N bx_174) (fun r59_175 =>
          gate (roomFor (bx_174.length + [(IntKind.wrap .u8 (r59_175))].length) 1) (
            some (bx_174 ++ [(IntKind.wrap .u8 (r59_175))])) none) none) none) none) (dots0, ())) none N ([(0 : Int)], (0 : Int), ())
def pix_Make.r0 {R : Type} (N : Nat) (s : R) (c183 : Unit) (x185 : List Int) (again : (List Int × Unit) → R) (v184 : List Int × Unit) : R :=
  let m0_186 : List Int := v184.1
  bindO (pix_row N x185) (fun r27_187 =>
    gate (roomFor (m0_186.length + r27_187.length) 1) (
      again ((m0_186 ++ r27_187), ())) s) s
def pix_Make (N : Nat) (p0 : Int × Int × List Int) : Option (List Int × Int) :=
  bindO (pix_Check N p0) (fun r8_180 =>
    if (!decide (r8_180 = (0 : Int))) = true then
      some ([], r8_180)
    else
      let b18_181 : List Int := [(112 : Int), (105 : Int), (120 : Int), (IntKind.wrap .u8 (p0.1)), (IntKind.wrap .u8 (p0.2.1))]
      if (decide (p0.1 < (1 : Int))) = true then
        none
      else
        bindO (chunkGo p0.2.2 p0.1) (fun (l190 : List (List Int)) =>
          foldR (pix_Make.r0 N none  ()) (fun (x188 : List Int × Unit) =>
          let m0_189 : List Int := x188.1
          some (m0_189, (0 : Int))) l190 (b18_181, ())) none) none
def wrackref2_PictureErr.s0 {R : Type} (N : Nat) (s : R) (k0 : Unit → R) (kr : (Int × Unit) → R) (c201 : List Int × Int × Unit) (again : (Int × Unit) → R) (v202 : Int × Unit) : R :=
  let v29_203 : List Int := c201.1
  let v30_204 : Int := c201.2.1
  let v31_205 : Int := v202.1
  if (decide (v31_205 < v30_204)) = true then
    gate (inR v31_205 (v29_203.length : Int)) (
      let t36_206 : Bool := (decide ((getI (0 : Int) v29_203 v31_205) > (15 : Int)))
      if t36_206 = true then
        kr ((4 : Int), ())
      else
        again ((IntKind.wrap .i64 (v31_205 + (1 : Int))), ())) s
  else
    k0 ()
def wrackref2_PictureErr (N : Nat) (p0 : Int × Int × List Int) : Option Int :=
  bindO (
    if (decide ((minI p0.1 p0.2.1) < (1 : Int))) = true then
      some true
    else
      some (decide ((maxI p0.1 p0.2.1) > (64 : Int)))) (fun (c18_198 : Bool) =>
    if c18_198 = true then
      some (4 : Int)
    else
      let t27_199 : Bool := (!decide ((p0.2.2.length : Int) = (IntKind.wrap .i64 (p0.1 * p0.2.1))))
      if t27_199 = true then
        some (3 : Int)
      else
        iter (wrackref2_PictureErr.s0 N none (fun (x207 : Unit) =>
          some (0 : Int)) (fun (x208 : Int × Unit) =>
          let v2_209 : Int := x208.1
          some v2_209) (p0.2.2, (p0.2.2.length : Int), ())) none N ((0 : Int), ())) none
def wracklaw2_pictures (N : Nat) : Option Bool :=
  bindO (pix_Make N ((2 : Int), ((1 : Int), [(3 : Int), (3 : Int)]))) (fun r6_217 =>
    bindO (
      if (decide (r6_217.2 = (0 : Int))) = true then
        let t14_220 : Bool := (decide ((r6_217.1.length : Int) = (8 : Int)))
        if t14_220 = true then
          gate (inR (6 : Int) (r6_217.1.length : Int)) (
            gate (inR (6 : Int) (r6_217.1.length : Int)) (
              let t20_221 : Bool := (decide ((getI (0 : Int) r6_217.1 (6 : Int)) = (19 : Int)))
              some t20_221) none) none
        else
          some false
      else
        some false) (fun (c0_222 : Bool) =>
      some c0_222) none) none
def wrackref2_Crc.s1 {R : Type} (N : Nat) (s : R) (k2 : (Int × Unit) → R) (c286 : List Int × Int × Int × Unit) (again : (Int × Int × Unit) → R) (v287 : Int × Int × Unit) : R :=
  let v6_288 : List Int := c286.1
  let v7_289 : Int := c286.2.1
  let v8_290 : Int := c286.2.2.1
  let c3_291 : Int := v287.1
  let v16_292 : Int := v287.2.1
  if (decide (v16_292 < (8 : Int))) = true then
    gate (decide ((2 : Int) ≠ 0)) (
      let t20_293 : Bool := (decide ((Int.tmod c3_291 (2 : Int)) = (1 : Int)))
      if t20_293 = true then
        gate (decide ((2 : Int) ≠ 0)) (
          let t22_294 : Int := (IntKind.wrap .u32 (Int.tdiv c3_291 (2 : Int)))
          again ((bitXor .u32 t22_294 (3988292384 : Int)), (IntKind.wrap .i64 (v16_292 + (1 : Int))), ())) s
      else
        gate (decide ((2 : Int) ≠ 0)) (
          let t25_295 : Int := (IntKind.wrap .u32 (Int.tdiv c3_291 (2 : Int)))
          again (t25_295, (IntKind.wrap .i64 (v16_292 + (1 : Int))), ())) s) s
  else
    k2 (c3_291, ())
def wrackref2_Crc.s0 {R : Type} (N : Nat) (s : R) (k0 : (Int × Unit) → R) (c277 : List Int × Int × Unit) (again : (Int × Int × Unit) → R) (v278 : Int × Int × Unit) : R :=
  let v6_279 : List Int := c277.1
  let v7_280 : Int := c277.2.1
  let c3_281 : Int := v278.1
  let v8_282 : Int := v278.2.1
  if (decide (v8_282 < v7_280)) = true then
    gate (inR v8_282 (v6_279.length : Int)) (
      let t14_283 : Int := (IntKind.wrap .u32 ((getI (0 : Int) v6_279 v8_282)))
      iter (wrackref2_Crc.s1 N s (fun (x296 : Int × Unit) =>
        let c3_297 : Int := x296.1
        again (c3_297, (IntKind.wrap .i64 (v8_282 + (1 : Int))), ())) (v6_279, v7_280, v8_282, ())) s N ((bitXor .u32 c3_281 t14_283), (0 : Int), ())) s
  else
    k0 (c3_281, ())
def wrackref2_Crc (N : Nat) (b0 : List Int) : Option Int :=
  iter (wrackref2_Crc.s0 N none (fun (x298 : Int × Unit) =>
    let c3_299 : Int := x298.1
    let t30_300 : Int := (IntKind.wrap .i64 ((bitXor .u32 4294967295 c3_299)))
    some t30_300) (b0, (b0.length : Int), ())) none N ((4294967295 : Int), (0 : Int), ())
def wrackref2_PictureBytes.s1 {R : Type} (N : Nat) (s : R) (k2 : (List Int × List Int × Int × Int × List Int × Unit) → R) (c376 : Int × Int × Int × Int × Unit) (again : (List Int × List Int × Int × Int × Int × List Int × Unit) → R) (v377 : List Int × List Int × Int × Int × Int × List Int × Unit) : R :=
  let y4_378 : Int := c376.1
  let v17_379 : Int := c376.2.1
  let v18_380 : Int := c376.2.2.1
  let v23_381 : Int := c376.2.2.2.1
  let out3_382 : List Int := v377.1
  let r5_383 : List Int := v377.2.1
  let v24_384 : Int := v377.2.2.1
  let m0_385 : Int := v377.2.2.2.1
  let m0_386 : Int := v377.2.2.2.2.1
  let m0_387 : List Int := v377.2.2.2.2.2.1
  if (decide (v24_384 < v23_381)) = true then
    let t34_388 : Int := (IntKind.wrap .i64 ((IntKind.wrap .i64 (y4_378 * m0_385)) + v24_384))
    gate (inR t34_388 (m0_387.length : Int)) (
      let t39_389 : Int := (IntKind.wrap .i64 ((r5_383.length : Int) - (1 : Int)))
      bindO (
        if (decide (t39_389 > (0 : Int))) = true then
          gate (inR t39_389 (r5_383.length : Int)) (
            gate (inR t39_389 (r5_383.length : Int)) (
              gate (decide ((16 : Int) ≠ 0)) (
                let t47_393 : Int := (Int.tmod (getI (0 : Int) r5_383 t39_389) (16 : Int))
                let t49_394 : Bool := (decide (t47_393 = (getI (0 : Int) m0_387 t34_388)))
                if t49_394 = true then
                  gate (inR t39_389 (r5_383.length : Int)) (
                    gate (inR t39_389 (r5_383.length : Int)) (
                      let t56_395 : Bool := (decide ((getI (0 : Int) r5_383 t39_389) < (240 : Int)))
                      some t56_395) none) none
                else
                  some false) none) none) none
        else
          some false) (fun (c57_396 : Bool) =>
        if c57_396 = true then
          gate (inR t39_389 (r5_383.length : Int)) (
            gate (inR t39_389 (r5_383.length : Int)) (
              let t62_397 : Int := (IntKind.wrap .u8 ((getI (0 : Int) r5_383 t39_389) + (16 : Int)))
              gate (inR t39_389 (r5_383.length : Int)) (
                gate (inR t39_389 (r5_383.length : Int)) (
                  again (out3_382, (r5_383.set (t39_389).toNat t62_397), (IntKind.wrap .i64 (v24_384 + (1 : Int))), m0_385, m0_386, m0_387, ())) s) s) s) s
        else
          gate (roomFor (r5_383.length + [(getI (0 : Int) m0_387 t34_388)].length) 1) (
            let b67_398 : List Int := (r5_383 ++ [(getI (0 : Int) m0_387 t34_388)])
            again (out3_382, b67_398, (IntKind.wrap .i64 (v24_384 + (1 : Int))), m0_385, m0_386, m0_387, ())) s) s) s
  else
    k2 (out3_382, r5_383, m0_385, m0_386, m0_387, ())
def wrackref2_PictureBytes.s0 {R : Type} (N : Nat) (s : R) (k0 : (List Int × Unit) → R) (c342 : Int × Unit) (again : (List Int × Int × Int × Int × List Int × Unit) → R) (v343 : List Int × Int × Int × Int × List Int × Unit) : R :=
  let v17_344 : Int := c342.1
  let out3_345 : List Int := v343.1
  let v18_346 : Int := v343.2.1
  let m0_347 : Int := v343.2.2.1
  let m0_348 : Int := v343.2.2.2.1
  let m0_349 : List Int := v343.2.2.2.2.1
  if (decide (v18_346 < v17_344)) = true then
    iter (wrackref2_PictureBytes.s1 N s (fun (x399 : List Int × List Int × Int × Int × List Int × Unit) =>
      let out3_400 : List Int := x399.1
      let r5_401 : List Int := x399.2.1
      let m0_402 : Int := x399.2.2.1
      let m0_403 : Int := x399.2.2.2.1
      let m0_404 : List Int := x399.2.2.2.2.1
      let t72_405 : Int := (IntKind.wrap .i64 ((r5_401.length : Int) - (1 : Int)))
      gate (inR (0 : Int) (r5_401.length : Int)) (
        gate (inR (0 : Int) (r5_401.length : Int)) (
          let bx_406 : List Int := (r5_401.set ((0 : Int)).toNat (IntKind.wrap .u8 (t72_405)))
          gate (roomFor (out3_400.length + bx_406.length) 1) (
            bindO (wrackref2_Crc N bx_406) (fun r79_407 =>
              gate (decide ((256 : Int) ≠ 0)) (
                let t81_408 : Int := (IntKind.wrap .u8 ((Int.tmod r79_407 (256 : Int))))
                gate (roomFor ((out3_400 ++ bx_406).length + [t81_408].length) 1) (
                  again (((out3_400 ++ bx_406) ++ [t81_408]), (IntKind.wrap .i64 (v18_346 + (1 : Int))), m0_402, m0_403, m0_404, ())) s) s) s) s) s) s) (v18_346, v17_344, v18_346, m0_347, ())) s N (out3_345, [(0 : Int)], (0 : Int), m0_347, m0_348, m0_349, ())
  else
    k0 (out3_345, ())
def wrackref2_PictureBytes (N : Nat) (p0 : Int × Int × List Int) : Option (List Int) :=
  let b15_305 : List Int := [(112 : Int), (105 : Int), (120 : Int), (IntKind.wrap .u8 (p0.1)), (IntKind.wrap .u8 (p0.2.1))]
  iter (wrackref2_PictureBytes.s0 N none (fun (x409 : List Int × Unit) =>
    let out3_410 : List Int := x409.1
    some out3_410) (p0.2.1, ())) none N (b15_305, (0 : Int), p0.1, p0.2.1, p0.2.2, ())
def slices_Equal_byte.s0 {R : Type} (N : Nat) (s : R) (k0 : Unit → R) (kr : (Bool × Unit) → R) (c419 : List Int × List Int × Int × Unit) (again : (Int × Unit) → R) (v420 : Int × Unit) : R :=
  let s10_421 : List Int := c419.1
  let s21_422 : List Int := c419.2.1
  let v12_423 : Int := c419.2.2.1
  let v13_424 : Int := v420.1
  if (decide (v13_424 < v12_423)) = true then
    gate (inR v13_424 (s10_421.length : Int)) (
      gate (inR v13_424 (s21_422.length : Int)) (
        let t24_425 : Bool := (!decide ((getI (0 : Int) s10_421 v13_424) = (getI (0 : Int) s21_422 v13_424)))
        if t24_425 = true then
          kr (false, ())
        else
          again ((IntKind.wrap .i64 (v13_424 + (1 : Int))), ())) s) s
  else
    k0 ()
def slices_Equal_byte (N : Nat) (s10 : List Int) (s21 : List Int) : Option Bool :=
  let t10_417 : Bool := (!decide ((s10.length : Int) = (s21.length : Int)))
  if t10_417 = true then
    some false
  else
    iter (slices_Equal_byte.s0 N none (fun (x426 : Unit) =>
      some true) (fun (x427 : Bool × Unit) =>
      let v4_428 : Bool := x427.1
      some v4_428) (s10, s21, (s10.length : Int), ())) none N ((0 : Int), ())
def wracklaw2_PixMakes (N : Nat) (p0 : Int × Int × List Int) : Option Bool :=
  bindO (pix_Make N p0) (fun r8_437 =>
    bindO (wrackref2_PictureErr N p0) (fun r12_438 =>
      bindO (
        bindO (wracklaw2_pictures N) (fun r13_441 =>
          if (!r13_441) = true then
            some true
          else
            bindO (pix_Check N p0) (fun r17_442 =>
              if (!decide (r17_442 = r12_438)) = true then
                some true
              else
                some (!decide (r8_437.2 = r12_438))) none) none) (fun (c25_443 : Bool) =>
        if c25_443 = true then
          some false
        else
          if (!decide (r12_438 = (0 : Int))) = true then
            let t31_449 : Bool := (decide ((r8_437.1.length : Int) = (0 : Int)))
            if t31_449 = true then
              some true
            else
              if (decide (r12_438 = (0 : Int))) = true then
                bindO (wrackref2_PictureBytes N p0) (fun r39_450 =>
                  bindO (slices_Equal_byte N r8_437.1 r39_450) (fun r40_451 =>
                    some r40_451) none) none
              else
                some false
          else
            if (decide (r12_438 = (0 : Int))) = true then
              bindO (wrackref2_PictureBytes N p0) (fun r39_452 =>
                bindO (slices_Equal_byte N r8_437.1 r39_452) (fun r40_453 =>
                  some r40_453) none) none
            else
              some false) none) none) none
end Go.Proofs.Yteekijpcdcpjkaa
