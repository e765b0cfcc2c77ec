import Derived.Test.YteekijpcdcpjkaaAbIterFn
set_option linter.unusedVariables false
namespace Go.Proofs.Yteekijpcdcpjkaa
open Go Go.Ab
def slices_Max_byte.s0 {R : Type} (N : Nat) (s : R) (k0 : (Int × Unit) → R) (c5 : List Int × Unit) (again : (Int × Int × Unit) → R) (v6 : Int × Int × Unit) : R :=
  let x0_7 : List Int := c5.1
  let m3_8 : Int := v6.1
  let i4_9 : Int := v6.2.1
  if (decide (i4_9 < (x0_7.length : Int))) = true then
    gate (inR i4_9 (x0_7.length : Int)) (
      again ((maxI m3_8 (getI (0 : Int) x0_7 i4_9)), (IntKind.wrap .i64 (i4_9 + (1 : Int))), ())) s
  else
    k0 (m3_8, ())
def slices_Max_byte (N : Nat) (x0 : List Int) : Option Int :=
  if (decide ((x0.length : Int) < (1 : Int))) = true then
    none
  else
    gate (inR (0 : Int) (x0.length : Int)) (
      iter (slices_Max_byte.s0 N none (fun (x10 : Int × Unit) =>
        let m3_11 : Int := x10.1
        some m3_11) (x0, ())) none N ((getI (0 : Int) x0 (0 : Int)), (1 : Int), ())) none
def pix_Check (N : Nat) (p0 : Int × Int × List Int) : Option Int :=
  bindO (
    if (decide (p0.1 < (1 : Int))) = true then
      some true
    else
      if (decide (p0.1 > (64 : Int))) = true then
        some true
      else
        if (decide (p0.2.1 < (1 : Int))) = true then
          some true
        else
          some (decide (p0.2.1 > (64 : Int)))) (fun (c3_13 : Bool) =>
    if c3_13 = true then
      some (4 : Int)
    else
      let t31_14 : Bool := (!decide ((p0.2.2.length : Int) = (IntKind.wrap .i64 (p0.1 * p0.2.1))))
      if t31_14 = true then
        some (3 : Int)
      else
        bindO (slices_Max_byte N p0.2.2) (fun r35_15 =>
          if (decide (r35_15 ≥ (16 : Int))) = true then
            some (4 : Int)
          else
            some (0 : Int)) none) none
def sum_Crc.s1 {R : Type} (N : Nat) (s : R) (k2 : (Int × Unit) → R) (c82 : List Int × Int × Int × Unit) (again : (Int × Int × Unit) → R) (v83 : Int × Int × Unit) : R :=
  let v6_84 : List Int := c82.1
  let v7_85 : Int := c82.2.1
  let v8_86 : Int := c82.2.2.1
  let c3_87 : Int := v83.1
  let v16_88 : Int := v83.2.1
  if (decide (v16_88 < (8 : Int))) = true then
    gate (decide (0 ≤ (1 : Int))) (
      let t22_89 : Int := (IntKind.wrap .u32 ((bitAnd .u32 c3_87 (1 : Int)) * (3988292384 : Int)))
      let t23_90 : Int := (bitXor .u32 (shrI .u32 c3_87 (1 : Int)) t22_89)
      again (t23_90, (IntKind.wrap .i64 (v16_88 + (1 : Int))), ())) s
  else
    k2 (c3_87, ())
def sum_Crc.s0 {R : Type} (N : Nat) (s : R) (k0 : (Int × Unit) → R) (c73 : List Int × Int × Unit) (again : (Int × Int × Unit) → R) (v74 : Int × Int × Unit) : R :=
  let v6_75 : List Int := c73.1
  let v7_76 : Int := c73.2.1
  let c3_77 : Int := v74.1
  let v8_78 : Int := v74.2.1
  if (decide (v8_78 < v7_76)) = true then
    gate (inR v8_78 (v6_75.length : Int)) (
      let t14_79 : Int := (IntKind.wrap .u32 ((getI (0 : Int) v6_75 v8_78)))
      iter (sum_Crc.s1 N s (fun (x91 : Int × Unit) =>
        let c3_92 : Int := x91.1
        again (c3_92, (IntKind.wrap .i64 (v8_78 + (1 : Int))), ())) (v6_75, v7_76, v8_78, ())) s N ((bitXor .u32 c3_77 t14_79), (0 : Int), ())) s
  else
    k0 (c3_77, ())
def sum_Crc (N : Nat) (b0 : List Int) : Option Int :=
  iter (sum_Crc.s0 N none (fun (x93 : Int × Unit) =>
    let c3_94 : Int := x93.1
    let t28_95 : Int := (IntKind.wrap .i64 ((bitXor .u32 4294967295 c3_94)))
    some t28_95) (b0, (b0.length : Int), ())) none N ((4294967295 : Int), (0 : Int), ())
def pix_row.s1 {R : Type} (N : Nat) (s : R) (k2 : (List Int × Int × Unit) → R) (c153 : List Int × Int × Unit) (again : (List Int × Int × Unit) → R) (v154 : List Int × Int × Unit) : R :=
  let dots0_155 : List Int := c153.1
  let i4_156 : Int := c153.2.1
  let out3_157 : List Int := v154.1
  let n5_158 : Int := v154.2.1
  bindO (
    if (decide (n5_158 < (16 : Int))) = true then
      let t19_162 : Bool := (decide ((IntKind.wrap .i64 (i4_156 + n5_158)) < (dots0_155.length : Int)))
      if t19_162 = true then
        gate (inR (IntKind.wrap .i64 (i4_156 + n5_158)) (dots0_155.length : Int)) (
          let t26_163 : Int := (getI (0 : Int) dots0_155 (IntKind.wrap .i64 (i4_156 + n5_158)))
          gate (inR i4_156 (dots0_155.length : Int)) (
            let t32_164 : Bool := (decide (t26_163 = (getI (0 : Int) dots0_155 i4_156)))
            some t32_164) none) none
      else
        some false
    else
      some false) (fun (c33_165 : Bool) =>
    if c33_165 = true then
      again (out3_157, (IntKind.wrap .i64 (n5_158 + (1 : Int))), ())
    else
      k2 (out3_157, n5_158, ())) s
def pix_row.s0 {R : Type} (N : Nat) (s : R) (k0 : (List Int × Unit) → R) (c135 : List Int × Unit) (again : (List Int × Int × Unit) → R) (v136 : List Int × Int × Unit) : R :=
  let dots0_137 : List Int := c135.1
  let out3_138 : List Int := v136.1
  let i4_139 : Int := v136.2.1
  if (decide (i4_139 < (dots0_137.length : Int))) = true then
    iter (pix_row.s1 N s (fun (x166 : List Int × Int × Unit) =>
      let out3_167 : List Int := x166.1
      let n5_168 : Int := x166.2.1
      let t39_169 : Int := (IntKind.wrap .u8 ((IntKind.wrap .i64 (n5_168 - (1 : Int)))))
      gate (decide (0 ≤ (4 : Int))) (
        gate (inR i4_139 (dots0_137.length : Int)) (
          let t45_170 : Int := (bitOr .u8 (shlI .u8 t39_169 (4 : Int)) (getI (0 : Int) dots0_137 i4_139))
          gate (roomFor (out3_167.length + [t45_170].length) 1) (
            again ((out3_167 ++ [t45_170]), (IntKind.wrap .i64 (i4_139 + n5_168)), ())) s) s) s) (dots0_137, i4_139, ())) s N (out3_138, (1 : Int), ())
  else
    k0 (out3_138, ())
def pix_row (N : Nat) (dots0 : List Int) : Option (List Int) :=
  iter (pix_row.s0 N none (fun (x171 : List Int × Unit) =>
    let out3_172 : List Int := x171.1
    let t54_173 : Int := (IntKind.wrap .i64 ((out3_172.length : Int) - (1 : Int)))
    gate (inR (0 : Int) (out3_172.length : Int)) (
      gate (inR (0 : Int) (out3_172.length : Int)) (
        let bx_174 : List Int := (out3_172.set ((0 : Int)).toNat (IntKind.wrap .u8 (t54_173)))
        bindO (sum_Crc N bx_174) (fun r59_175 =>
          gate (roomFor (bx_174.length + [(IntKind.wrap .u8 (r59_175))].length) 1) (
            some (bx_174 ++ [(IntKind.wrap .u8 (r59_175))])) none) none) none) none) (dots0, ())) none N ([(0 : Int)], (0 : Int), ())
def pix_Make.r0 {R : Type} (N : Nat) (s : R) (c183 : Unit) (x185 : List Int) (again : (List Int × Unit) → R) (v184 : List Int × Unit) : R :=
  let m0_186 : List Int := v184.1
  bindO (pix_row N x185) (fun r27_187 =>
    gate (roomFor (m0_186.length + r27_187.length) 1) (
      again ((m0_186 ++ r27_187), ())) s) s
def pix_Make (N : Nat) (p0 : Int × Int × List Int) : Option (List Int × Int) :=
  bindO (pix_Check N p0) (fun r8_180 =>
    if (!decide (r8_180 = (0 : Int))) = true then
      some ([], r8_180)
    else
      let b18_181 : List Int := [(112 : Int), (105 : Int), (120 : Int), (IntKind.wrap .u8 (p0.1)), (IntKind.wrap .u8 (p0.2.1))]
      if (decide (p0.1 < (1 : Int))) = true then
        none
      else
        bindO (chunkGo p0.2.2 p0.1) (fun (l190 : List (List Int)) =>
          foldR (pix_Make.r0 N none  ()) (fun (x188 : List Int × Unit) =>
          let m0_189 : List Int := x188.1
          some (m0_189, (0 : Int))) l190 (b18_181, ())) none) none
def wrackref2_PictureErr.s0 {R : Type} (N : Nat) (s : R) (k0 : Unit → R) (kr : (Int × Unit) → R) (c201 : List Int × Int × Unit) (again : (Int × Unit) → R) (v202 : Int × Unit) : R :=
  let v29_203 : List Int := c201.1
  let v30_204 : Int := c201.2.1
  let v31_205 : Int := v202.1
  if (decide (v31_205 < v30_204)) = true then
    gate (inR v31_205 (v29_203.length : Int)) (
      let t36_206 : Bool := (decide ((getI (0 : Int) v29_203 v31_205) > (15 : Int)))
      if t36_206 = true then
        kr ((4 : Int), ())
      else
        again ((IntKind.wrap .i64 (v31_205 + (1 : Int))), ())) s
  else
    k0 ()
def wrackref2_PictureErr (N : Nat) (p0 : Int × Int × List Int) : Option Int :=
  bindO (
    if (decide ((minI p0.1 p0.2.1) < (1 : Int))) = true then
      some true
    else
      some (decide ((maxI p0.1 p0.2.1) > (64 : Int)))) (fun (c18_198 : Bool) =>
    if c18_198 = true then
      some (4 : Int)
    else
      let t27_199 : Bool := (!decide ((p0.2.2.length : Int) = (IntKind.wrap .i64 (p0.1 * p0.2.1))))
      if t27_199 = true then
        some (3 : Int)
      else
        iter (wrackref2_PictureErr.s0 N none (fun (x207 : Unit) =>
          some (0 : Int)) (fun (x208 : Int × Unit) =>
          let v2_209 : Int := x208.1
          some v2_209) (p0.2.2, (p0.2.2.length : Int), ())) none N ((0 : Int), ())) none
def wracklaw2_pictures (N : Nat) : Option Bool :=
  bindO (pix_Make N ((2 : Int), ((1 : Int), [(3 : Int), (3 : Int)]))) (fun r6_217 =>
    bindO (
      if (decide (r6_217.2 = (0 : Int))) = true then
        let t14_220 : Bool := (decide ((r6_217.1.length : Int) = (8 : Int)))
        if t14_220 = true then
          gate (inR (6 : Int) (r6_217.1.length : Int)) (
            gate (inR (6 : Int) (r6_217.1.length : Int)) (
              let t20_221 : Bool := (decide ((getI (0 : Int) r6_217.1 (6 : Int)) = (19 : Int)))
              some t20_221) none) none
        else
          some false
      else
        some false) (fun (c0_222 : Bool) =>
      some c0_222) none) none
def wrackref2_Crc.s1 {R : Type} (N : Nat) (s : R) (k2 : (Int × Unit) → R) (c286 : List Int × Int × Int × Unit) (again : (Int × Int × Unit) → R) (v287 : Int × Int × Unit) : R :=
  let v6_288 : List Int := c286.1
  let v7_289 : Int := c286.2.1
  let v8_290 : Int := c286.2.2.1
  let c3_291 : Int := v287.1
  let v16_292 : Int := v287.2.1
  if (decide (v16_292 < (8 : Int))) = true then
    gate (decide ((2 : Int) ≠ 0)) (
      let t20_293 : Bool := (decide ((Int.tmod c3_291 (2 : Int)) = (1 : Int)))
      if t20_293 = true then
        gate (decide ((2 : Int) ≠ 0)) (
          let t22_294 : Int := (IntKind.wrap .u32 (Int.tdiv c3_291 (2 : Int)))
          again ((bitXor .u32 t22_294 (3988292384 : Int)), (IntKind.wrap .i64 (v16_292 + (1 : Int))), ())) s
      else
        gate (decide ((2 : Int) ≠ 0)) (
          let t25_295 : Int := (IntKind.wrap .u32 (Int.tdiv c3_291 (2 : Int)))
          again (t25_295, (IntKind.wrap .i64 (v16_292 + (1 : Int))), ())) s) s
  else
    k2 (c3_291, ())
def wrackref2_Crc.s0 {R : Type} (N : Nat) (s : R) (k0 : (Int × Unit) → R) (c277 : List Int × Int × Unit) (again : (Int × Int × Unit) → R) (v278 : Int × Int × Unit) : R :=
  let v6_279 : List Int := c277.1
  let v7_280 : Int := c277.2.1
  let c3_281 : Int := v278.1
  let v8_282 : Int := v278.2.1
  if (decide (v8_282 < v7_280)) = true then
    gate (inR v8_282 (v6_279.length : Int)) (
      let t14_283 : Int := (IntKind.wrap .u32 ((getI (0 : Int) v6_279 v8_282)))
      iter (wrackref2_Crc.s1 N s (fun (x296 : Int × Unit) =>
        let c3_297 : Int := x296.1
        again (c3_297, (IntKind.wrap .i64 (v8_282 + (1 : Int))), ())) (v6_279, v7_280, v8_282, ())) s N ((bitXor .u32 c3_281 t14_283), (0 : Int), ())) s
  else
    k0 (c3_281, ())
def wrackref2_Crc (N : Nat) (b0 : List Int) : Option Int :=
  iter (wrackref2_Crc.s0 N none (fun (x298 : Int × Unit) =>
    let c3_299 : Int := x298.1
    let t30_300 : Int := (IntKind.wrap .i64 ((bitXor .u32 4294967295 c3_299)))
    some t30_300) (b0, (b0.length : Int), ())) none N ((4294967295 : Int), (0 : Int), ())
def wrackref2_PictureBytes.s1 {R : Type} (N : Nat) (s : R) (k2 : (List Int × List Int × Int × Int × List Int × Unit) → R) (c376 : Int × Int × Int × Int × Unit) (again : (List Int × List Int × Int × Int × Int × List Int × Unit) → R) (v377 : List Int × List Int × Int × Int × Int × List Int × Unit) : R :=
  let y4_378 : Int := c376.1
  let v17_379 : Int := c376.2.1
  let v18_380 : Int := c376.2.2.1
  let v23_381 : Int := c376.2.2.2.1
  let out3_382 : List Int := v377.1
  let r5_383 : List Int := v377.2.1
  let v24_384 : Int := v377.2.2.1
  let m0_385 : Int := v377.2.2.2.1
  let m0_386 : Int := v377.2.2.2.2.1
  let m0_387 : List Int := v377.2.2.2.2.2.1
  if (decide (v24_384 < v23_381)) = true then
    let t34_388 : Int := (IntKind.wrap .i64 ((IntKind.wrap .i64 (y4_378 * m0_385)) + v24_384))
    gate (inR t34_388 (m0_387.length : Int)) (
      let t39_389 : Int := (IntKind.wrap .i64 ((r5_383.length : Int) - (1 : Int)))
      bindO (
        if (decide (t39_389 > (0 : Int))) = true then
          gate (inR t39_389 (r5_383.length : Int)) (
            gate (inR t39_389 (r5_383.length : Int)) (
              gate (decide ((16 : Int) ≠ 0)) (
                let t47_393 : Int := (Int.tmod (getI (0 : Int) r5_383 t39_389) (16 : Int))
                let t49_394 : Bool := (decide (t47_393 = (getI (0 : Int) m0_387 t34_388)))
                if t49_394 = true then
                  gate (inR t39_389 (r5_383.length : Int)) (
                    gate (inR t39_389 (r5_383.length : Int)) (
                      let t56_395 : Bool := (decide ((getI (0 : Int) r5_383 t39_389) < (240 : Int)))
                      some t56_395) none) none
                else
                  some false) none) none) none
        else
          some false) (fun (c57_396 : Bool) =>
        if c57_396 = true then
          gate (inR t39_389 (r5_383.length : Int)) (
            gate (inR t39_389 (r5_383.length : Int)) (
              let t62_397 : Int := (IntKind.wrap .u8 ((getI (0 : Int) r5_383 t39_389) + (16 : Int)))
              gate (inR t39_389 (r5_383.length : Int)) (
                gate (inR t39_389 (r5_383.length : Int)) (
                  again (out3_382, (r5_383.set (t39_389).toNat t62_397), (IntKind.wrap .i64 (v24_384 + (1 : Int))), m0_385, m0_386, m0_387, ())) s) s) s) s
        else
          gate (roomFor (r5_383.length + [(getI (0 : Int) m0_387 t34_388)].length) 1) (
            let b67_398 : List Int := (r5_383 ++ [(getI (0 : Int) m0_387 t34_388)])
            again (out3_382, b67_398, (IntKind.wrap .i64 (v24_384 + (1 : Int))), m0_385, m0_386, m0_387, ())) s) s) s
  else
    k2 (out3_382, r5_383, m0_385, m0_386, m0_387, ())
def wrackref2_PictureBytes.s0 {R : Type} (N : Nat) (s : R) (k0 : (List Int × Unit) → R) (c342 : Int × Unit) (again : (List Int × Int × Int × Int × List Int × Unit) → R) (v343 : List Int × Int × Int × Int × List Int × Unit) : R :=
  let v17_344 : Int := c342.1
  let out3_345 : List Int := v343.1
  let v18_346 : Int := v343.2.1
  let m0_347 : Int := v343.2.2.1
  let m0_348 : Int := v343.2.2.2.1
  let m0_349 : List Int := v343.2.2.2.2.1
  if (decide (v18_346 < v17_344)) = true then
    iter (wrackref2_PictureBytes.s1 N s (fun (x399 : List Int × List Int × Int × Int × List Int × Unit) =>
      let out3_400 : List Int := x399.1
      let r5_401 : List Int := x399.2.1
      let m0_402 : Int := x399.2.2.1
      let m0_403 : Int := x399.2.2.2.1
      let m0_404 : List Int := x399.2.2.2.2.1
      let t72_405 : Int := (IntKind.wrap .i64 ((r5_401.length : Int) - (1 : Int)))
      gate (inR (0 : Int) (r5_401.length : Int)) (
        gate (inR (0 : Int) (r5_401.length : Int)) (
          let bx_406 : List Int := (r5_401.set ((0 : Int)).toNat (IntKind.wrap .u8 (t72_405)))
          gate (roomFor (out3_400.length + bx_406.length) 1) (
            bindO (wrackref2_Crc N bx_406) (fun r79_407 =>
              gate (decide ((256 : Int) ≠ 0)) (
                let t81_408 : Int := (IntKind.wrap .u8 ((Int.tmod r79_407 (256 : Int))))
                gate (roomFor ((out3_400 ++ bx_406).length + [t81_408].length) 1) (
                  again (((out3_400 ++ bx_406) ++ [t81_408]), (IntKind.wrap .i64 (v18_346 + (1 : Int))), m0_402, m0_403, m0_404, ())) s) s) s) s) s) s) (v18_346, v17_344, v18_346, m0_347, ())) s N (out3_345, [(0 : Int)], (0 : Int), m0_347, m0_348, m0_349, ())
  else
    k0 (out3_345, ())
def wrackref2_PictureBytes (N : Nat) (p0 : Int × Int × List Int) : Option (List Int) :=
  let b15_305 : List Int := [(112 : Int), (105 : Int), (120 : Int), (IntKind.wrap .u8 (p0.1)), (IntKind.wrap .u8 (p0.2.1))]
  iter (wrackref2_PictureBytes.s0 N none (fun (x409 : List Int × Unit) =>
    let out3_410 : List Int := x409.1
    some out3_410) (p0.2.1, ())) none N (b15_305, (0 : Int), p0.1, p0.2.1, p0.2.2, ())
def slices_Equal_byte.s0 {R : Type} (N : Nat) (s : R) (k0 : Unit → R) (kr : (Bool × Unit) → R) (c419 : List Int × List Int × Int × Unit) (again : (Int × Unit) → R) (v420 : Int × Unit) : R :=
  let s10_421 : List Int := c419.1
  let s21_422 : List Int := c419.2.1
  let v12_423 : Int := c419.2.2.1
  let v13_424 : Int := v420.1
  if (decide (v13_424 < v12_423)) = true then
    gate (inR v13_424 (s10_421.length : Int)) (
      gate (inR v13_424 (s21_422.length : Int)) (
        let t24_425 : Bool := (!decide ((getI (0 : Int) s10_421 v13_424) = (getI (0 : Int) s21_422 v13_424)))
        if t24_425 = true then
          kr (false, ())
        else
          again ((IntKind.wrap .i64 (v13_424 + (1 : Int))), ())) s) s
  else
    k0 ()
def slices_Equal_byte (N : Nat) (s10 : List Int) (s21 : List Int) : Option Bool :=
  let t10_417 : Bool := (!decide ((s10.length : Int) = (s21.length : Int)))
  if t10_417 = true then
    some false
  else
    iter (slices_Equal_byte.s0 N none (fun (x426 : Unit) =>
      some true) (fun (x427 : Bool × Unit) =>
      let v4_428 : Bool := x427.1
      some v4_428) (s10, s21, (s10.length : Int), ())) none N ((0 : Int), ())
def wracklaw2_PixMakes (N : Nat) (p0 : Int × Int × List Int) : Option Bool :=
  bindO (pix_Make N p0) (fun r8_437 =>
    bindO (wrackref2_PictureErr N p0) (fun r12_438 =>
      bindO (
        bindO (wracklaw2_pictures N) (fun r13_441 =>
          if (!r13_441) = true then
            some true
          else
            bindO (pix_Check N p0) (fun r17_442 =>
              if (!decide (r17_442 = r12_438)) = true then
                some true
              else
                some (!decide (r8_437.2 = r12_438))) none) none) (fun (c25_443 : Bool) =>
        if c25_443 = true then
          some false
        else
          if (!decide (r12_438 = (0 : Int))) = true then
            let t31_449 : Bool := (decide ((r8_437.1.length : Int) = (0 : Int)))
            if t31_449 = true then
              some true
            else
              if (decide (r12_438 = (0 : Int))) = true then
                bindO (wrackref2_PictureBytes N p0) (fun r39_450 =>
                  bindO (slices_Equal_byte N r8_437.1 r39_450) (fun r40_451 =>
                    some r40_451) none) none
              else
                some false
          else
            if (decide (r12_438 = (0 : Int))) = true then
              bindO (wrackref2_PictureBytes N p0) (fun r39_452 =>
                bindO (slices_Equal_byte N r8_437.1 r39_452) (fun r40_453 =>
                  some r40_453) none) none
            else
              some false) none) none) none
def bits_Mul64 (N : Nat) (x0 : Int) (y1 : Int) : Option (Int × Int) :=
  gate (decide (0 ≤ (32 : Int))) (
    gate (decide (0 ≤ (32 : Int))) (
      let t24_465 : Int := (IntKind.wrap .u64 ((bitAnd .u64 x0 (4294967295 : Int)) * (bitAnd .u64 y1 (4294967295 : Int))))
      let t27_466 : Int := (IntKind.wrap .u64 ((shrI .u64 x0 (32 : Int)) * (bitAnd .u64 y1 (4294967295 : Int))))
      gate (decide (0 ≤ (32 : Int))) (
        let t30_467 : Int := (IntKind.wrap .u64 (t27_466 + (shrI .u64 t24_465 (32 : Int))))
        gate (decide (0 ≤ (32 : Int))) (
          let t38_468 : Int := (IntKind.wrap .u64 ((bitAnd .u64 x0 (4294967295 : Int)) * (shrI .u64 y1 (32 : Int))))
          let t39_469 : Int := (IntKind.wrap .u64 ((bitAnd .u64 t30_467 (4294967295 : Int)) + t38_468))
          let t42_470 : Int := (IntKind.wrap .u64 ((shrI .u64 x0 (32 : Int)) * (shrI .u64 y1 (32 : Int))))
          let t44_471 : Int := (IntKind.wrap .u64 (t42_470 + (shrI .u64 t30_467 (32 : Int))))
          gate (decide (0 ≤ (32 : Int))) (
            let t47_472 : Int := (IntKind.wrap .u64 (t44_471 + (shrI .u64 t39_469 (32 : Int))))
            some (t47_472, (IntKind.wrap .u64 (x0 * y1)))) none) none) none) none) none
def bits_Mul (N : Nat) (x0 : Int) (y1 : Int) : Option (Int × Int) :=
  bindO (bits_Mul64 N x0 y1) (fun r25_474 =>
    some r25_474) none
def slices_Repeat_byte.s0 {R : Type} (N : Nat) (s : R) (k0 : (List Int × Unit) → R) (c495 : Unit) (again : (List Int × Int × Unit) → R) (v496 : List Int × Int × Unit) : R :=
  let newslice7_497 : List Int := v496.1
  let n8_498 : Int := v496.2.1
  let t37_499 : Bool := (decide (n8_498 < (newslice7_497.length : Int)))
  if t37_499 = true then
    gate (bounds (newslice7_497.length : Int) n8_498 (newslice7_497.length : Int)) (
      gate (bounds (newslice7_497.length : Int) (0 : Int) n8_498) (
        let t45_500 : Int := (((min (cut newslice7_497 (0 : Int) n8_498).length ((newslice7_497.length : Int) - n8_498).toNat) : Nat) : Int)
        let b45_501 : List Int := (over newslice7_497 (cut newslice7_497 (0 : Int) n8_498) (n8_498).toNat (min (cut newslice7_497 (0 : Int) n8_498).length ((newslice7_497.length : Int) - n8_498).toNat))
        again (b45_501, (IntKind.wrap .i64 (n8_498 + t45_500)), ())) s) s
  else
    k0 (newslice7_497, ())
def slices_Repeat_byte (N : Nat) (x0 : List Int) (count1 : Int) : Option (List Int) :=
  if (decide (count1 < (0 : Int))) = true then
    none
  else
    bindO (bits_Mul N (IntKind.wrap .u64 ((x0.length : Int))) (IntKind.wrap .u64 (count1))) (fun r18_486 =>
      bindO (
        if (decide (r18_486.1 > (0 : Int))) = true then
          some true
        else
          let t25_488 : Bool := (decide (r18_486.2 > (9223372036854775807 : Int)))
          some t25_488) (fun (c26_489 : Bool) =>
        if c26_489 = true then
          none
        else
          gate (decide (0 ≤ (IntKind.wrap .i64 (r18_486.2)) ∧ (IntKind.wrap .i64 (r18_486.2)) ≤ (IntKind.wrap .i64 (r18_486.2))) && roomFor ((IntKind.wrap .i64 (r18_486.2))).toNat 1) (
            let b30_490 : List Int := (List.replicate ((IntKind.wrap .i64 (r18_486.2))).toNat (0 : Int))
            let t33_491 : Int := (((min x0.length b30_490.length) : Nat) : Int)
            let b33_492 : List Int := (over b30_490 x0 0 (min x0.length b30_490.length))
            iter (slices_Repeat_byte.s0 N none (fun (x502 : List Int × Unit) =>
              let newslice7_503 : List Int := x502.1
              some newslice7_503) ()) none N (b33_492, t33_491, ())) none) none) none
def arch_Unpack.s0 {R : Type} (N : Nat) (s : R) (k0 : (List Int × Unit) → R) (kr : (Int × Unit) → R) (c519 : List Int × Int × Unit) (again : (List Int × Int × Unit) → R) (v520 : List Int × Int × Unit) : R :=
  let b0_521 : List Int := c519.1
  let many1_522 : Int := c519.2.1
  let out6_523 : List Int := v520.1
  let i7_524 : Int := v520.2.1
  if (decide (i7_524 < (b0_521.length : Int))) = true then
    gate (inR i7_524 (b0_521.length : Int)) (
      let t22_525 : Bool := (decide ((getI (0 : Int) b0_521 i7_524) = (0 : Int)))
      if t22_525 = true then
        kr ((3 : Int), ())
      else
        gate (inR i7_524 (b0_521.length : Int)) (
          let t27_526 : Int := (IntKind.wrap .i64 ((getI (0 : Int) b0_521 i7_524)))
          let t31_527 : Int := (IntKind.wrap .i64 (many1_522 - (out6_523.length : Int)))
          if (decide (t27_526 > t31_527)) = true then
            kr ((2 : Int), ())
          else
            gate (inR (IntKind.wrap .i64 (i7_524 + (1 : Int))) (b0_521.length : Int)) (
              let t37_528 : Int := (getI (0 : Int) b0_521 (IntKind.wrap .i64 (i7_524 + (1 : Int))))
              gate (inR i7_524 (b0_521.length : Int)) (
                let t44_529 : Int := (IntKind.wrap .i64 ((getI (0 : Int) b0_521 i7_524)))
                bindO (slices_Repeat_byte N [t37_528] t44_529) (fun r45_530 =>
                  gate (roomFor (out6_523.length + r45_530.length) 1) (
                    again ((out6_523 ++ r45_530), (IntKind.wrap .i64 (i7_524 + (2 : Int))), ())) s) s) s) s) s) s
  else
    k0 (out6_523, ())
def arch_Unpack (N : Nat) (b0 : List Int) (many1 : Int) : Option (List Int × Int) :=
  gate (decide ((2 : Int) ≠ 0)) (
    let t11_512 : Bool := (!decide ((Int.tmod (b0.length : Int) (2 : Int)) = (0 : Int)))
    if t11_512 = true then
      some ([], (3 : Int))
    else
      iter (arch_Unpack.s0 N none (fun (x531 : List Int × Unit) =>
        let out6_532 : List Int := x531.1
        some (out6_532, (0 : Int))) (fun (x533 : Int × Unit) =>
        let v5_534 : Int := x533.1
        some ([], v5_534)) (b0, many1, ())) none N ([], (0 : Int), ())) none
def wrackref2_Unran.s1 {R : Type} (N : Nat) (s : R) (k2 : (List Int × Unit) → R) (kr : (Int × Unit) → R) (c572 : List Int × Int × Int × Int × Unit) (again : (List Int × Int × Unit) → R) (v573 : List Int × Int × Unit) : R :=
  let b0_574 : List Int := c572.1
  let many1_575 : Int := c572.2.1
  let i7_576 : Int := c572.2.2.1
  let v26_577 : Int := c572.2.2.2.1
  let out6_578 : List Int := v573.1
  let v27_579 : Int := v573.2.1
  if (decide (v27_579 < v26_577)) = true then
    let t32_580 : Bool := (decide ((out6_578.length : Int) ≥ many1_575))
    if t32_580 = true then
      kr ((2 : Int), ())
    else
      gate (inR (IntKind.wrap .i64 (i7_576 + (1 : Int))) (b0_574.length : Int)) (
        let t37_581 : Int := (getI (0 : Int) b0_574 (IntKind.wrap .i64 (i7_576 + (1 : Int))))
        gate (roomFor (out6_578.length + [t37_581].length) 1) (
          again ((out6_578 ++ [t37_581]), (IntKind.wrap .u8 (v27_579 + (1 : Int))), ())) s) s
  else
    k2 (out6_578, ())
def wrackref2_Unran.s0 {R : Type} (N : Nat) (s : R) (k0 : (List Int × Unit) → R) (kr : (Int × Unit) → R) (c564 : List Int × Int × Unit) (again : (List Int × Int × Unit) → R) (v565 : List Int × Int × Unit) : R :=
  let b0_566 : List Int := c564.1
  let many1_567 : Int := c564.2.1
  let out6_568 : List Int := v565.1
  let i7_569 : Int := v565.2.1
  if (decide (i7_569 < (b0_566.length : Int))) = true then
    gate (inR i7_569 (b0_566.length : Int)) (
      let t22_570 : Bool := (decide ((getI (0 : Int) b0_566 i7_569) = (0 : Int)))
      if t22_570 = true then
        kr ((3 : Int), ())
      else
        gate (inR i7_569 (b0_566.length : Int)) (
          iter (wrackref2_Unran.s1 N s (fun (x582 : List Int × Unit) =>
            let out6_583 : List Int := x582.1
            again (out6_583, (IntKind.wrap .i64 (i7_569 + (2 : Int))), ())) (fun (x584 : Int × Unit) =>
            let v5_585 : Int := x584.1
            kr (v5_585, ())) (b0_566, many1_567, i7_569, (getI (0 : Int) b0_566 i7_569), ())) s N (out6_568, (0 : Int), ())) s) s
  else
    k0 (out6_568, ())
def wrackref2_Unran (N : Nat) (b0 : List Int) (many1 : Int) : Option (List Int × Int) :=
  gate (decide ((2 : Int) ≠ 0)) (
    let t11_552 : Bool := (decide ((Int.tmod (b0.length : Int) (2 : Int)) = (1 : Int)))
    if t11_552 = true then
      some ([], (3 : Int))
    else
      iter (wrackref2_Unran.s0 N none (fun (x586 : List Int × Unit) =>
        let out6_587 : List Int := x586.1
        some (out6_587, (0 : Int))) (fun (x588 : Int × Unit) =>
        let v5_589 : Int := x588.1
        some ([], v5_589)) (b0, many1, ())) none N ([], (0 : Int), ())) none
def arch_Pack.s1 {R : Type} (N : Nat) (s : R) (k2 : (List Int × Int × Unit) → R) (c675 : List Int × Int × Unit) (again : (List Int × Int × Unit) → R) (v676 : List Int × Int × Unit) : R :=
  let b0_677 : List Int := c675.1
  let i4_678 : Int := c675.2.1
  let out3_679 : List Int := v676.1
  let n5_680 : Int := v676.2.1
  bindO (
    if (decide (n5_680 < (255 : Int))) = true then
      let t18_684 : Bool := (decide ((IntKind.wrap .i64 (i4_678 + n5_680)) < (b0_677.length : Int)))
      if t18_684 = true then
        gate (inR (IntKind.wrap .i64 (i4_678 + n5_680)) (b0_677.length : Int)) (
          let t25_685 : Int := (getI (0 : Int) b0_677 (IntKind.wrap .i64 (i4_678 + n5_680)))
          gate (inR i4_678 (b0_677.length : Int)) (
            let t31_686 : Bool := (decide (t25_685 = (getI (0 : Int) b0_677 i4_678)))
            some t31_686) none) none
      else
        some false
    else
      some false) (fun (c32_687 : Bool) =>
    if c32_687 = true then
      again (out3_679, (IntKind.wrap .i64 (n5_680 + (1 : Int))), ())
    else
      k2 (out3_679, n5_680, ())) s
def arch_Pack.s0 {R : Type} (N : Nat) (s : R) (k0 : (List Int × Unit) → R) (c657 : List Int × Unit) (again : (List Int × Int × Unit) → R) (v658 : List Int × Int × Unit) : R :=
  let b0_659 : List Int := c657.1
  let out3_660 : List Int := v658.1
  let i4_661 : Int := v658.2.1
  if (decide (i4_661 < (b0_659.length : Int))) = true then
    iter (arch_Pack.s1 N s (fun (x688 : List Int × Int × Unit) =>
      let out3_689 : List Int := x688.1
      let n5_690 : Int := x688.2.1
      gate (inR i4_661 (b0_659.length : Int)) (
        let b42_691 : List Int := [(IntKind.wrap .u8 (n5_690)), (getI (0 : Int) b0_659 i4_661)]
        gate (roomFor (out3_689.length + b42_691.length) 1) (
          again ((out3_689 ++ b42_691), (IntKind.wrap .i64 (i4_661 + n5_690)), ())) s) s) (b0_659, i4_661, ())) s N (out3_660, (1 : Int), ())
  else
    k0 (out3_660, ())
def arch_Pack (N : Nat) (b0 : List Int) : Option (List Int) :=
  iter (arch_Pack.s0 N none (fun (x692 : List Int × Unit) =>
    let out3_693 : List Int := x692.1
    some out3_693) (b0, ())) none N ([], (0 : Int), ())
def wracklaw2_archives (N : Nat) : Option Bool :=
  bindO (arch_Pack N [(7 : Int), (7 : Int), (7 : Int)]) (fun r2_696 =>
    bindO (slices_Equal_byte N r2_696 [(3 : Int), (7 : Int)]) (fun r4_697 =>
      some r4_697) none) none
def wrackref2_Ran.s0 {R : Type} (N : Nat) (s : R) (k0 : (List Int × Unit) → R) (c726 : List Int × List Int × Int × Unit) (again : (List Int × Int × Unit) → R) (v727 : List Int × Int × Unit) : R :=
  let b0_728 : List Int := c726.1
  let v7_729 : List Int := c726.2.1
  let v8_730 : Int := c726.2.2.1
  let out3_731 : List Int := v727.1
  let v9_732 : Int := v727.2.1
  if (decide (v9_732 < v8_730)) = true then
    gate (inR v9_732 (v7_729.length : Int)) (
      bindO (
        if (decide (v9_732 > (0 : Int))) = true then
          gate (inR (IntKind.wrap .i64 (v9_732 - (1 : Int))) (b0_728.length : Int)) (
            let t22_737 : Int := (getI (0 : Int) b0_728 (IntKind.wrap .i64 (v9_732 - (1 : Int))))
            let t25_738 : Bool := (decide (t22_737 = (getI (0 : Int) v7_729 v9_732)))
            if t25_738 = true then
              let t30_739 : Int := (IntKind.wrap .i64 ((out3_731.length : Int) - (2 : Int)))
              gate (inR t30_739 (out3_731.length : Int)) (
                gate (inR t30_739 (out3_731.length : Int)) (
                  let t33_740 : Bool := (decide ((getI (0 : Int) out3_731 t30_739) < (255 : Int)))
                  some t33_740) none) none
            else
              some false) none
        else
          some false) (fun (c34_741 : Bool) =>
        if c34_741 = true then
          let t37_742 : Int := (IntKind.wrap .i64 ((out3_731.length : Int) - (2 : Int)))
          gate (inR t37_742 (out3_731.length : Int)) (
            gate (inR t37_742 (out3_731.length : Int)) (
              let t40_743 : Int := (IntKind.wrap .u8 ((getI (0 : Int) out3_731 t37_742) + (1 : Int)))
              gate (inR t37_742 (out3_731.length : Int)) (
                gate (inR t37_742 (out3_731.length : Int)) (
                  again ((out3_731.set (t37_742).toNat t40_743), (IntKind.wrap .i64 (v9_732 + (1 : Int))), ())) s) s) s) s
        else
          gate (roomFor (out3_731.length + [(1 : Int), (getI (0 : Int) v7_729 v9_732)].length) 1) (
            let b45_744 : List Int := (out3_731 ++ [(1 : Int), (getI (0 : Int) v7_729 v9_732)])
            again (b45_744, (IntKind.wrap .i64 (v9_732 + (1 : Int))), ())) s) s) s
  else
    k0 (out3_731, ())
def wrackref2_Ran (N : Nat) (b0 : List Int) : Option (List Int) :=
  iter (wrackref2_Ran.s0 N none (fun (x745 : List Int × Unit) =>
    let out3_746 : List Int := x745.1
    some out3_746) (b0, b0, (b0.length : Int), ())) none N ([], (0 : Int), ())
def wracklaw2_ArchPacks (N : Nat) (b0 : List Int) (many1 : Int) : Option Bool :=
  bindO (arch_Unpack N b0 many1) (fun r12_755 =>
    bindO (wrackref2_Unran N b0 many1) (fun r18_756 =>
      bindO (wracklaw2_archives N) (fun r21_762 =>
        if r21_762 = true then
          bindO (arch_Pack N b0) (fun r24_763 =>
            bindO (wrackref2_Ran N b0) (fun r26_764 =>
              bindO (slices_Equal_byte N r24_763 r26_764) (fun r27_765 =>
                if r27_765 = true then
                  if (decide (r12_755.2 = r18_756.2)) = true then
                    bindO (slices_Equal_byte N r12_755.1 r18_756.1) (fun r37_766 =>
                      some r37_766) none
                  else
                    some false
                else
                  some false) none) none) none
        else
          some false) none) none) none
def pix_dots.s0 {R : Type} (N : Nat) (s : R) (k0 : (List Int × Unit) → R) (c807 : Int × List Int × Int × Unit) (again : (List Int × Int × Unit) → R) (v808 : List Int × Int × Unit) : R :=
  let wide1_809 : Int := c807.1
  let v9_810 : List Int := c807.2.1
  let v10_811 : Int := c807.2.2.1
  let out6_812 : List Int := v808.1
  let v11_813 : Int := v808.2.1
  if (decide (v11_813 < v10_811)) = true then
    gate (inR v11_813 (v9_810.length : Int)) (
      let t17_814 : Int := (bitAnd .u8 (getI (0 : Int) v9_810 v11_813) (15 : Int))
      gate (decide (0 ≤ (4 : Int))) (
        let t20_815 : Int := (shrI .u8 (getI (0 : Int) v9_810 v11_813) (4 : Int))
        let t22_816 : Int := (IntKind.wrap .i64 ((IntKind.wrap .i64 (t20_815)) + (1 : Int)))
        bindO (slices_Repeat_byte N [t17_814] t22_816) (fun r23_817 =>
          gate (roomFor (out6_812.length + r23_817.length) 1) (
            again ((out6_812 ++ r23_817), (IntKind.wrap .i64 (v11_813 + (1 : Int))), ())) s) s) s) s
  else
    k0 (out6_812, ())
def pix_dots (N : Nat) (b0 : List Int) (wide1 : Int) : Option (List Int × Bool) :=
  iter (pix_dots.s0 N none (fun (x818 : List Int × Unit) =>
    let out6_819 : List Int := x818.1
    some (out6_819, (decide ((out6_819.length : Int) = wide1)))) (wide1, b0, (b0.length : Int), ())) none N ([], (0 : Int), ())
def pix_Read.s0 {R : Type} (N : Nat) (s : R) (k0 : (Int × List Int × Int × Int × Int × Int × List Int × Unit) → R) (kr : (Int × Int × Int × Unit) → R) (c1004 : List Int × Int × Unit) (again : (Int × List Int × Int × Int × Int × Int × Int × List Int × Unit) → R) (v1005 : Int × List Int × Int × Int × Int × Int × Int × List Int × Unit) : R :=
  let b0_1006 : List Int := c1004.1
  let v51_1007 : Int := c1004.2.1
  let at6_1008 : Int := v1005.1
  let bad7_1009 : List Int := v1005.2.1
  let v52_1010 : Int := v1005.2.2.1
  let m0_1011 : Int := v1005.2.2.2.1
  let m0_1012 : Int := v1005.2.2.2.2.1
  let m1_1013 : Int := v1005.2.2.2.2.2.1
  let m1_1014 : Int := v1005.2.2.2.2.2.2.1
  let m1_1015 : List Int := v1005.2.2.2.2.2.2.2.1
  if (decide (v52_1010 < v51_1007)) = true then
    bindO (
      if (decide (at6_1008 ≥ (b0_1006.length : Int))) = true then
        some true
      else
        gate (inR at6_1008 (b0_1006.length : Int)) (
          let t66_1018 : Int := (IntKind.wrap .i64 ((getI (0 : Int) b0_1006 at6_1008)))
          let t67_1019 : Int := (IntKind.wrap .i64 ((IntKind.wrap .i64 (at6_1008 + (2 : Int))) + t66_1018))
          some (decide (t67_1019 > (b0_1006.length : Int)))) none) (fun (c71_1020 : Bool) =>
      if c71_1020 = true then
        kr ((15 : Int), (0 : Int), (0 : Int), ())
      else
        gate (inR at6_1008 (b0_1006.length : Int)) (
          let t79_1021 : Int := (IntKind.wrap .i64 ((getI (0 : Int) b0_1006 at6_1008)))
          let t80_1022 : Int := (IntKind.wrap .i64 ((IntKind.wrap .i64 (at6_1008 + (1 : Int))) + t79_1021))
          gate (bounds (b0_1006.length : Int) (IntKind.wrap .i64 (at6_1008 + (1 : Int))) t80_1022) (
            let t86_1023 : List Int := (cut b0_1006 (IntKind.wrap .i64 (at6_1008 + (1 : Int))) t80_1022)
            bindO (pix_dots N t86_1023 m1_1013) (fun r89_1024 =>
              bindO (
                if (!r89_1024.2) = true then
                  some true
                else
                  gate (bounds (b0_1006.length : Int) at6_1008 t80_1022) (
                    bindO (sum_Crc N (cut b0_1006 at6_1008 t80_1022)) (fun r99_1027 =>
                      gate (inR t80_1022 (b0_1006.length : Int)) (
                        let t105_1028 : Bool := (!decide ((IntKind.wrap .u8 (r99_1027)) = (getI (0 : Int) b0_1006 t80_1022)))
                        some t105_1028) none) none) none) (fun (c106_1029 : Bool) =>
                bindO ((
                  if c106_1029 = true then
                    gate (decide (0 ≤ m1_1013 ∧ m1_1013 ≤ m1_1013) && roomFor (m1_1013).toNat 1) (
                      gate (roomFor (bad7_1009.length + [v52_1010].length) 8) (
                        some ((bad7_1009 ++ [v52_1010]), (List.replicate (m1_1013).toNat (0 : Int)), m0_1011, m0_1012, m1_1013, m1_1014, m1_1015, ())) none) none
                  else
                    some (bad7_1009, r89_1024.1, m0_1011, m0_1012, m1_1013, m1_1014, m1_1015, ()) : Option (List Int × List Int × Int × Int × Int × Int × List Int × Unit))) (fun j1030 =>
                  let bad7_1031 : List Int := j1030.1
                  let l10_1032 : List Int := j1030.2.1
                  let m0_1033 : Int := j1030.2.2.1
                  let m0_1034 : Int := j1030.2.2.2.1
                  let m1_1035 : Int := j1030.2.2.2.2.1
                  let m1_1036 : Int := j1030.2.2.2.2.2.1
                  let m1_1037 : List Int := j1030.2.2.2.2.2.2.1
                  gate (roomFor (m1_1037.length + l10_1032.length) 1) (
                    again ((IntKind.wrap .i64 (t80_1022 + (1 : Int))), bad7_1031, (IntKind.wrap .i64 (v52_1010 + (1 : Int))), m0_1033, m0_1034, m1_1035, m1_1036, (m1_1037 ++ l10_1032), ())) s) s) s) s) s) s) s
  else
    k0 (at6_1008, bad7_1009, m0_1011, m0_1012, m1_1013, m1_1014, m1_1015, ())
def pix_Read (N : Nat) (b0 : List Int) : Option ((Int × Int × List Int) × List Int × Int) :=
  if (decide ((b0.length : Int) < (5 : Int))) = true then
    some (((0 : Int), ((0 : Int), [])), ([], (15 : Int)))
  else
    gate (inR (3 : Int) (b0.length : Int)) (
      let t19_913 : Int := (IntKind.wrap .i64 ((getI (0 : Int) b0 (3 : Int))))
      gate (inR (4 : Int) (b0.length : Int)) (
        let t23_914 : Int := (IntKind.wrap .i64 ((getI (0 : Int) b0 (4 : Int))))
        bindO (
          gate (bounds (b0.length : Int) (0 : Int) (3 : Int)) (
            let t28_916 : Bool := (!decide ((cut b0 (0 : Int) (3 : Int)) = [112, 105, 120]))
            if t28_916 = true then
              some true
            else
              if (decide (t19_913 < (1 : Int))) = true then
                some true
              else
                if (decide (t19_913 > (64 : Int))) = true then
                  some true
                else
                  if (decide (t23_914 < (1 : Int))) = true then
                    some true
                  else
                    some (decide (t23_914 > (64 : Int)))) none) (fun (c48_917 : Bool) =>
          if c48_917 = true then
            some (((0 : Int), ((0 : Int), [])), ([], (3 : Int)))
          else
            iter (pix_Read.s0 N none (fun (x1038 : Int × List Int × Int × Int × Int × Int × List Int × Unit) =>
              let at6_1039 : Int := x1038.1
              let bad7_1040 : List Int := x1038.2.1
              let m0_1041 : Int := x1038.2.2.1
              let m0_1042 : Int := x1038.2.2.2.1
              let m1_1043 : Int := x1038.2.2.2.2.1
              let m1_1044 : Int := x1038.2.2.2.2.2.1
              let m1_1045 : List Int := x1038.2.2.2.2.2.2.1
              if (decide (at6_1039 < (b0.length : Int))) = true then
                some (((0 : Int), ((0 : Int), [])), ([], (3 : Int)))
              else
                some ((m1_1043, (m1_1044, m1_1045)), (bad7_1040, (0 : Int)))) (fun (x1046 : Int × Int × Int × Unit) =>
              let v4_1047 : Int := x1046.1
              let m0_1048 : Int := x1046.2.1
              let m0_1049 : Int := x1046.2.2.1
              some ((m0_1048, (m0_1049, [])), ([], v4_1047))) (b0, t23_914, ())) none N ((5 : Int), [], (0 : Int), (0 : Int), (0 : Int), t19_913, t23_914, [], ())) none) none) none
def wrackref2_PictureOf.s2 {R : Type} (N : Nat) (s : R) (k4 : (List Int × List Int × Int × Int × Int × Int × List Int × Unit) → R) (c1768 : List Int × Int × Int × Int × Int × Int × List Int × Int × Int × Int × Unit) (again : (List Int × List Int × Int × Int × Int × Int × Int × List Int × Unit) → R) (v1769 : List Int × List Int × Int × Int × Int × Int × Int × List Int × Unit) : R :=
  let rest6_1770 : List Int := c1768.1
  let y8_1771 : Int := c1768.2.1
  let n9_1772 : Int := c1768.2.2.1
  let c12_1773 : Int := c1768.2.2.2.1
  let v50_1774 : Int := c1768.2.2.2.2.1
  let v51_1775 : Int := c1768.2.2.2.2.2.1
  let v75_1776 : List Int := c1768.2.2.2.2.2.2.1
  let v76_1777 : Int := c1768.2.2.2.2.2.2.2.1
  let v77_1778 : Int := c1768.2.2.2.2.2.2.2.2.1
  let v83_1779 : Int := c1768.2.2.2.2.2.2.2.2.2.1
  let bad7_1780 : List Int := v1769.1
  let dots10_1781 : List Int := v1769.2.1
  let v84_1782 : Int := v1769.2.2.1
  let m0_1783 : Int := v1769.2.2.2.1
  let m0_1784 : Int := v1769.2.2.2.2.1
  let m1_1785 : Int := v1769.2.2.2.2.2.1
  let m1_1786 : Int := v1769.2.2.2.2.2.2.1
  let m1_1787 : List Int := v1769.2.2.2.2.2.2.2.1
  if (decide (v84_1782 < v83_1779)) = true then
    gate (decide ((16 : Int) ≠ 0)) (
      gate (roomFor (dots10_1781.length + [(Int.tmod c12_1773 (16 : Int))].length) 1) (
        let b90_1788 : List Int := (dots10_1781 ++ [(Int.tmod c12_1773 (16 : Int))])
        again (bad7_1780, b90_1788, (IntKind.wrap .u8 (v84_1782 + (1 : Int))), m0_1783, m0_1784, m1_1785, m1_1786, m1_1787, ())) s) s
  else
    k4 (bad7_1780, dots10_1781, m0_1783, m0_1784, m1_1785, m1_1786, m1_1787, ())
def wrackref2_PictureOf.s1 {R : Type} (N : Nat) (s : R) (k2 : (List Int × List Int × Int × Int × Int × Int × List Int × Unit) → R) (c1750 : List Int × Int × Int × Int × Int × List Int × Int × Unit) (again : (List Int × List Int × Int × Int × Int × Int × Int × List Int × Unit) → R) (v1751 : List Int × List Int × Int × Int × Int × Int × Int × List Int × Unit) : R :=
  let rest6_1752 : List Int := c1750.1
  let y8_1753 : Int := c1750.2.1
  let n9_1754 : Int := c1750.2.2.1
  let v50_1755 : Int := c1750.2.2.2.1
  let v51_1756 : Int := c1750.2.2.2.2.1
  let v75_1757 : List Int := c1750.2.2.2.2.2.1
  let v76_1758 : Int := c1750.2.2.2.2.2.2.1
  let bad7_1759 : List Int := v1751.1
  let dots10_1760 : List Int := v1751.2.1
  let v77_1761 : Int := v1751.2.2.1
  let m0_1762 : Int := v1751.2.2.2.1
  let m0_1763 : Int := v1751.2.2.2.2.1
  let m1_1764 : Int := v1751.2.2.2.2.2.1
  let m1_1765 : Int := v1751.2.2.2.2.2.2.1
  let m1_1766 : List Int := v1751.2.2.2.2.2.2.2.1
  if (decide (v77_1761 < v76_1758)) = true then
    gate (inR v77_1761 (v75_1757.length : Int)) (
      gate (decide ((16 : Int) ≠ 0)) (
        let t82_1767 : Int := (IntKind.wrap .u8 (Int.tdiv (getI (0 : Int) v75_1757 v77_1761) (16 : Int)))
        iter (wrackref2_PictureOf.s2 N s (fun (x1789 : List Int × List Int × Int × Int × Int × Int × List Int × Unit) =>
          let bad7_1790 : List Int := x1789.1
          let dots10_1791 : List Int := x1789.2.1
          let m0_1792 : Int := x1789.2.2.1
          let m0_1793 : Int := x1789.2.2.2.1
          let m1_1794 : Int := x1789.2.2.2.2.1
          let m1_1795 : Int := x1789.2.2.2.2.2.1
          let m1_1796 : List Int := x1789.2.2.2.2.2.2.1
          again (bad7_1790, dots10_1791, (IntKind.wrap .i64 (v77_1761 + (1 : Int))), m0_1792, m0_1793, m1_1794, m1_1795, m1_1796, ())) (rest6_1752, y8_1753, n9_1754, (getI (0 : Int) v75_1757 v77_1761), v50_1755, v51_1756, v75_1757, v76_1758, v77_1761, (IntKind.wrap .u8 (t82_1767 + (1 : Int))), ())) s N (bad7_1759, dots10_1760, (0 : Int), m0_1762, m0_1763, m1_1764, m1_1765, m1_1766, ())) s) s
  else
    k2 (bad7_1759, dots10_1760, m0_1762, m0_1763, m1_1764, m1_1765, m1_1766, ())
def wrackref2_PictureOf.s0 {R : Type} (N : Nat) (s : R) (k0 : (List Int × List Int × Int × Int × Int × Int × List Int × Unit) → R) (kr : (Int × Int × Int × Unit) → R) (c1686 : Int × Unit) (again : (List Int × List Int × Int × Int × Int × Int × Int × List Int × Unit) → R) (v1687 : List Int × List Int × Int × Int × Int × Int × Int × List Int × Unit) : R :=
  let v50_1688 : Int := c1686.1
  let rest6_1689 : List Int := v1687.1
  let bad7_1690 : List Int := v1687.2.1
  let v51_1691 : Int := v1687.2.2.1
  let m0_1692 : Int := v1687.2.2.2.1
  let m0_1693 : Int := v1687.2.2.2.2.1
  let m1_1694 : Int := v1687.2.2.2.2.2.1
  let m1_1695 : Int := v1687.2.2.2.2.2.2.1
  let m1_1696 : List Int := v1687.2.2.2.2.2.2.2.1
  if (decide (v51_1691 < v50_1688)) = true then
    bindO (
      let t56_1700 : Bool := (decide ((rest6_1689.length : Int) = (0 : Int)))
      if t56_1700 = true then
        some true
      else
        gate (inR (0 : Int) (rest6_1689.length : Int)) (
          let t63_1701 : Int := (IntKind.wrap .i64 ((getI (0 : Int) rest6_1689 (0 : Int))))
          let t65_1702 : Bool := (decide ((rest6_1689.length : Int) < (IntKind.wrap .i64 ((2 : Int) + t63_1701))))
          some t65_1702) none) (fun (c66_1703 : Bool) =>
      if c66_1703 = true then
        kr ((15 : Int), (0 : Int), (0 : Int), ())
      else
        gate (inR (0 : Int) (rest6_1689.length : Int)) (
          let t71_1704 : Int := (IntKind.wrap .i64 ((getI (0 : Int) rest6_1689 (0 : Int))))
          gate (bounds (rest6_1689.length : Int) (1 : Int) (IntKind.wrap .i64 ((1 : Int) + t71_1704))) (
            let t75_1705 : List Int := (cut rest6_1689 (1 : Int) (IntKind.wrap .i64 ((1 : Int) + t71_1704)))
            iter (wrackref2_PictureOf.s1 N s (fun (x1797 : List Int × List Int × Int × Int × Int × Int × List Int × Unit) =>
              let bad7_1798 : List Int := x1797.1
              let dots10_1799 : List Int := x1797.2.1
              let m0_1800 : Int := x1797.2.2.1
              let m0_1801 : Int := x1797.2.2.2.1
              let m1_1802 : Int := x1797.2.2.2.2.1
              let m1_1803 : Int := x1797.2.2.2.2.2.1
              let m1_1804 : List Int := x1797.2.2.2.2.2.2.1
              bindO (
                let t97_1810 : Bool := (!decide ((dots10_1799.length : Int) = m1_1802))
                if t97_1810 = true then
                  some true
                else
                  gate (bounds (rest6_1689.length : Int) (0 : Int) (IntKind.wrap .i64 ((1 : Int) + t71_1704))) (
                    let t101_1811 : List Int := (cut rest6_1689 (0 : Int) (IntKind.wrap .i64 ((1 : Int) + t71_1704)))
                    bindO (wrackref2_Crc N t101_1811) (fun r102_1812 =>
                      gate (decide ((256 : Int) ≠ 0)) (
                        let t104_1813 : Int := (IntKind.wrap .u8 ((Int.tmod r102_1812 (256 : Int))))
                        gate (inR (IntKind.wrap .i64 ((1 : Int) + t71_1704)) (rest6_1689.length : Int)) (
                          let t107_1814 : Int := (getI (0 : Int) rest6_1689 (IntKind.wrap .i64 ((1 : Int) + t71_1704)))
                          some (!decide (t104_1813 = t107_1814))) none) none) none) none) (fun (c110_1815 : Bool) =>
                bindO ((
                  if c110_1815 = true then
                    gate (roomFor (bad7_1798.length + [v51_1691].length) 8) (
                      gate (decide (0 ≤ m1_1802 ∧ m1_1802 ≤ m1_1802) && roomFor (m1_1802).toNat 1) (
                        some ((bad7_1798 ++ [v51_1691]), (List.replicate (m1_1802).toNat (0 : Int)), m0_1800, m0_1801, m1_1802, m1_1803, m1_1804, ())) none) none
                  else
                    some (bad7_1798, dots10_1799, m0_1800, m0_1801, m1_1802, m1_1803, m1_1804, ()) : Option (List Int × List Int × Int × Int × Int × Int × List Int × Unit))) (fun j1816 =>
                  let bad7_1817 : List Int := j1816.1
                  let dots10_1818 : List Int := j1816.2.1
                  let m0_1819 : Int := j1816.2.2.1
                  let m0_1820 : Int := j1816.2.2.2.1
                  let m1_1821 : Int := j1816.2.2.2.2.1
                  let m1_1822 : Int := j1816.2.2.2.2.2.1
                  let m1_1823 : List Int := j1816.2.2.2.2.2.2.1
                  gate (roomFor (m1_1823.length + dots10_1818.length) 1) (
                    let t124_1824 : Int := (IntKind.wrap .i64 ((IntKind.wrap .i64 ((1 : Int) + t71_1704)) + (1 : Int)))
                    gate (bounds (rest6_1689.length : Int) t124_1824 (rest6_1689.length : Int)) (
                      let t125_1825 : List Int := (cut rest6_1689 t124_1824 (rest6_1689.length : Int))
                      again (t125_1825, bad7_1817, (IntKind.wrap .i64 (v51_1691 + (1 : Int))), m0_1819, m0_1820, m1_1821, m1_1822, (m1_1823 ++ dots10_1818), ())) s) s) s) s) (rest6_1689, v51_1691, (IntKind.wrap .i64 ((1 : Int) + t71_1704)), v50_1688, v51_1691, t75_1705, (t75_1705.length : Int), ())) s N (bad7_1690, [], (0 : Int), m0_1692, m0_1693, m1_1694, m1_1695, m1_1696, ())) s) s) s
  else
    k0 (rest6_1689, bad7_1690, m0_1692, m0_1693, m1_1694, m1_1695, m1_1696, ())
def wrackref2_PictureOf (N : Nat) (b0 : List Int) : Option ((Int × Int × List Int) × List Int × Int) :=
  if (decide ((b0.length : Int) < (5 : Int))) = true then
    some (((0 : Int), ((0 : Int), [])), ([], (15 : Int)))
  else
    gate (inR (3 : Int) (b0.length : Int)) (
      let t20_1375 : Int := (IntKind.wrap .i64 ((getI (0 : Int) b0 (3 : Int))))
      gate (inR (4 : Int) (b0.length : Int)) (
        let t24_1376 : Int := (IntKind.wrap .i64 ((getI (0 : Int) b0 (4 : Int))))
        bindO (
          gate (bounds (b0.length : Int) (0 : Int) (3 : Int)) (
            let t29_1380 : Bool := (!decide ((cut b0 (0 : Int) (3 : Int)) = [112, 105, 120]))
            if t29_1380 = true then
              some true
            else
              let t36_1381 : Bool := (decide ((minI t20_1375 t24_1376) < (1 : Int)))
              if t36_1381 = true then
                some true
              else
                let t44_1382 : Bool := (decide ((maxI t20_1375 t24_1376) > (64 : Int)))
                some t44_1382) none) (fun (c45_1383 : Bool) =>
          if c45_1383 = true then
            some (((0 : Int), ((0 : Int), [])), ([], (3 : Int)))
          else
            gate (bounds (b0.length : Int) (5 : Int) (b0.length : Int)) (
              iter (wrackref2_PictureOf.s0 N none (fun (x1826 : List Int × List Int × Int × Int × Int × Int × List Int × Unit) =>
                let rest6_1827 : List Int := x1826.1
                let bad7_1828 : List Int := x1826.2.1
                let m0_1829 : Int := x1826.2.2.1
                let m0_1830 : Int := x1826.2.2.2.1
                let m1_1831 : Int := x1826.2.2.2.2.1
                let m1_1832 : Int := x1826.2.2.2.2.2.1
                let m1_1833 : List Int := x1826.2.2.2.2.2.2.1
                let t130_1834 : Bool := (decide ((rest6_1827.length : Int) > (0 : Int)))
                if t130_1834 = true then
                  some (((0 : Int), ((0 : Int), [])), ([], (3 : Int)))
                else
                  some ((m1_1831, (m1_1832, m1_1833)), (bad7_1828, (0 : Int)))) (fun (x1835 : Int × Int × Int × Unit) =>
                let v4_1836 : Int := x1835.1
                let m0_1837 : Int := x1835.2.1
                let m0_1838 : Int := x1835.2.2.1
                some ((m0_1837, (m0_1838, [])), ([], v4_1836))) (t24_1376, ())) none N ((cut b0 (5 : Int) (b0.length : Int)), [], (0 : Int), (0 : Int), (0 : Int), t20_1375, t24_1376, [], ())) none) none) none) none
def slices_Equal_int.s0 {R : Type} (N : Nat) (s : R) (k0 : Unit → R) (kr : (Bool × Unit) → R) (c1848 : List Int × List Int × Int × Unit) (again : (Int × Unit) → R) (v1849 : Int × Unit) : R :=
  let s10_1850 : List Int := c1848.1
  let s21_1851 : List Int := c1848.2.1
  let v12_1852 : Int := c1848.2.2.1
  let v13_1853 : Int := v1849.1
  if (decide (v13_1853 < v12_1852)) = true then
    gate (inR v13_1853 (s10_1850.length : Int)) (
      gate (inR v13_1853 (s21_1851.length : Int)) (
        let t24_1854 : Bool := (!decide ((getI (0 : Int) s10_1850 v13_1853) = (getI (0 : Int) s21_1851 v13_1853)))
        if t24_1854 = true then
          kr (false, ())
        else
          again ((IntKind.wrap .i64 (v13_1853 + (1 : Int))), ())) s) s
  else
    k0 ()
def slices_Equal_int (N : Nat) (s10 : List Int) (s21 : List Int) : Option Bool :=
  let t10_1846 : Bool := (!decide ((s10.length : Int) = (s21.length : Int)))
  if t10_1846 = true then
    some false
  else
    iter (slices_Equal_int.s0 N none (fun (x1855 : Unit) =>
      some true) (fun (x1856 : Bool × Unit) =>
      let v4_1857 : Bool := x1856.1
      some v4_1857) (s10, s21, (s10.length : Int), ())) none N ((0 : Int), ())
def wrackref2_SamePicture (N : Nat) (a0 : Int × Int × List Int) (b1 : Int × Int × List Int) : Option Bool :=
  bindO (
    if (decide (a0.1 = b1.1)) = true then
      if (decide (a0.2.1 = b1.2.1)) = true then
        some (decide (a0.2.2 = b1.2.2))
      else
        some false
    else
      some false) (fun (c4_1860 : Bool) =>
    some c4_1860) none
def wracklaw2_PixReads (N : Nat) (b0 : List Int) : Option Bool :=
  bindO (pix_Read N b0) (fun r11_1866 =>
    bindO (wrackref2_PictureOf N b0) (fun r17_1867 =>
      bindO (
        bindO (wracklaw2_pictures N) (fun r21_1871 =>
          if r21_1871 = true then
            if (decide (r11_1866.2.2 = r17_1867.2.2)) = true then
              bindO (slices_Equal_int N r11_1866.2.1 r17_1867.2.1) (fun r30_1872 =>
                if r30_1872 = true then
                  bindO (wrackref2_SamePicture N r11_1866.1 r17_1867.1) (fun r35_1873 =>
                    some r35_1873) none
                else
                  some false) none
            else
              some false
          else
            some false) none) (fun (c2_1874 : Bool) =>
        some c2_1874) none) none) none
end Go.Proofs.Yteekijpcdcpjkaa
