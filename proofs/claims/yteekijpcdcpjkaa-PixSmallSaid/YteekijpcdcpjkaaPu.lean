import Derived.Test.YteekijpcdcpjkaaAbIterFn
import Derived.Test.YteekijpcdcpjkaaAbSortFn
import Derived.Test.YteekijpcdcpjkaaAbDen
set_option linter.unusedVariables false
namespace Go.Proofs.Yteekijpcdcpjkaa
open Go Go.Ab
def slices_Max_byte.s0 {R : Type} (N : Nat) (s : R) (k0 : (Int × Unit) → R) (c5 : List Int × Unit) (again : (Int × Int × Unit) → R) (v6 : Int × Int × Unit) : R :=
  let x0_7 : List Int := c5.1
  let m3_8 : Int := v6.1
  let i4_9 : Int := v6.2.1
  if (decide (i4_9 < (x0_7.length : Int))) = true then
    gate (inR i4_9 (x0_7.length : Int)) (
      again ((maxI m3_8 (getI (0 : Int) x0_7 i4_9)), (IntKind.wrap .i64 (i4_9 + (1 : Int))), ())) s
  else
    k0 (m3_8, ())
def slices_Max_byte (N : Nat) (x0 : List Int) : Option Int :=
  if (decide ((x0.length : Int) < (1 : Int))) = true then
    none
  else
    gate (inR (0 : Int) (x0.length : Int)) (
      iter (slices_Max_byte.s0 N none (fun (x10 : Int × Unit) =>
        let m3_11 : Int := x10.1
        some m3_11) (x0, ())) none N ((getI (0 : Int) x0 (0 : Int)), (1 : Int), ())) none
def pix_Check (N : Nat) (p0 : Int × Int × List Int) : Option Int :=
  bindO (
    if (decide (p0.1 < (1 : Int))) = true then
      some true
    else
      if (decide (p0.1 > (64 : Int))) = true then
        some true
      else
        if (decide (p0.2.1 < (1 : Int))) = true then
          some true
        else
          some (decide (p0.2.1 > (64 : Int)))) (fun (c3_13 : Bool) =>
    if c3_13 = true then
      some (4 : Int)
    else
      let t31_14 : Bool := (!decide ((p0.2.2.length : Int) = (IntKind.wrap .i64 (p0.1 * p0.2.1))))
      if t31_14 = true then
        some (3 : Int)
      else
        bindO (slices_Max_byte N p0.2.2) (fun r35_15 =>
          if (decide (r35_15 ≥ (16 : Int))) = true then
            some (4 : Int)
          else
            some (0 : Int)) none) none
def sum_Crc.s1 {R : Type} (N : Nat) (s : R) (k2 : (Int × Unit) → R) (c82 : List Int × Int × Int × Unit) (again : (Int × Int × Unit) → R) (v83 : Int × Int × Unit) : R :=
  let v6_84 : List Int := c82.1
  let v7_85 : Int := c82.2.1
  let v8_86 : Int := c82.2.2.1
  let c3_87 : Int := v83.1
  let v16_88 : Int := v83.2.1
  if (decide (v16_88 < (8 : Int))) = true then
    gate (decide (0 ≤ (1 : Int))) (
      let t22_89 : Int := (IntKind.wrap .u32 ((bitAnd .u32 c3_87 (1 : Int)) * (3988292384 : Int)))
      let t23_90 : Int := (bitXor .u32 (shrI .u32 c3_87 (1 : Int)) t22_89)
      again (t23_90, (IntKind.wrap .i64 (v16_88 + (1 : Int))), ())) s
  else
    k2 (c3_87, ())
def sum_Crc.s0 {R : Type} (N : Nat) (s : R) (k0 : (Int × Unit) → R) (c73 : List Int × Int × Unit) (again : (Int × Int × Unit) → R) (v74 : Int × Int × Unit) : R :=
  let v6_75 : List Int := c73.1
  let v7_76 : Int := c73.2.1
  let c3_77 : Int := v74.1
  let v8_78 : Int := v74.2.1
  if (decide (v8_78 < v7_76)) = true then
    gate (inR v8_78 (v6_75.length : Int)) (
      let t14_79 : Int := (IntKind.wrap .u32 ((getI (0 : Int) v6_75 v8_78)))
      iter (sum_Crc.s1 N s (fun (x91 : Int × Unit) =>
        let c3_92 : Int := x91.1
        again (c3_92, (IntKind.wrap .i64 (v8_78 + (1 : Int))), ())) (v6_75, v7_76, v8_78, ())) s N ((bitXor .u32 c3_77 t14_79), (0 : Int), ())) s
  else
    k0 (c3_77, ())
def sum_Crc (N : Nat) (b0 : List Int) : Option Int :=
  iter (sum_Crc.s0 N none (fun (x93 : Int × Unit) =>
    let c3_94 : Int := x93.1
    let t28_95 : Int := (IntKind.wrap .i64 ((bitXor .u32 4294967295 c3_94)))
    some t28_95) (b0, (b0.length : Int), ())) none N ((4294967295 : Int), (0 : Int), ())
def pix_row.s1 {R : Type} (N : Nat) (s : R) (k2 : (List Int × Int × Unit) → R) (c153 : List Int × Int × Unit) (again : (List Int × Int × Unit) → R) (v154 : List Int × Int × Unit) : R :=
  let dots0_155 : List Int := c153.1
  let i4_156 : Int := c153.2.1
  let out3_157 : List Int := v154.1
  let n5_158 : Int := v154.2.1
  bindO (
    if (decide (n5_158 < (16 : Int))) = true then
      let t19_162 : Bool := (decide ((IntKind.wrap .i64 (i4_156 + n5_158)) < (dots0_155.length : Int)))
      if t19_162 = true then
        gate (inR (IntKind.wrap .i64 (i4_156 + n5_158)) (dots0_155.length : Int)) (
          let t26_163 : Int := (getI (0 : Int) dots0_155 (IntKind.wrap .i64 (i4_156 + n5_158)))
          gate (inR i4_156 (dots0_155.length : Int)) (
            let t32_164 : Bool := (decide (t26_163 = (getI (0 : Int) dots0_155 i4_156)))
            some t32_164) none) none
      else
        some false
    else
      some false) (fun (c33_165 : Bool) =>
    if c33_165 = true then
      again (out3_157, (IntKind.wrap .i64 (n5_158 + (1 : Int))), ())
    else
      k2 (out3_157, n5_158, ())) s
def pix_row.s0 {R : Type} (N : Nat) (s : R) (k0 : (List Int × Unit) → R) (c135 : List Int × Unit) (again : (List Int × Int × Unit) → R) (v136 : List Int × Int × Unit) : R :=
  let dots0_137 : List Int := c135.1
  let out3_138 : List Int := v136.1
  let i4_139 : Int := v136.2.1
  if (decide (i4_139 < (dots0_137.length : Int))) = true then
    iter (pix_row.s1 N s (fun (x166 : List Int × Int × Unit) =>
      let out3_167 : List Int := x166.1
      let n5_168 : Int := x166.2.1
      let t39_169 : Int := (IntKind.wrap .u8 ((IntKind.wrap .i64 (n5_168 - (1 : Int)))))
      gate (decide (0 ≤ (4 : Int))) (
        gate (inR i4_139 (dots0_137.length : Int)) (
          let t45_170 : Int := (bitOr .u8 (shlI .u8 t39_169 (4 : Int)) (getI (0 : Int) dots0_137 i4_139))
          gate (roomFor (out3_167.length + [t45_170].length) 1) (
            again ((out3_167 ++ [t45_170]), (IntKind.wrap .i64 (i4_139 + n5_168)), ())) s) s) s) (dots0_137, i4_139, ())) s N (out3_138, (1 : Int), ())
  else
    k0 (out3_138, ())
def pix_row (N : Nat) (dots0 : List Int) : Option (List Int) :=
  iter (pix_row.s0 N none (fun (x171 : List Int × Unit) =>
    let out3_172 : List Int := x171.1
    let t54_173 : Int := (IntKind.wrap .i64 ((out3_172.length : Int) - (1 : Int)))
    gate (inR (0 : Int) (out3_172.length : Int)) (
      gate (inR (0 : Int) (out3_172.length : Int)) (
        let bx_174 : List Int := (out3_172.set ((0 : Int)).toNat (IntKind.wrap .u8 (t54_173)))
        bindO (sum_Crc N bx_174) (fun r59_175 =>
          gate (roomFor (bx_174.length + [(IntKind.wrap .u8 (r59_175))].length) 1) (
            some (bx_174 ++ [(IntKind.wrap .u8 (r59_175))])) none) none) none) none) (dots0, ())) none N ([(0 : Int)], (0 : Int), ())
def pix_Make.r0 {R : Type} (N : Nat) (s : R) (c183 : Unit) (x185 : List Int) (again : (List Int × Unit) → R) (v184 : List Int × Unit) : R :=
  let m0_186 : List Int := v184.1
  bindO (pix_row N x185) (fun r27_187 =>
    gate (roomFor (m0_186.length + r27_187.length) 1) (
      again ((m0_186 ++ r27_187), ())) s) s
def pix_Make (N : Nat) (p0 : Int × Int × List Int) : Option (List Int × Int) :=
  bindO (pix_Check N p0) (fun r8_180 =>
    if (!decide (r8_180 = (0 : Int))) = true then
      some ([], r8_180)
    else
      let b18_181 : List Int := [(112 : Int), (105 : Int), (120 : Int), (IntKind.wrap .u8 (p0.1)), (IntKind.wrap .u8 (p0.2.1))]
      if (decide (p0.1 < (1 : Int))) = true then
        none
      else
        bindO (chunkGo p0.2.2 p0.1) (fun (l190 : List (List Int)) =>
          foldR (pix_Make.r0 N none  ()) (fun (x188 : List Int × Unit) =>
          let m0_189 : List Int := x188.1
          some (m0_189, (0 : Int))) l190 (b18_181, ())) none) none
def wrackref2_PictureErr.s0 {R : Type} (N : Nat) (s : R) (k0 : Unit → R) (kr : (Int × Unit) → R) (c201 : List Int × Int × Unit) (again : (Int × Unit) → R) (v202 : Int × Unit) : R :=
  let v29_203 : List Int := c201.1
  let v30_204 : Int := c201.2.1
  let v31_205 : Int := v202.1
  if (decide (v31_205 < v30_204)) = true then
    gate (inR v31_205 (v29_203.length : Int)) (
      let t36_206 : Bool := (decide ((getI (0 : Int) v29_203 v31_205) > (15 : Int)))
      if t36_206 = true then
        kr ((4 : Int), ())
      else
        again ((IntKind.wrap .i64 (v31_205 + (1 : Int))), ())) s
  else
    k0 ()
def wrackref2_PictureErr (N : Nat) (p0 : Int × Int × List Int) : Option Int :=
  bindO (
    if (decide ((minI p0.1 p0.2.1) < (1 : Int))) = true then
      some true
    else
      some (decide ((maxI p0.1 p0.2.1) > (64 : Int)))) (fun (c18_198 : Bool) =>
    if c18_198 = true then
      some (4 : Int)
    else
      let t27_199 : Bool := (!decide ((p0.2.2.length : Int) = (IntKind.wrap .i64 (p0.1 * p0.2.1))))
      if t27_199 = true then
        some (3 : Int)
      else
        iter (wrackref2_PictureErr.s0 N none (fun (x207 : Unit) =>
          some (0 : Int)) (fun (x208 : Int × Unit) =>
          let v2_209 : Int := x208.1
          some v2_209) (p0.2.2, (p0.2.2.length : Int), ())) none N ((0 : Int), ())) none
def wracklaw2_pictures (N : Nat) : Option Bool :=
  bindO (pix_Make N ((2 : Int), ((1 : Int), [(3 : Int), (3 : Int)]))) (fun r6_217 =>
    bindO (
      if (decide (r6_217.2 = (0 : Int))) = true then
        let t14_220 : Bool := (decide ((r6_217.1.length : Int) = (8 : Int)))
        if t14_220 = true then
          gate (inR (6 : Int) (r6_217.1.length : Int)) (
            gate (inR (6 : Int) (r6_217.1.length : Int)) (
              let t20_221 : Bool := (decide ((getI (0 : Int) r6_217.1 (6 : Int)) = (19 : Int)))
              some t20_221) none) none
        else
          some false
      else
        some false) (fun (c0_222 : Bool) =>
      some c0_222) none) none
def wrackref2_Crc.s1 {R : Type} (N : Nat) (s : R) (k2 : (Int × Unit) → R) (c286 : List Int × Int × Int × Unit) (again : (Int × Int × Unit) → R) (v287 : Int × Int × Unit) : R :=
  let v6_288 : List Int := c286.1
  let v7_289 : Int := c286.2.1
  let v8_290 : Int := c286.2.2.1
  let c3_291 : Int := v287.1
  let v16_292 : Int := v287.2.1
  if (decide (v16_292 < (8 : Int))) = true then
    gate (decide ((2 : Int) ≠ 0)) (
      let t20_293 : Bool := (decide ((Int.tmod c3_291 (2 : Int)) = (1 : Int)))
      if t20_293 = true then
        gate (decide ((2 : Int) ≠ 0)) (
          let t22_294 : Int := (IntKind.wrap .u32 (Int.tdiv c3_291 (2 : Int)))
          again ((bitXor .u32 t22_294 (3988292384 : Int)), (IntKind.wrap .i64 (v16_292 + (1 : Int))), ())) s
      else
        gate (decide ((2 : Int) ≠ 0)) (
          let t25_295 : Int := (IntKind.wrap .u32 (Int.tdiv c3_291 (2 : Int)))
          again (t25_295, (IntKind.wrap .i64 (v16_292 + (1 : Int))), ())) s) s
  else
    k2 (c3_291, ())
def wrackref2_Crc.s0 {R : Type} (N : Nat) (s : R) (k0 : (Int × Unit) → R) (c277 : List Int × Int × Unit) (again : (Int × Int × Unit) → R) (v278 : Int × Int × Unit) : R :=
  let v6_279 : List Int := c277.1
  let v7_280 : Int := c277.2.1
  let c3_281 : Int := v278.1
  let v8_282 : Int := v278.2.1
  if (decide (v8_282 < v7_280)) = true then
    gate (inR v8_282 (v6_279.length : Int)) (
      let t14_283 : Int := (IntKind.wrap .u32 ((getI (0 : Int) v6_279 v8_282)))
      iter (wrackref2_Crc.s1 N s (fun (x296 : Int × Unit) =>
        let c3_297 : Int := x296.1
        again (c3_297, (IntKind.wrap .i64 (v8_282 + (1 : Int))), ())) (v6_279, v7_280, v8_282, ())) s N ((bitXor .u32 c3_281 t14_283), (0 : Int), ())) s
  else
    k0 (c3_281, ())
def wrackref2_Crc (N : Nat) (b0 : List Int) : Option Int :=
  iter (wrackref2_Crc.s0 N none (fun (x298 : Int × Unit) =>
    let c3_299 : Int := x298.1
    let t30_300 : Int := (IntKind.wrap .i64 ((bitXor .u32 4294967295 c3_299)))
    some t30_300) (b0, (b0.length : Int), ())) none N ((4294967295 : Int), (0 : Int), ())
def wrackref2_PictureBytes.s1 {R : Type} (N : Nat) (s : R) (k2 : (List Int × List Int × Int × Int × List Int × Unit) → R) (c376 : Int × Int × Int × Int × Unit) (again : (List Int × List Int × Int × Int × Int × List Int × Unit) → R) (v377 : List Int × List Int × Int × Int × Int × List Int × Unit) : R :=
  let y4_378 : Int := c376.1
  let v17_379 : Int := c376.2.1
  let v18_380 : Int := c376.2.2.1
  let v23_381 : Int := c376.2.2.2.1
  let out3_382 : List Int := v377.1
  let r5_383 : List Int := v377.2.1
  let v24_384 : Int := v377.2.2.1
  let m0_385 : Int := v377.2.2.2.1
  let m0_386 : Int := v377.2.2.2.2.1
  let m0_387 : List Int := v377.2.2.2.2.2.1
  if (decide (v24_384 < v23_381)) = true then
    let t34_388 : Int := (IntKind.wrap .i64 ((IntKind.wrap .i64 (y4_378 * m0_385)) + v24_384))
    gate (inR t34_388 (m0_387.length : Int)) (
      let t39_389 : Int := (IntKind.wrap .i64 ((r5_383.length : Int) - (1 : Int)))
      bindO (
        if (decide (t39_389 > (0 : Int))) = true then
          gate (inR t39_389 (r5_383.length : Int)) (
            gate (inR t39_389 (r5_383.length : Int)) (
              gate (decide ((16 : Int) ≠ 0)) (
                let t47_393 : Int := (Int.tmod (getI (0 : Int) r5_383 t39_389) (16 : Int))
                let t49_394 : Bool := (decide (t47_393 = (getI (0 : Int) m0_387 t34_388)))
                if t49_394 = true then
                  gate (inR t39_389 (r5_383.length : Int)) (
                    gate (inR t39_389 (r5_383.length : Int)) (
                      let t56_395 : Bool := (decide ((getI (0 : Int) r5_383 t39_389) < (240 : Int)))
                      some t56_395) none) none
                else
                  some false) none) none) none
        else
          some false) (fun (c57_396 : Bool) =>
        if c57_396 = true then
          gate (inR t39_389 (r5_383.length : Int)) (
            gate (inR t39_389 (r5_383.length : Int)) (
              let t62_397 : Int := (IntKind.wrap .u8 ((getI (0 : Int) r5_383 t39_389) + (16 : Int)))
              gate (inR t39_389 (r5_383.length : Int)) (
                gate (inR t39_389 (r5_383.length : Int)) (
                  again (out3_382, (r5_383.set (t39_389).toNat t62_397), (IntKind.wrap .i64 (v24_384 + (1 : Int))), m0_385, m0_386, m0_387, ())) s) s) s) s
        else
          gate (roomFor (r5_383.length + [(getI (0 : Int) m0_387 t34_388)].length) 1) (
            let b67_398 : List Int := (r5_383 ++ [(getI (0 : Int) m0_387 t34_388)])
            again (out3_382, b67_398, (IntKind.wrap .i64 (v24_384 + (1 : Int))), m0_385, m0_386, m0_387, ())) s) s) s
  else
    k2 (out3_382, r5_383, m0_385, m0_386, m0_387, ())
def wrackref2_PictureBytes.s0 {R : Type} (N : Nat) (s : R) (k0 : (List Int × Unit) → R) (c342 : Int × Unit) (again : (List Int × Int × Int × Int × List Int × Unit) → R) (v343 : List Int × Int × Int × Int × List Int × Unit) : R :=
  let v17_344 : Int := c342.1
  let out3_345 : List Int := v343.1
  let v18_346 : Int := v343.2.1
  let m0_347 : Int := v343.2.2.1
  let m0_348 : Int := v343.2.2.2.1
  let m0_349 : List Int := v343.2.2.2.2.1
  if (decide (v18_346 < v17_344)) = true then
    iter (wrackref2_PictureBytes.s1 N s (fun (x399 : List Int × List Int × Int × Int × List Int × Unit) =>
      let out3_400 : List Int := x399.1
      let r5_401 : List Int := x399.2.1
      let m0_402 : Int := x399.2.2.1
      let m0_403 : Int := x399.2.2.2.1
      let m0_404 : List Int := x399.2.2.2.2.1
      let t72_405 : Int := (IntKind.wrap .i64 ((r5_401.length : Int) - (1 : Int)))
      gate (inR (0 : Int) (r5_401.length : Int)) (
        gate (inR (0 : Int) (r5_401.length : Int)) (
          let bx_406 : List Int := (r5_401.set ((0 : Int)).toNat (IntKind.wrap .u8 (t72_405)))
          gate (roomFor (out3_400.length + bx_406.length) 1) (
            bindO (wrackref2_Crc N bx_406) (fun r79_407 =>
              gate (decide ((256 : Int) ≠ 0)) (
                let t81_408 : Int := (IntKind.wrap .u8 ((Int.tmod r79_407 (256 : Int))))
                gate (roomFor ((out3_400 ++ bx_406).length + [t81_408].length) 1) (
                  again (((out3_400 ++ bx_406) ++ [t81_408]), (IntKind.wrap .i64 (v18_346 + (1 : Int))), m0_402, m0_403, m0_404, ())) s) s) s) s) s) s) (v18_346, v17_344, v18_346, m0_347, ())) s N (out3_345, [(0 : Int)], (0 : Int), m0_347, m0_348, m0_349, ())
  else
    k0 (out3_345, ())
def wrackref2_PictureBytes (N : Nat) (p0 : Int × Int × List Int) : Option (List Int) :=
  let b15_305 : List Int := [(112 : Int), (105 : Int), (120 : Int), (IntKind.wrap .u8 (p0.1)), (IntKind.wrap .u8 (p0.2.1))]
  iter (wrackref2_PictureBytes.s0 N none (fun (x409 : List Int × Unit) =>
    let out3_410 : List Int := x409.1
    some out3_410) (p0.2.1, ())) none N (b15_305, (0 : Int), p0.1, p0.2.1, p0.2.2, ())
def slices_Equal_byte.s0 {R : Type} (N : Nat) (s : R) (k0 : Unit → R) (kr : (Bool × Unit) → R) (c419 : List Int × List Int × Int × Unit) (again : (Int × Unit) → R) (v420 : Int × Unit) : R :=
  let s10_421 : List Int := c419.1
  let s21_422 : List Int := c419.2.1
  let v12_423 : Int := c419.2.2.1
  let v13_424 : Int := v420.1
  if (decide (v13_424 < v12_423)) = true then
    gate (inR v13_424 (s10_421.length : Int)) (
      gate (inR v13_424 (s21_422.length : Int)) (
        let t24_425 : Bool := (!decide ((getI (0 : Int) s10_421 v13_424) = (getI (0 : Int) s21_422 v13_424)))
        if t24_425 = true then
          kr (false, ())
        else
          again ((IntKind.wrap .i64 (v13_424 + (1 : Int))), ())) s) s
  else
    k0 ()
def slices_Equal_byte (N : Nat) (s10 : List Int) (s21 : List Int) : Option Bool :=
  let t10_417 : Bool := (!decide ((s10.length : Int) = (s21.length : Int)))
  if t10_417 = true then
    some false
  else
    iter (slices_Equal_byte.s0 N none (fun (x426 : Unit) =>
      some true) (fun (x427 : Bool × Unit) =>
      let v4_428 : Bool := x427.1
      some v4_428) (s10, s21, (s10.length : Int), ())) none N ((0 : Int), ())
def wracklaw2_PixMakes (N : Nat) (p0 : Int × Int × List Int) : Option Bool :=
  bindO (pix_Make N p0) (fun r8_437 =>
    bindO (wrackref2_PictureErr N p0) (fun r12_438 =>
      bindO (
        bindO (wracklaw2_pictures N) (fun r13_441 =>
          if (!r13_441) = true then
            some true
          else
            bindO (pix_Check N p0) (fun r17_442 =>
              if (!decide (r17_442 = r12_438)) = true then
                some true
              else
                some (!decide (r8_437.2 = r12_438))) none) none) (fun (c25_443 : Bool) =>
        if c25_443 = true then
          some false
        else
          if (!decide (r12_438 = (0 : Int))) = true then
            let t31_449 : Bool := (decide ((r8_437.1.length : Int) = (0 : Int)))
            if t31_449 = true then
              some true
            else
              if (decide (r12_438 = (0 : Int))) = true then
                bindO (wrackref2_PictureBytes N p0) (fun r39_450 =>
                  bindO (slices_Equal_byte N r8_437.1 r39_450) (fun r40_451 =>
                    some r40_451) none) none
              else
                some false
          else
            if (decide (r12_438 = (0 : Int))) = true then
              bindO (wrackref2_PictureBytes N p0) (fun r39_452 =>
                bindO (slices_Equal_byte N r8_437.1 r39_452) (fun r40_453 =>
                  some r40_453) none) none
            else
              some false) none) none) none
def wrackmake_Below (N : Nat) (x0 : Int) (n1 : Int) : Option Int :=
  gate (decide (n1 ≠ 0)) (
    if (decide ((Int.tmod x0 n1) < (0 : Int))) = true then
      some (IntKind.wrap .i64 ((Int.tmod x0 n1) + n1))
    else
      some (Int.tmod x0 n1)) none
def wrackmake_Stream_Next (N : Nat) (s0 : List Int × Unit) (n1 : Int) : Option (Int × (List Int × Unit)) :=
  bindO (
    if (decide ((s0.1.length : Int) = (0 : Int))) = true then
      some true
    else
      some (decide (n1 < (1 : Int)))) (fun (c15_456 : Bool) =>
    if c15_456 = true then
      some ((0 : Int), (s0.1, ()))
    else
      gate (inR (0 : Int) (s0.1.length : Int)) (
        gate (bounds (s0.1.length : Int) (1 : Int) (s0.1.length : Int)) (
          bindO (wrackmake_Below N (getI (0 : Int) s0.1 (0 : Int)) n1) (fun r32_457 =>
            some (r32_457, ((cut s0.1 (1 : Int) (s0.1.length : Int)), ()))) none) none) none) none
def bits_Mul64 (N : Nat) (x0 : Int) (y1 : Int) : Option (Int × Int) :=
  gate (decide (0 ≤ (32 : Int))) (
    gate (decide (0 ≤ (32 : Int))) (
      let t24_471 : Int := (IntKind.wrap .u64 ((bitAnd .u64 x0 (4294967295 : Int)) * (bitAnd .u64 y1 (4294967295 : Int))))
      let t27_472 : Int := (IntKind.wrap .u64 ((shrI .u64 x0 (32 : Int)) * (bitAnd .u64 y1 (4294967295 : Int))))
      gate (decide (0 ≤ (32 : Int))) (
        let t30_473 : Int := (IntKind.wrap .u64 (t27_472 + (shrI .u64 t24_471 (32 : Int))))
        gate (decide (0 ≤ (32 : Int))) (
          let t38_474 : Int := (IntKind.wrap .u64 ((bitAnd .u64 x0 (4294967295 : Int)) * (shrI .u64 y1 (32 : Int))))
          let t39_475 : Int := (IntKind.wrap .u64 ((bitAnd .u64 t30_473 (4294967295 : Int)) + t38_474))
          let t42_476 : Int := (IntKind.wrap .u64 ((shrI .u64 x0 (32 : Int)) * (shrI .u64 y1 (32 : Int))))
          let t44_477 : Int := (IntKind.wrap .u64 (t42_476 + (shrI .u64 t30_473 (32 : Int))))
          gate (decide (0 ≤ (32 : Int))) (
            let t47_478 : Int := (IntKind.wrap .u64 (t44_477 + (shrI .u64 t39_475 (32 : Int))))
            some (t47_478, (IntKind.wrap .u64 (x0 * y1)))) none) none) none) none) none
def bits_Mul (N : Nat) (x0 : Int) (y1 : Int) : Option (Int × Int) :=
  bindO (bits_Mul64 N x0 y1) (fun r25_480 =>
    some r25_480) none
def slices_Repeat_byte.s0 {R : Type} (N : Nat) (s : R) (k0 : (List Int × Unit) → R) (c501 : Unit) (again : (List Int × Int × Unit) → R) (v502 : List Int × Int × Unit) : R :=
  let newslice7_503 : List Int := v502.1
  let n8_504 : Int := v502.2.1
  let t37_505 : Bool := (decide (n8_504 < (newslice7_503.length : Int)))
  if t37_505 = true then
    gate (bounds (newslice7_503.length : Int) n8_504 (newslice7_503.length : Int)) (
      gate (bounds (newslice7_503.length : Int) (0 : Int) n8_504) (
        let t45_506 : Int := (((min (cut newslice7_503 (0 : Int) n8_504).length ((newslice7_503.length : Int) - n8_504).toNat) : Nat) : Int)
        let b45_507 : List Int := (over newslice7_503 (cut newslice7_503 (0 : Int) n8_504) (n8_504).toNat (min (cut newslice7_503 (0 : Int) n8_504).length ((newslice7_503.length : Int) - n8_504).toNat))
        again (b45_507, (IntKind.wrap .i64 (n8_504 + t45_506)), ())) s) s
  else
    k0 (newslice7_503, ())
def slices_Repeat_byte (N : Nat) (x0 : List Int) (count1 : Int) : Option (List Int) :=
  if (decide (count1 < (0 : Int))) = true then
    none
  else
    bindO (bits_Mul N (IntKind.wrap .u64 ((x0.length : Int))) (IntKind.wrap .u64 (count1))) (fun r18_492 =>
      bindO (
        if (decide (r18_492.1 > (0 : Int))) = true then
          some true
        else
          let t25_494 : Bool := (decide (r18_492.2 > (9223372036854775807 : Int)))
          some t25_494) (fun (c26_495 : Bool) =>
        if c26_495 = true then
          none
        else
          gate (decide (0 ≤ (IntKind.wrap .i64 (r18_492.2)) ∧ (IntKind.wrap .i64 (r18_492.2)) ≤ (IntKind.wrap .i64 (r18_492.2))) && roomFor ((IntKind.wrap .i64 (r18_492.2))).toNat 1) (
            let b30_496 : List Int := (List.replicate ((IntKind.wrap .i64 (r18_492.2))).toNat (0 : Int))
            let t33_497 : Int := (((min x0.length b30_496.length) : Nat) : Int)
            let b33_498 : List Int := (over b30_496 x0 0 (min x0.length b30_496.length))
            iter (slices_Repeat_byte.s0 N none (fun (x508 : List Int × Unit) =>
              let newslice7_509 : List Int := x508.1
              some newslice7_509) ()) none N (b33_498, t33_497, ())) none) none) none
def wrackkeep2_picture.s0 {R : Type} (N : Nat) (s : R) (k0 : (Int × Int × Int × Int × List Int × Unit) → R) (c559 : Unit) (again : (Int × Int × List Int × Int × Int × List Int × Unit) → R) (v560 : Int × Int × List Int × Int × Int × List Int × Unit) : R :=
  let m0_561 : Int := v560.1
  let m0_562 : Int := v560.2.1
  let m1_563 : List Int := v560.2.2.1
  let m2_564 : Int := v560.2.2.2.1
  let m2_565 : Int := v560.2.2.2.2.1
  let m2_566 : List Int := v560.2.2.2.2.2.1
  let t23_567 : Bool := (decide ((m2_566.length : Int) < (IntKind.wrap .i64 (m2_564 * m2_565))))
  if t23_567 = true then
    bindO (wrackmake_Stream_Next N (m1_563, ()) (16 : Int)) (fun r27_568 =>
      bindO (wrackmake_Stream_Next N (r27_568.2.1, ()) (5 : Int)) (fun r31_569 =>
        bindO (slices_Repeat_byte N [(IntKind.wrap .u8 (r27_568.1))] (IntKind.wrap .i64 ((1 : Int) + r31_569.1))) (fun r33_570 =>
          gate (roomFor (m2_566.length + r33_570.length) 1) (
            again (m0_561, m0_562, r31_569.2.1, m2_564, m2_565, (m2_566 ++ r33_570), ())) s) s) s) s
  else
    k0 (m0_561, m0_562, m2_564, m2_565, m2_566, ())
def wrackkeep2_picture (N : Nat) (l0 : List Int) : Option (Int × Int × List Int) :=
  bindO (wrackmake_Stream_Next N (l0, ()) (20 : Int)) (fun r9_535 =>
    bindO (wrackmake_Stream_Next N (r9_535.2.1, ()) (12 : Int)) (fun r12_536 =>
      iter (wrackkeep2_picture.s0 N none (fun (x571 : Int × Int × Int × Int × List Int × Unit) =>
        let m0_572 : Int := x571.1
        let m0_573 : Int := x571.2.1
        let m1_574 : Int := x571.2.2.1
        let m1_575 : Int := x571.2.2.2.1
        let m1_576 : List Int := x571.2.2.2.2.1
        gate (bounds (m1_576.length : Int) (0 : Int) (IntKind.wrap .i64 (m1_574 * m1_575))) (
          some (m1_574, (m1_575, (cut m1_576 (0 : Int) (IntKind.wrap .i64 (m1_574 * m1_575)))))) none) ()) none N ((0 : Int), (0 : Int), r12_536.2.1, (IntKind.wrap .i64 ((1 : Int) + r9_535.1)), (IntKind.wrap .i64 ((1 : Int) + r12_536.1)), [], ())) none) none
def pix_Small.s3 {R : Type} (N : Nat) (s : R) (k6 : (Int × Int × Int × Int × List Int × Int × Int × Int × Int × List Int × Unit) → R) (c1078 : Int × Int × Int × Int × Unit) (again : (Int × Int × Int × Int × Int × List Int × Int × Int × Int × Int × List Int × Unit) → R) (v1079 : Int × Int × Int × Int × Int × List Int × Int × Int × Int × Int × List Int × Unit) : R :=
  let side1_1080 : Int := c1078.1
  let y8_1081 : Int := c1078.2.1
  let x9_1082 : Int := c1078.2.2.1
  let v12_1083 : Int := c1078.2.2.2.1
  let total10_1084 : Int := v1079.1
  let many11_1085 : Int := v1079.2.1
  let u13_1086 : Int := v1079.2.2.1
  let m0_1087 : Int := v1079.2.2.2.1
  let m0_1088 : Int := v1079.2.2.2.2.1
  let m0_1089 : List Int := v1079.2.2.2.2.2.1
  let m1_1090 : Int := v1079.2.2.2.2.2.2.1
  let m1_1091 : Int := v1079.2.2.2.2.2.2.2.1
  let m2_1092 : Int := v1079.2.2.2.2.2.2.2.2.1
  let m2_1093 : Int := v1079.2.2.2.2.2.2.2.2.2.1
  let m2_1094 : List Int := v1079.2.2.2.2.2.2.2.2.2.2.1
  let t74_1095 : Int := (minI (IntKind.wrap .i64 (x9_1082 + side1_1080)) m0_1087)
  if (decide (u13_1086 < t74_1095)) = true then
    let t86_1096 : Int := (IntKind.wrap .i64 ((IntKind.wrap .i64 (v12_1083 * m0_1087)) + u13_1086))
    gate (inR t86_1096 (m0_1089.length : Int)) (
      let t89_1097 : Int := (IntKind.wrap .i64 ((getI (0 : Int) m0_1089 t86_1096)))
      let t90_1098 : Int := (IntKind.wrap .i64 (total10_1084 + t89_1097))
      let t92_1099 : Int := (IntKind.wrap .i64 (many11_1085 + (1 : Int)))
      again (t90_1098, t92_1099, (IntKind.wrap .i64 (u13_1086 + (1 : Int))), m0_1087, m0_1088, m0_1089, m1_1090, m1_1091, m2_1092, m2_1093, m2_1094, ())) s
  else
    k6 (total10_1084, many11_1085, m0_1087, m0_1088, m0_1089, m1_1090, m1_1091, m2_1092, m2_1093, m2_1094, ())
def pix_Small.s2 {R : Type} (N : Nat) (s : R) (k4 : (Int × Int × Int × Int × List Int × Int × Int × Int × Int × List Int × Unit) → R) (c1058 : Int × Int × Int × Unit) (again : (Int × Int × Int × Int × Int × List Int × Int × Int × Int × Int × List Int × Unit) → R) (v1059 : Int × Int × Int × Int × Int × List Int × Int × Int × Int × Int × List Int × Unit) : R :=
  let side1_1060 : Int := c1058.1
  let y8_1061 : Int := c1058.2.1
  let x9_1062 : Int := c1058.2.2.1
  let total10_1063 : Int := v1059.1
  let many11_1064 : Int := v1059.2.1
  let v12_1065 : Int := v1059.2.2.1
  let m0_1066 : Int := v1059.2.2.2.1
  let m0_1067 : Int := v1059.2.2.2.2.1
  let m0_1068 : List Int := v1059.2.2.2.2.2.1
  let m1_1069 : Int := v1059.2.2.2.2.2.2.1
  let m1_1070 : Int := v1059.2.2.2.2.2.2.2.1
  let m2_1071 : Int := v1059.2.2.2.2.2.2.2.2.1
  let m2_1072 : Int := v1059.2.2.2.2.2.2.2.2.2.1
  let m2_1073 : List Int := v1059.2.2.2.2.2.2.2.2.2.2.1
  let t63_1074 : Int := (minI (IntKind.wrap .i64 (y8_1061 + side1_1060)) m0_1067)
  if (decide (v12_1065 < t63_1074)) = true then
    iter (pix_Small.s3 N s (fun (x1100 : Int × Int × Int × Int × List Int × Int × Int × Int × Int × List Int × Unit) =>
      let total10_1101 : Int := x1100.1
      let many11_1102 : Int := x1100.2.1
      let m0_1103 : Int := x1100.2.2.1
      let m0_1104 : Int := x1100.2.2.2.1
      let m0_1105 : List Int := x1100.2.2.2.2.1
      let m1_1106 : Int := x1100.2.2.2.2.2.1
      let m1_1107 : Int := x1100.2.2.2.2.2.2.1
      let m2_1108 : Int := x1100.2.2.2.2.2.2.2.1
      let m2_1109 : Int := x1100.2.2.2.2.2.2.2.2.1
      let m2_1110 : List Int := x1100.2.2.2.2.2.2.2.2.2.1
      again (total10_1101, many11_1102, (IntKind.wrap .i64 (v12_1065 + (1 : Int))), m0_1103, m0_1104, m0_1105, m1_1106, m1_1107, m2_1108, m2_1109, m2_1110, ())) (side1_1060, y8_1061, x9_1062, v12_1065, ())) s N (total10_1063, many11_1064, x9_1062, m0_1066, m0_1067, m0_1068, m1_1069, m1_1070, m2_1071, m2_1072, m2_1073, ())
  else
    k4 (total10_1063, many11_1064, m0_1066, m0_1067, m0_1068, m1_1069, m1_1070, m2_1071, m2_1072, m2_1073, ())
def pix_Small.s1 {R : Type} (N : Nat) (s : R) (k2 : (Int × Int × List Int × Int × Int × Int × Int × List Int × Unit) → R) (c1004 : Int × Int × Unit) (again : (Int × Int × Int × List Int × Int × Int × Int × Int × List Int × Unit) → R) (v1005 : Int × Int × Int × List Int × Int × Int × Int × Int × List Int × Unit) : R :=
  let side1_1006 : Int := c1004.1
  let y8_1007 : Int := c1004.2.1
  let x9_1008 : Int := v1005.1
  let m0_1009 : Int := v1005.2.1
  let m0_1010 : Int := v1005.2.2.1
  let m0_1011 : List Int := v1005.2.2.2.1
  let m1_1012 : Int := v1005.2.2.2.2.1
  let m1_1013 : Int := v1005.2.2.2.2.2.1
  let m2_1014 : Int := v1005.2.2.2.2.2.2.1
  let m2_1015 : Int := v1005.2.2.2.2.2.2.2.1
  let m2_1016 : List Int := v1005.2.2.2.2.2.2.2.2.1
  if (decide (x9_1008 < m0_1009)) = true then
    iter (pix_Small.s2 N s (fun (x1111 : Int × Int × Int × Int × List Int × Int × Int × Int × Int × List Int × Unit) =>
      let total10_1112 : Int := x1111.1
      let many11_1113 : Int := x1111.2.1
      let m0_1114 : Int := x1111.2.2.1
      let m0_1115 : Int := x1111.2.2.2.1
      let m0_1116 : List Int := x1111.2.2.2.2.1
      let m1_1117 : Int := x1111.2.2.2.2.2.1
      let m1_1118 : Int := x1111.2.2.2.2.2.2.1
      let m2_1119 : Int := x1111.2.2.2.2.2.2.2.1
      let m2_1120 : Int := x1111.2.2.2.2.2.2.2.2.1
      let m2_1121 : List Int := x1111.2.2.2.2.2.2.2.2.2.1
      gate (decide (many11_1113 ≠ 0)) (
        let t97_1122 : Int := (IntKind.wrap .i64 (Int.tdiv total10_1112 many11_1113))
        gate (roomFor (m2_1121.length + [(IntKind.wrap .u8 (t97_1122))].length) 1) (
          again ((IntKind.wrap .i64 (x9_1008 + side1_1006)), m0_1114, m0_1115, m0_1116, m1_1117, m1_1118, m2_1119, m2_1120, (m2_1121 ++ [(IntKind.wrap .u8 (t97_1122))]), ())) s) s) (side1_1006, y8_1007, x9_1008, ())) s N ((0 : Int), (0 : Int), y8_1007, m0_1009, m0_1010, m0_1011, m1_1012, m1_1013, m2_1014, m2_1015, m2_1016, ())
  else
    k2 (m0_1009, m0_1010, m0_1011, m1_1012, m1_1013, m2_1014, m2_1015, m2_1016, ())
def pix_Small.s0 {R : Type} (N : Nat) (s : R) (k0 : (Int × Int × Int × Int × List Int × Unit) → R) (c939 : Int × Unit) (again : (Int × Int × Int × List Int × Int × Int × Int × Int × List Int × Unit) → R) (v940 : Int × Int × Int × List Int × Int × Int × Int × Int × List Int × Unit) : R :=
  let side1_941 : Int := c939.1
  let y8_942 : Int := v940.1
  let m0_943 : Int := v940.2.1
  let m0_944 : Int := v940.2.2.1
  let m0_945 : List Int := v940.2.2.2.1
  let m1_946 : Int := v940.2.2.2.2.1
  let m1_947 : Int := v940.2.2.2.2.2.1
  let m2_948 : Int := v940.2.2.2.2.2.2.1
  let m2_949 : Int := v940.2.2.2.2.2.2.2.1
  let m2_950 : List Int := v940.2.2.2.2.2.2.2.2.1
  if (decide (y8_942 < m0_944)) = true then
    iter (pix_Small.s1 N s (fun (x1123 : Int × Int × List Int × Int × Int × Int × Int × List Int × Unit) =>
      let m0_1124 : Int := x1123.1
      let m0_1125 : Int := x1123.2.1
      let m0_1126 : List Int := x1123.2.2.1
      let m1_1127 : Int := x1123.2.2.2.1
      let m1_1128 : Int := x1123.2.2.2.2.1
      let m2_1129 : Int := x1123.2.2.2.2.2.1
      let m2_1130 : Int := x1123.2.2.2.2.2.2.1
      let m2_1131 : List Int := x1123.2.2.2.2.2.2.2.1
      again ((IntKind.wrap .i64 (y8_942 + side1_941)), m0_1124, m0_1125, m0_1126, m1_1127, m1_1128, m2_1129, m2_1130, m2_1131, ())) (side1_941, y8_942, ())) s N ((0 : Int), m0_943, m0_944, m0_945, m1_946, m1_947, m2_948, m2_949, m2_950, ())
  else
    k0 (m1_946, m1_947, m2_948, m2_949, m2_950, ())
def pix_Small (N : Nat) (p0 : Int × Int × List Int) (side1 : Int) : Option ((Int × Int × List Int) × Int) :=
  bindO (pix_Check N p0) (fun r15_762 =>
    if (!decide (r15_762 = (0 : Int))) = true then
      some (((0 : Int), ((0 : Int), [])), r15_762)
    else
      bindO (
        if (decide (side1 < (1 : Int))) = true then
          some true
        else
          some (decide (side1 > (64 : Int)))) (fun (c25_763 : Bool) =>
        if c25_763 = true then
          some (((0 : Int), ((0 : Int), [])), (1 : Int))
        else
          let t31_764 : Int := (IntKind.wrap .i64 ((IntKind.wrap .i64 (p0.1 + side1)) - (1 : Int)))
          gate (decide (side1 ≠ 0)) (
            let t38_765 : Int := (IntKind.wrap .i64 ((IntKind.wrap .i64 (p0.2.1 + side1)) - (1 : Int)))
            gate (decide (side1 ≠ 0)) (
              iter (pix_Small.s0 N none (fun (x1132 : Int × Int × Int × Int × List Int × Unit) =>
                let m0_1133 : Int := x1132.1
                let m0_1134 : Int := x1132.2.1
                let m1_1135 : Int := x1132.2.2.1
                let m1_1136 : Int := x1132.2.2.2.1
                let m1_1137 : List Int := x1132.2.2.2.2.1
                some ((m1_1135, (m1_1136, m1_1137)), (0 : Int))) (side1, ())) none N ((0 : Int), p0.1, p0.2.1, p0.2.2, (0 : Int), (0 : Int), (IntKind.wrap .i64 (Int.tdiv t31_764 side1)), (IntKind.wrap .i64 (Int.tdiv t38_765 side1)), [], ())) none) none) none) none
def pix_Apart.s0 {R : Type} (N : Nat) (s : R) (k0 : (Int × Int × List Int × Int × Int × List Int × Unit) → R) (kr : (Int × Unit) → R) (c1263 : Int × Int × Unit) (again : (List (Int × Int × List Int) × Int × Int × Int × List Int × Int × Int × List Int × Unit) → R) (v1264 : List (Int × Int × List Int) × Int × Int × Int × List Int × Int × Int × List Int × Unit) : R :=
  let side2_1265 : Int := c1263.1
  let v18_1266 : Int := c1263.2.1
  let v17_1267 : List (Int × Int × List Int) := v1264.1
  let v19_1268 : Int := v1264.2.1
  let m0_1269 : Int := v1264.2.2.1
  let m0_1270 : Int := v1264.2.2.2.1
  let m0_1271 : List Int := v1264.2.2.2.2.1
  let m1_1272 : Int := v1264.2.2.2.2.2.1
  let m1_1273 : Int := v1264.2.2.2.2.2.2.1
  let m1_1274 : List Int := v1264.2.2.2.2.2.2.2.1
  if (decide (v19_1268 < v18_1266)) = true then
    gate (inR v19_1268 (v17_1267.length : Int)) (
      gate (inR v19_1268 (v17_1267.length : Int)) (
        let t22_1275 : Int × Int × List Int := (getI ((0 : Int), ((0 : Int), [])) v17_1267 v19_1268)
        bindO (pix_Check N t22_1275) (fun r24_1276 =>
          if (!decide (r24_1276 = (0 : Int))) = true then
            kr (r24_1276, ())
          else
            again (v17_1267, (IntKind.wrap .i64 (v19_1268 + (1 : Int))), m0_1269, m0_1270, m0_1271, m1_1272, m1_1273, m1_1274, ())) s) s) s
  else
    k0 (m0_1269, m0_1270, m0_1271, m1_1272, m1_1273, m1_1274, ())
def pix_Apart.s1 {R : Type} (N : Nat) (s : R) (k2 : (List Int × Unit) → R) (c1305 : Int × Int × Int × Unit) (again : (List Int × Int × Int × Int × List Int × Int × Int × List Int × Unit) → R) (v1306 : List Int × Int × Int × Int × List Int × Int × Int × List Int × Unit) : R :=
  let side2_1307 : Int := c1305.1
  let across11_1308 : Int := c1305.2.1
  let v58_1309 : Int := c1305.2.2.1
  let out12_1310 : List Int := v1306.1
  let v59_1311 : Int := v1306.2.1
  let m0_1312 : Int := v1306.2.2.1
  let m0_1313 : Int := v1306.2.2.2.1
  let m0_1314 : List Int := v1306.2.2.2.2.1
  let m1_1315 : Int := v1306.2.2.2.2.2.1
  let m1_1316 : Int := v1306.2.2.2.2.2.2.1
  let m1_1317 : List Int := v1306.2.2.2.2.2.2.2.1
  if (decide (v59_1311 < v58_1309)) = true then
    gate (decide (m0_1312 ≠ 0)) (
      let t65_1318 : Int := (IntKind.wrap .i64 (Int.tdiv v59_1311 m0_1312))
      gate (decide (side2_1307 ≠ 0)) (
        let t67_1319 : Int := (IntKind.wrap .i64 (Int.tdiv t65_1318 side2_1307))
        let t69_1320 : Int := (IntKind.wrap .i64 (t67_1319 * across11_1308))
        gate (decide (m0_1312 ≠ 0)) (
          gate (decide (side2_1307 ≠ 0)) (
            let t75_1321 : Int := (IntKind.wrap .i64 (Int.tdiv (Int.tmod v59_1311 m0_1312) side2_1307))
            gate (inR v59_1311 (m0_1314.length : Int)) (
              gate (inR v59_1311 (m1_1317.length : Int)) (
                let t87_1322 : Bool := (!decide ((getI (0 : Int) m0_1314 v59_1311) = (getI (0 : Int) m1_1317 v59_1311)))
                if t87_1322 = true then
                  gate (roomFor (out12_1310.length + [(IntKind.wrap .i64 (t69_1320 + t75_1321))].length) 8) (
                    let b91_1323 : List Int := (out12_1310 ++ [(IntKind.wrap .i64 (t69_1320 + t75_1321))])
                    again (b91_1323, (IntKind.wrap .i64 (v59_1311 + (1 : Int))), m0_1312, m0_1313, m0_1314, m1_1315, m1_1316, m1_1317, ())) s
                else
                  again (out12_1310, (IntKind.wrap .i64 (v59_1311 + (1 : Int))), m0_1312, m0_1313, m0_1314, m1_1315, m1_1316, m1_1317, ())) s) s) s) s) s) s
  else
    k2 (out12_1310, ())
def pix_Apart (N : Nat) (p0 : Int × Int × List Int) (q1 : Int × Int × List Int) (side2 : Int) : Option (List Int × Int) :=
  iter (pix_Apart.s0 N none (fun (x1277 : Int × Int × List Int × Int × Int × List Int × Unit) =>
    let m0_1278 : Int := x1277.1
    let m0_1279 : Int := x1277.2.1
    let m0_1280 : List Int := x1277.2.2.1
    let m1_1281 : Int := x1277.2.2.2.1
    let m1_1282 : Int := x1277.2.2.2.2.1
    let m1_1283 : List Int := x1277.2.2.2.2.2.1
    bindO (
      if (decide (side2 < (1 : Int))) = true then
        some true
      else
        if (decide (side2 > (64 : Int))) = true then
          some true
        else
          if (!decide (m0_1278 = m1_1281)) = true then
            some true
          else
            some (!decide (m0_1279 = m1_1282))) (fun (c48_1284 : Bool) =>
      if c48_1284 = true then
        some ([], (1 : Int))
      else
        let t53_1285 : Int := (IntKind.wrap .i64 ((IntKind.wrap .i64 (m0_1278 + side2)) - (1 : Int)))
        gate (decide (side2 ≠ 0)) (
          let t55_1286 : Int := (IntKind.wrap .i64 (Int.tdiv t53_1285 side2))
          iter (pix_Apart.s1 N none (fun (x1324 : List Int × Unit) =>
            let out12_1325 : List Int := x1324.1
            gate (decide (out12_1325.length < 4611686018427387904)) (
              gate (decide ((sortInts out12_1325).length < 4611686018427387904)) (
                some ((cut (compactAll (sortInts out12_1325)) (0 : Int) ((compactInts (sortInts out12_1325)).length : Int)), (0 : Int))) none) none) (side2, t55_1286, (m0_1280.length : Int), ())) none N ([], (0 : Int), m0_1278, m0_1279, m0_1280, m1_1281, m1_1282, m1_1283, ())) none) none) (fun (x1326 : Int × Unit) =>
    let v7_1327 : Int := x1326.1
    some ([], v7_1327)) (side2, ([p0, q1].length : Int), ())) none N ([p0, q1], (0 : Int), p0.1, p0.2.1, p0.2.2, q1.1, q1.2.1, q1.2.2, ())
def slices_Clone_byte (N : Nat) (s0 : List Int) : Option (List Int) :=
  gate (roomFor (([] : List Int).length + s0.length) 1) (
    some (([] : List Int) ++ s0)) none
def wrackkeep2_drawn (N : Nat) : Option Bool :=
  bindO (pix_Make N ((2 : Int), ((1 : Int), [(3 : Int), (3 : Int)]))) (fun r6_1344 =>
    bindO (
      if (decide (r6_1344.2 = (0 : Int))) = true then
        let t14_1347 : Bool := (decide ((r6_1344.1.length : Int) = (8 : Int)))
        if t14_1347 = true then
          gate (inR (6 : Int) (r6_1344.1.length : Int)) (
            gate (inR (6 : Int) (r6_1344.1.length : Int)) (
              let t20_1348 : Bool := (decide ((getI (0 : Int) r6_1344.1 (6 : Int)) = (19 : Int)))
              some t20_1348) none) none
        else
          some false
      else
        some false) (fun (c0_1349 : Bool) =>
      some c0_1349) none) none
def slices_Equal_int.s0 {R : Type} (N : Nat) (s : R) (k0 : Unit → R) (kr : (Bool × Unit) → R) (c1368 : List Int × List Int × Int × Unit) (again : (Int × Unit) → R) (v1369 : Int × Unit) : R :=
  let s10_1370 : List Int := c1368.1
  let s21_1371 : List Int := c1368.2.1
  let v12_1372 : Int := c1368.2.2.1
  let v13_1373 : Int := v1369.1
  if (decide (v13_1373 < v12_1372)) = true then
    gate (inR v13_1373 (s10_1370.length : Int)) (
      gate (inR v13_1373 (s21_1371.length : Int)) (
        let t24_1374 : Bool := (!decide ((getI (0 : Int) s10_1370 v13_1373) = (getI (0 : Int) s21_1371 v13_1373)))
        if t24_1374 = true then
          kr (false, ())
        else
          again ((IntKind.wrap .i64 (v13_1373 + (1 : Int))), ())) s) s
  else
    k0 ()
def slices_Equal_int (N : Nat) (s10 : List Int) (s21 : List Int) : Option Bool :=
  let t10_1366 : Bool := (!decide ((s10.length : Int) = (s21.length : Int)))
  if t10_1366 = true then
    some false
  else
    iter (slices_Equal_int.s0 N none (fun (x1375 : Unit) =>
      some true) (fun (x1376 : Bool × Unit) =>
      let v4_1377 : Bool := x1376.1
      some v4_1377) (s10, s21, (s10.length : Int), ())) none N ((0 : Int), ())
def wrackkeep2_PixSmall_i0_slices_ContainsFunc_i0_slices_IndexFunc.s0 {R : Type} (N : Nat) (s : R) (k0 : (Int × Int × List Int × Int × Int × List Int × List Int × Int × Int × List Int × List Int × Int × Int × List Int × List Int × Int × Int × List Int × List Int × Unit) → R) (kr : (Int × Int × List Int × Int × Int × List Int × List Int × Int × Int × List Int × List Int × Int × Int × List Int × List Int × Int × Int × List Int × List Int × Int × Unit) → R) (c1553 : List Int × Int × Unit) (again : (Int × Int × List Int × Int × Int × List Int × List Int × Int × Int × List Int × List Int × Int × Int × List Int × List Int × Int × Int × List Int × List Int × Int × Unit) → R) (v1554 : Int × Int × List Int × Int × Int × List Int × List Int × Int × Int × List Int × List Int × Int × Int × List Int × List Int × Int × Int × List Int × List Int × Int × Unit) : R :=
  let s0_1555 : List Int := c1553.1
  let v7_1556 : Int := c1553.2.1
  let h1_1557 : Int := v1554.1
  let h1_1558 : Int := v1554.2.1
  let h1_1559 : List Int := v1554.2.2.1
  let h3_1560 : Int := v1554.2.2.2.1
  let h3_1561 : Int := v1554.2.2.2.2.1
  let h3_1562 : List Int := v1554.2.2.2.2.2.1
  let h4_1563 : List Int := v1554.2.2.2.2.2.2.1
  let h5_1564 : Int := v1554.2.2.2.2.2.2.2.1
  let h5_1565 : Int := v1554.2.2.2.2.2.2.2.2.1
  let h5_1566 : List Int := v1554.2.2.2.2.2.2.2.2.2.1
  let h7_1567 : List Int := v1554.2.2.2.2.2.2.2.2.2.2.1
  let h8_1568 : Int := v1554.2.2.2.2.2.2.2.2.2.2.2.1
  let h8_1569 : Int := v1554.2.2.2.2.2.2.2.2.2.2.2.2.1
  let h8_1570 : List Int := v1554.2.2.2.2.2.2.2.2.2.2.2.2.2.1
  let h9_1571 : List Int := v1554.2.2.2.2.2.2.2.2.2.2.2.2.2.2.1
  let h12_1572 : Int := v1554.2.2.2.2.2.2.2.2.2.2.2.2.2.2.2.1
  let h12_1573 : Int := v1554.2.2.2.2.2.2.2.2.2.2.2.2.2.2.2.2.1
  let h12_1574 : List Int := v1554.2.2.2.2.2.2.2.2.2.2.2.2.2.2.2.2.2.1
  let h13_1575 : List Int := v1554.2.2.2.2.2.2.2.2.2.2.2.2.2.2.2.2.2.2.1
  let v8_1576 : Int := v1554.2.2.2.2.2.2.2.2.2.2.2.2.2.2.2.2.2.2.2.1
  if (decide (v8_1576 < v7_1556)) = true then
    gate (inR v8_1576 (s0_1555.length : Int)) (
      gate (inR (0 : Int) (h1_1559.length : Int)) (
        gate (inR (0 : Int) (h1_1559.length : Int)) (
          let t9_1577 : Bool := (!decide ((getI (0 : Int) s0_1555 v8_1576) = (getI (0 : Int) h1_1559 (0 : Int))))
          if t9_1577 = true then
            kr (h1_1557, h1_1558, h1_1559, h3_1560, h3_1561, h3_1562, h4_1563, h5_1564, h5_1565, h5_1566, h7_1567, h8_1568, h8_1569, h8_1570, h9_1571, h12_1572, h12_1573, h12_1574, h13_1575, v8_1576, ())
          else
            again (h1_1557, h1_1558, h1_1559, h3_1560, h3_1561, h3_1562, h4_1563, h5_1564, h5_1565, h5_1566, h7_1567, h8_1568, h8_1569, h8_1570, h9_1571, h12_1572, h12_1573, h12_1574, h13_1575, (IntKind.wrap .i64 (v8_1576 + (1 : Int))), ())) s) s) s
  else
    k0 (h1_1557, h1_1558, h1_1559, h3_1560, h3_1561, h3_1562, h4_1563, h5_1564, h5_1565, h5_1566, h7_1567, h8_1568, h8_1569, h8_1570, h9_1571, h12_1572, h12_1573, h12_1574, h13_1575, ())
def wrackkeep2_PixSmall (N : Nat) (l0 : List Int) (k1 : Int) (side2 : Int) : Option Bool :=
  bindO (wrackkeep2_picture N l0) (fun r20_1474 =>
    bindO (wrackmake_Below N side2 (9 : Int)) (fun r22_1475 =>
      bindO (pix_Small N r20_1474 (1 : Int)) (fun r26_1476 =>
        bindO (pix_Apart N r20_1474 r20_1474 (IntKind.wrap .i64 ((1 : Int) + r22_1475))) (fun r33_1477 =>
          bindO (slices_Clone_byte N r20_1474.2.2) (fun r39_1478 =>
            bindO (wrackmake_Below N k1 (r39_1478.length : Int)) (fun r45_1479 =>
              gate (inR r45_1479 (r39_1478.length : Int)) (
                gate (inR r45_1479 (r39_1478.length : Int)) (
                  let t54_1480 : Int := (IntKind.wrap .u8 ((getI (0 : Int) r39_1478 r45_1479) + (1 : Int)))
                  gate (decide ((16 : Int) ≠ 0)) (
                    gate (inR r45_1479 (r39_1478.length : Int)) (
                      gate (inR r45_1479 (r39_1478.length : Int)) (
                        let bx_1481 : List Int := (r39_1478.set (r45_1479).toNat (Int.tmod t54_1480 (16 : Int)))
                        bindO (pix_Apart N r20_1474 (r20_1474.1, (r20_1474.2.1, bx_1481)) (IntKind.wrap .i64 ((1 : Int) + r22_1475))) (fun r61_1482 =>
                          let t67_1483 : Int := (IntKind.wrap .i64 (r20_1474.1 + (IntKind.wrap .i64 ((1 : Int) + r22_1475))))
                          gate (decide ((IntKind.wrap .i64 ((1 : Int) + r22_1475)) ≠ 0)) (
                            let t70_1484 : Int := (IntKind.wrap .i64 (Int.tdiv (IntKind.wrap .i64 (t67_1483 - (1 : Int))) (IntKind.wrap .i64 ((1 : Int) + r22_1475))))
                            gate (inR (0 : Int) (r20_1474.2.2.length : Int)) (
                              gate (inR (0 : Int) (r20_1474.2.2.length : Int)) (
                                bindO (slices_Repeat_byte N [(getI (0 : Int) r20_1474.2.2 (0 : Int))] (r20_1474.2.2.length : Int)) (fun r80_1485 =>
                                  bindO (pix_Small N (r20_1474.1, (r20_1474.2.1, r80_1485)) (IntKind.wrap .i64 ((1 : Int) + r22_1475))) (fun r85_1486 =>
                                    bindO (
                                      bindO (wrackkeep2_drawn N) (fun r88_1490 =>
                                        if (!r88_1490) = true then
                                          some true
                                        else
                                          if (!decide (r26_1476.2 = (0 : Int))) = true then
                                            some true
                                          else
                                            if (!decide (r33_1477.2 = (0 : Int))) = true then
                                              some true
                                            else
                                              if (!decide (r61_1482.2 = (0 : Int))) = true then
                                                some true
                                              else
                                                if (!decide (r85_1486.2 = (0 : Int))) = true then
                                                  some true
                                                else
                                                  bindO (slices_Equal_byte N r26_1476.1.2.2 r20_1474.2.2) (fun r111_1491 =>
                                                    if (!r111_1491) = true then
                                                      some true
                                                    else
                                                      let t117_1492 : Bool := (decide ((r33_1477.1.length : Int) > (0 : Int)))
                                                      some t117_1492) none) none) (fun (c118_1493 : Bool) =>
                                      if c118_1493 = true then
                                        some false
                                      else
                                        gate (decide (r20_1474.1 ≠ 0)) (
                                          let t123_1544 : Int := (IntKind.wrap .i64 (Int.tdiv r45_1479 r20_1474.1))
                                          gate (decide ((IntKind.wrap .i64 ((1 : Int) + r22_1475)) ≠ 0)) (
                                            let t125_1545 : Int := (IntKind.wrap .i64 (Int.tdiv t123_1544 (IntKind.wrap .i64 ((1 : Int) + r22_1475))))
                                            gate (decide (r20_1474.1 ≠ 0)) (
                                              gate (decide ((IntKind.wrap .i64 ((1 : Int) + r22_1475)) ≠ 0)) (
                                                let t133_1546 : Int := (IntKind.wrap .i64 (Int.tdiv (Int.tmod r45_1479 r20_1474.1) (IntKind.wrap .i64 ((1 : Int) + r22_1475))))
                                                let t134_1547 : Int := (IntKind.wrap .i64 ((IntKind.wrap .i64 (t125_1545 * t70_1484)) + t133_1546))
                                                bindO (slices_Equal_int N r61_1482.1 [t134_1547]) (fun r136_1548 =>
                                                  if r136_1548 = true then
                                                    let t145_1549 : Int := (IntKind.wrap .i64 (r85_1486.1.1 * r85_1486.1.2.1))
                                                    let t146_1550 : Bool := (decide ((r85_1486.1.2.2.length : Int) = t145_1549))
                                                    if t146_1550 = true then
                                                      let t152_1551 : Bool := (decide ((r85_1486.1.2.2.length : Int) > (0 : Int)))
                                                      if t152_1551 = true then
                                                        iter (wrackkeep2_PixSmall_i0_slices_ContainsFunc_i0_slices_IndexFunc.s0 N none (fun (x1578 : Int × Int × List Int × Int × Int × List Int × List Int × Int × Int × List Int × List Int × Int × Int × List Int × List Int × Int × Int × List Int × List Int × Unit) =>
                                                          let h1_1579 : Int := x1578.1
                                                          let h1_1580 : Int := x1578.2.1
                                                          let h1_1581 : List Int := x1578.2.2.1
                                                          let h3_1582 : Int := x1578.2.2.2.1
                                                          let h3_1583 : Int := x1578.2.2.2.2.1
                                                          let h3_1584 : List Int := x1578.2.2.2.2.2.1
                                                          let h4_1585 : List Int := x1578.2.2.2.2.2.2.1
                                                          let h5_1586 : Int := x1578.2.2.2.2.2.2.2.1
                                                          let h5_1587 : Int := x1578.2.2.2.2.2.2.2.2.1
                                                          let h5_1588 : List Int := x1578.2.2.2.2.2.2.2.2.2.1
                                                          let h7_1589 : List Int := x1578.2.2.2.2.2.2.2.2.2.2.1
                                                          let h8_1590 : Int := x1578.2.2.2.2.2.2.2.2.2.2.2.1
                                                          let h8_1591 : Int := x1578.2.2.2.2.2.2.2.2.2.2.2.2.1
                                                          let h8_1592 : List Int := x1578.2.2.2.2.2.2.2.2.2.2.2.2.2.1
                                                          let h9_1593 : List Int := x1578.2.2.2.2.2.2.2.2.2.2.2.2.2.2.1
                                                          let h12_1594 : Int := x1578.2.2.2.2.2.2.2.2.2.2.2.2.2.2.2.1
                                                          let h12_1595 : Int := x1578.2.2.2.2.2.2.2.2.2.2.2.2.2.2.2.2.1
                                                          let h12_1596 : List Int := x1578.2.2.2.2.2.2.2.2.2.2.2.2.2.2.2.2.2.1
                                                          let h13_1597 : List Int := x1578.2.2.2.2.2.2.2.2.2.2.2.2.2.2.2.2.2.2.1
                                                          some (!(decide ((-1 : Int) ≥ (0 : Int))))) (fun (x1598 : Int × Int × List Int × Int × Int × List Int × List Int × Int × Int × List Int × List Int × Int × Int × List Int × List Int × Int × Int × List Int × List Int × Int × Unit) =>
                                                          let h1_1599 : Int := x1598.1
                                                          let h1_1600 : Int := x1598.2.1
                                                          let h1_1601 : List Int := x1598.2.2.1
                                                          let h3_1602 : Int := x1598.2.2.2.1
                                                          let h3_1603 : Int := x1598.2.2.2.2.1
                                                          let h3_1604 : List Int := x1598.2.2.2.2.2.1
                                                          let h4_1605 : List Int := x1598.2.2.2.2.2.2.1
                                                          let h5_1606 : Int := x1598.2.2.2.2.2.2.2.1
                                                          let h5_1607 : Int := x1598.2.2.2.2.2.2.2.2.1
                                                          let h5_1608 : List Int := x1598.2.2.2.2.2.2.2.2.2.1
                                                          let h7_1609 : List Int := x1598.2.2.2.2.2.2.2.2.2.2.1
                                                          let h8_1610 : Int := x1598.2.2.2.2.2.2.2.2.2.2.2.1
                                                          let h8_1611 : Int := x1598.2.2.2.2.2.2.2.2.2.2.2.2.1
                                                          let h8_1612 : List Int := x1598.2.2.2.2.2.2.2.2.2.2.2.2.2.1
                                                          let h9_1613 : List Int := x1598.2.2.2.2.2.2.2.2.2.2.2.2.2.2.1
                                                          let h12_1614 : Int := x1598.2.2.2.2.2.2.2.2.2.2.2.2.2.2.2.1
                                                          let h12_1615 : Int := x1598.2.2.2.2.2.2.2.2.2.2.2.2.2.2.2.2.1
                                                          let h12_1616 : List Int := x1598.2.2.2.2.2.2.2.2.2.2.2.2.2.2.2.2.2.1
                                                          let h13_1617 : List Int := x1598.2.2.2.2.2.2.2.2.2.2.2.2.2.2.2.2.2.2.1
                                                          let v4_1618 : Int := x1598.2.2.2.2.2.2.2.2.2.2.2.2.2.2.2.2.2.2.2.1
                                                          some (!(decide (v4_1618 ≥ (0 : Int))))) (r85_1486.1.2.2, (r85_1486.1.2.2.length : Int), ())) none N (r20_1474.1, r20_1474.2.1, r20_1474.2.2, r26_1476.1.1, r26_1476.1.2.1, r26_1476.1.2.2, r33_1477.1, r20_1474.1, r20_1474.2.1, bx_1481, r61_1482.1, r20_1474.1, r20_1474.2.1, r80_1485, [(getI (0 : Int) r20_1474.2.2 (0 : Int))], r85_1486.1.1, r85_1486.1.2.1, r85_1486.1.2.2, [t134_1547], (0 : Int), ())
                                                      else
                                                        some false
                                                    else
                                                      some false
                                                  else
                                                    some false) none) none) none) none) none) none) none) none) none) none) none) none) none) none) none) none) none) none) none) none) none) none) none
end Go.Proofs.Yteekijpcdcpjkaa
