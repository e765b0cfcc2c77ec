import Derived.Test.YteekijpcdcpjkaaDoorAbIterFn
import Derived.Test.YteekijpcdcpjkaaDoorAbStrFn
import Derived.Test.YteekijpcdcpjkaaDoorAbDen
set_option linter.unusedVariables false
namespace Go.Proofs.YteekijpcdcpjkaaDoor
open Go Go.Ab
def wrackmake_Below (N : Nat) (x0 : Int) (n1 : Int) : Option Int :=
  gate (decide (n1 ≠ 0)) (
    if (decide ((Int.tmod x0 n1) < (0 : Int))) = true then
      some (IntKind.wrap .i64 ((Int.tmod x0 n1) + n1))
    else
      some (Int.tmod x0 n1)) none
def wrackmake_Stream_Next (N : Nat) (s0 : List Int × Unit) (n1 : Int) : Option (Int × (List Int × Unit)) :=
  bindO (
    if (decide ((s0.1.length : Int) = (0 : Int))) = true then
      some true
    else
      some (decide (n1 < (1 : Int)))) (fun (c15_3 : Bool) =>
    if c15_3 = true then
      some ((0 : Int), (s0.1, ()))
    else
      gate (inR (0 : Int) (s0.1.length : Int)) (
        gate (bounds (s0.1.length : Int) (1 : Int) (s0.1.length : Int)) (
          bindO (wrackmake_Below N (getI (0 : Int) s0.1 (0 : Int)) n1) (fun r32_4 =>
            some (r32_4, ((cut s0.1 (1 : Int) (s0.1.length : Int)), ()))) none) none) none) none
def wrackmake_data.s1 {R : Type} (N : Nat) (s : R) (k2 : (List Int × List Int × Unit) → R) (c79 : Int × Int × Int × Unit) (again : (List Int × List Int × Int × Unit) → R) (v80 : List Int × List Int × Int × Unit) : R :=
  let n6_81 : Int := c79.1
  let c7_82 : Int := c79.2.1
  let v29_83 : Int := c79.2.2.1
  let h0_84 : List Int := v80.1
  let out5_85 : List Int := v80.2.1
  let v30_86 : Int := v80.2.2.1
  if (decide (v30_86 < v29_83)) = true then
    gate (roomFor (out5_85.length + [c7_82].length) 1) (
      again (h0_84, (out5_85 ++ [c7_82]), (IntKind.wrap .i64 (v30_86 + (1 : Int))), ())) s
  else
    k2 (h0_84, out5_85, ())
def wrackmake_data.s0 {R : Type} (N : Nat) (s : R) (k0 : (List Int × List Int × Unit) → R) (c65 : Int × Unit) (again : (List Int × List Int × Unit) → R) (v66 : List Int × List Int × Unit) : R :=
  let n6_67 : Int := c65.1
  let h0_68 : List Int := v66.1
  let out5_69 : List Int := v66.2.1
  if (decide ((out5_69.length : Int) < n6_67)) = true then
    bindO (wrackmake_Stream_Next N (h0_68, ()) (256 : Int)) (fun r19_70 =>
      bindO (wrackmake_Stream_Next N (r19_70.2.1, ()) (3 : Int)) (fun r22_71 =>
        bindO ((
          if (decide (r22_71.1 > (0 : Int))) = true then
            bindO (wrackmake_Stream_Next N (r22_71.2.1, ()) (5 : Int)) (fun r25_73 =>
              gate (inR r25_73.1 ([97, 98, 99, 32, 0].length : Int)) (
                some (r25_73.2.1, out5_69, (getI 0 [97, 98, 99, 32, 0] r25_73.1), ())) none) none
          else
            some (r22_71.2.1, out5_69, (IntKind.wrap .u8 (r19_70.1)), ()) : Option (List Int × List Int × Int × Unit))) (fun j74 =>
          let h0_75 : List Int := j74.1
          let out5_76 : List Int := j74.2.1
          let c7_77 : Int := j74.2.2.1
          bindO (wrackmake_Stream_Next N (h0_75, ()) (9 : Int)) (fun r28_78 =>
            iter (wrackmake_data.s1 N s (fun (x87 : List Int × List Int × Unit) =>
              let h0_88 : List Int := x87.1
              let out5_89 : List Int := x87.2.1
              again (h0_88, out5_89, ())) (n6_67, c7_77, (IntKind.wrap .i64 ((1 : Int) + r28_78.1)), ())) s N (r28_78.2.1, out5_76, (0 : Int), ())) s) s) s) s
  else
    k0 (h0_68, out5_69, ())
def wrackmake_data (N : Nat) (s0 : List Int × Unit) (most1 : Int) : Option ((List Int) × (List Int × Unit)) :=
  let t12_40 : Int := (IntKind.wrap .i64 ((maxI (0 : Int) (minI most1 (65536 : Int))) + (1 : Int)))
  bindO (wrackmake_Stream_Next N (s0.1, ()) t12_40) (fun r13_41 =>
    iter (wrackmake_data.s0 N none (fun (x90 : List Int × List Int × Unit) =>
      let h0_91 : List Int := x90.1
      let out5_92 : List Int := x90.2.1
      gate (bounds (out5_92.length : Int) (0 : Int) r13_41.1 && decide (r13_41.1 = r13_41.1)) (
        some ((cut out5_92 (0 : Int) r13_41.1), (h0_91, ()))) none) (r13_41.1, ())) none N (r13_41.2.1, [], ())) none
def wrackmake_Bytes (N : Nat) (l0 : List Int) (most1 : Int) : Option (List Int) :=
  bindO (wrackmake_data N (l0, ()) most1) (fun r9_94 =>
    some r9_94.1) none
def wrackkeep2_items.s0 {R : Type} (N : Nat) (s : R) (k0 : (List (List Int × List Int) × Unit) → R) (c122 : Int × Unit) (again : (List (List Int × List Int) × Int × List Int × Unit) → R) (v123 : List (List Int × List Int) × Int × List Int × Unit) : R :=
  let v10_124 : Int := c122.1
  let out4_125 : List (List Int × List Int) := v123.1
  let v11_126 : Int := v123.2.1
  let m0_127 : List Int := v123.2.2.1
  if (decide (v11_126 < v10_124)) = true then
    let t17_128 : Int := (IntKind.wrap .i32 ((IntKind.wrap .i64 ((97 : Int) + v11_126))))
    gate (decide (0 ≤ t17_128 ∧ t17_128 < 128)) (
      gate (decide ([100, 47, 102].length + [t17_128].length ≤ 140737488355328)) (
        bindO (wrackmake_Stream_Next N (m0_127, ()) (1000 : Int)) (fun r21_129 =>
          bindO (wrackmake_Stream_Next N (r21_129.2.1, ()) (1000 : Int)) (fun r23_130 =>
            bindO (wrackmake_Stream_Next N (r23_130.2.1, ()) (1000 : Int)) (fun r25_131 =>
              bindO (wrackmake_Stream_Next N (r25_131.2.1, ()) (1000 : Int)) (fun r27_132 =>
                bindO (wrackmake_Stream_Next N (r27_132.2.1, ()) (90 : Int)) (fun r30_133 =>
                  bindO (wrackmake_Bytes N [r21_129.1, r23_130.1, r25_131.1, r27_132.1] r30_133.1) (fun r31_134 =>
                    gate (roomFor (out4_125.length + [(([100, 47, 102] ++ [t17_128]), r31_134)].length) 40) (
                      let b34_135 : List (List Int × List Int) := (out4_125 ++ [(([100, 47, 102] ++ [t17_128]), r31_134)])
                      again (b34_135, (IntKind.wrap .i64 (v11_126 + (1 : Int))), r30_133.2.1, ())) s) s) s) s) s) s) s) s) s
  else
    k0 (out4_125, ())
def wrackkeep2_items (N : Nat) (l0 : List Int) : Option (List (List Int × List Int)) :=
  bindO (wrackmake_Stream_Next N (l0, ()) (6 : Int)) (fun r10_106 =>
    iter (wrackkeep2_items.s0 N none (fun (x136 : List (List Int × List Int) × Unit) =>
      let out4_137 : List (List Int × List Int) := x136.1
      some out4_137) (r10_106.1, ())) none N ([], (0 : Int), r10_106.2.1, ())) none
def strings_Split (N : Nat) (s0 : List Int) (sep1 : List Int) : Option (List (List Int)) :=
  bindO (genSplitF s0 sep1 (0 : Int) (-1 : Int)) (fun r7_140 =>
    some r7_140) none
def fs_Named.s0 {R : Type} (N : Nat) (s : R) (k0 : Unit → R) (kr : (Bool × Unit) → R) (c157 : List Int × Int × Unit) (again : (Int × Unit) → R) (v158 : Int × Unit) : R :=
  let s0_159 : List Int := c157.1
  let v23_160 : Int := c157.2.1
  let v24_161 : Int := v158.1
  if (decide (v24_161 < v23_160)) = true then
    gate (inR v24_161 (s0_159.length : Int)) (
      bindO (
        let t31_172 : Bool := (decide ((getI 0 s0_159 v24_161) < (97 : Int)))
        if t31_172 = true then
          let t38_173 : Bool := (decide ((getI 0 s0_159 v24_161) < (48 : Int)))
          if t38_173 = true then
            let t46_174 : Bool := (!decide ((getI 0 s0_159 v24_161) = (45 : Int)))
            some t46_174
          else
            let t41_175 : Bool := (decide ((getI 0 s0_159 v24_161) > (57 : Int)))
            if t41_175 = true then
              let t46_176 : Bool := (!decide ((getI 0 s0_159 v24_161) = (45 : Int)))
              some t46_176
            else
              some false
        else
          let t34_177 : Bool := (decide ((getI 0 s0_159 v24_161) > (122 : Int)))
          if t34_177 = true then
            let t38_178 : Bool := (decide ((getI 0 s0_159 v24_161) < (48 : Int)))
            if t38_178 = true then
              let t46_179 : Bool := (!decide ((getI 0 s0_159 v24_161) = (45 : Int)))
              some t46_179
            else
              let t41_180 : Bool := (decide ((getI 0 s0_159 v24_161) > (57 : Int)))
              if t41_180 = true then
                let t46_181 : Bool := (!decide ((getI 0 s0_159 v24_161) = (45 : Int)))
                some t46_181
              else
                some false
          else
            some false) (fun (c47_182 : Bool) =>
        if c47_182 = true then
          kr (false, ())
        else
          again ((IntKind.wrap .i64 (v24_161 + (1 : Int))), ())) s) s
  else
    k0 ()
def fs_Named (N : Nat) (s0 : List Int) : Option Bool :=
  bindO (
    if (decide (s0 = [])) = true then
      some true
    else
      if (decide ((s0.length : Int) > (12 : Int))) = true then
        some true
      else
        gate (inR (0 : Int) (s0.length : Int)) (
          let t15_153 : Bool := (decide ((getI 0 s0 (0 : Int)) < (97 : Int)))
          if t15_153 = true then
            some true
          else
            gate (inR (0 : Int) (s0.length : Int)) (
              let t20_154 : Bool := (decide ((getI 0 s0 (0 : Int)) > (122 : Int)))
              some t20_154) none) none) (fun (c21_155 : Bool) =>
    if c21_155 = true then
      some false
    else
      iter (fs_Named.s0 N none (fun (x183 : Unit) =>
        some true) (fun (x184 : Bool × Unit) =>
        let v2_185 : Bool := x184.1
        some v2_185) (s0, (s0.length : Int), ())) none N ((0 : Int), ())) none
def fs_Path_1 (N : Nat) (x0 : List Int) : Option Bool :=
  bindO (fs_Named N x0) (fun r4_187 =>
    some (!r4_187)) none
def fs_Path_i0_slices_ContainsFunc_i0_slices_IndexFunc.s0 {R : Type} (N : Nat) (s : R) (k0 : Unit → R) (kr : (Int × Unit) → R) (c202 : List (List Int) × Int × Unit) (again : (Int × Unit) → R) (v203 : Int × Unit) : R :=
  let s0_204 : List (List Int) := c202.1
  let v7_205 : Int := c202.2.1
  let v8_206 : Int := v203.1
  if (decide (v8_206 < v7_205)) = true then
    gate (inR v8_206 (s0_204.length : Int)) (
      bindO (fs_Path_1 N (getI [] s0_204 v8_206)) (fun r16_207 =>
        if r16_207 = true then
          kr (v8_206, ())
        else
          again ((IntKind.wrap .i64 (v8_206 + (1 : Int))), ())) s) s
  else
    k0 ()
def fs_Path (N : Nat) (s0 : List Int) : Option Int :=
  bindO (strings_Split N s0 [47]) (fun r5_196 =>
    if (decide ((r5_196.length : Int) > (4 : Int))) = true then
      some (6 : Int)
    else
      iter (fs_Path_i0_slices_ContainsFunc_i0_slices_IndexFunc.s0 N none (fun (x208 : Unit) =>
        if (decide ((-1 : Int) ≥ (0 : Int))) = true then
          some (6 : Int)
        else
          some (0 : Int)) (fun (x209 : Int × Unit) =>
        let v4_210 : Int := x209.1
        if (decide (v4_210 ≥ (0 : Int))) = true then
          some (6 : Int)
        else
          some (0 : Int)) (r5_196, (r5_196.length : Int), ())) none N ((0 : Int), ())) none
def arch_Check_i0_slices_ContainsFunc_i0_slices_IndexFunc.s0 {R : Type} (N : Nat) (s : R) (k0 : (List Int × List Int × Unit) → R) (kr : (List Int × List Int × Int × Unit) → R) (c241 : List (List Int × List Int) × Int × Unit) (again : (List Int × List Int × Int × Unit) → R) (v242 : List Int × List Int × Int × Unit) : R :=
  let s0_243 : List (List Int × List Int) := c241.1
  let v7_244 : Int := c241.2.1
  let h0_245 : List Int := v242.1
  let h0_246 : List Int := v242.2.1
  let v8_247 : Int := v242.2.2.1
  if (decide (v8_247 < v7_244)) = true then
    gate (inR v8_247 (s0_243.length : Int)) (
      let t8_248 : Bool := (decide ((getI ([], []) s0_243 v8_247).1 = h0_245))
      if t8_248 = true then
        kr (h0_245, h0_246, v8_247, ())
      else
        again (h0_245, h0_246, (IntKind.wrap .i64 (v8_247 + (1 : Int))), ())) s
  else
    k0 (h0_245, h0_246, ())
def arch_Check.s0 {R : Type} (N : Nat) (s : R) (k0 : Unit → R) (kr : (Int × Unit) → R) (c232 : List (List Int × List Int) × List (List Int × List Int) × Int × Unit) (again : (Int × Unit) → R) (v233 : Int × Unit) : R :=
  let l0_234 : List (List Int × List Int) := c232.1
  let v8_235 : List (List Int × List Int) := c232.2.1
  let v9_236 : Int := c232.2.2.1
  let v10_237 : Int := v233.1
  if (decide (v10_237 < v9_236)) = true then
    gate (inR v10_237 (v8_235.length : Int)) (
      bindO (fs_Path N ((getI ([], []) v8_235 v10_237).1)) (fun r18_238 =>
        if (!decide (r18_238 = (0 : Int))) = true then
          kr ((6 : Int), ())
        else
          let t23_239 : Int := (((getI ([], []) v8_235 v10_237).2).length : Int)
          if (decide (t23_239 > (2048 : Int))) = true then
            kr ((2 : Int), ())
          else
            gate (bounds (l0_234.length : Int) (0 : Int) v10_237) (
              let t7_240 : Int := ((cut l0_234 (0 : Int) v10_237).length : Int)
              iter (arch_Check_i0_slices_ContainsFunc_i0_slices_IndexFunc.s0 N s (fun (x249 : List Int × List Int × Unit) =>
                let h0_250 : List Int := x249.1
                let h0_251 : List Int := x249.2.1
                if (decide ((-1 : Int) ≥ (0 : Int))) = true then
                  kr ((7 : Int), ())
                else
                  again ((IntKind.wrap .i64 (v10_237 + (1 : Int))), ())) (fun (x252 : List Int × List Int × Int × Unit) =>
                let h0_253 : List Int := x252.1
                let h0_254 : List Int := x252.2.1
                let v4_255 : Int := x252.2.2.1
                if (decide (v4_255 ≥ (0 : Int))) = true then
                  kr ((7 : Int), ())
                else
                  again ((IntKind.wrap .i64 (v10_237 + (1 : Int))), ())) ((cut l0_234 (0 : Int) v10_237), t7_240, ())) s N ((getI ([], []) v8_235 v10_237).1, (getI ([], []) v8_235 v10_237).2, (0 : Int), ())) s) s) s
  else
    k0 ()
def arch_Check (N : Nat) (l0 : List (List Int × List Int)) : Option Int :=
  if (decide ((l0.length : Int) > (30 : Int))) = true then
    some (9 : Int)
  else
    iter (arch_Check.s0 N none (fun (x256 : Unit) =>
      some (0 : Int)) (fun (x257 : Int × Unit) =>
      let v2_258 : Int := x257.1
      some v2_258) (l0, l0, (l0.length : Int), ())) none N ((0 : Int), ())
def arch_bytes.s0 {R : Type} (N : Nat) (s : R) (k0 : (List Int × Unit) → R) (c269 : Int × Int × Unit) (again : (List Int × Int × Unit) → R) (v270 : List Int × Int × Unit) : R :=
  let n0_271 : Int := c269.1
  let v10_272 : Int := c269.2.1
  let b5_273 : List Int := v270.1
  let v11_274 : Int := v270.2.1
  if (decide (v11_274 < v10_272)) = true then
    gate (decide (0 ≤ (IntKind.wrap .i64 ((8 : Int) * v11_274)))) (
      let t19_275 : Int := (shrI .i64 n0_271 (IntKind.wrap .i64 ((8 : Int) * v11_274)))
      gate (inR v11_274 (b5_273.length : Int)) (
        gate (inR v11_274 (b5_273.length : Int)) (
          let bx_276 : List Int := (b5_273.set (v11_274).toNat (IntKind.wrap .u8 (t19_275)))
          again (bx_276, (IntKind.wrap .i64 (v11_274 + (1 : Int))), ())) s) s) s
  else
    k0 (b5_273, ())
def arch_bytes (N : Nat) (n0 : Int) (many1 : Int) : Option (List Int) :=
  gate (decide (0 ≤ many1 ∧ many1 ≤ many1) && roomFor (many1).toNat 1) (
    let t10_266 : Int := ((List.replicate (many1).toNat (0 : Int)).length : Int)
    iter (arch_bytes.s0 N none (fun (x277 : List Int × Unit) =>
      let b5_278 : List Int := x277.1
      some b5_278) (n0, t10_266, ())) none N ((List.replicate (many1).toNat (0 : Int)), (0 : Int), ())) none
def arch_Pack.s1 {R : Type} (N : Nat) (s : R) (k2 : (List Int × Int × Unit) → R) (c364 : List Int × Int × Unit) (again : (List Int × Int × Unit) → R) (v365 : List Int × Int × Unit) : R :=
  let b0_366 : List Int := c364.1
  let i4_367 : Int := c364.2.1
  let out3_368 : List Int := v365.1
  let n5_369 : Int := v365.2.1
  bindO (
    if (decide (n5_369 < (255 : Int))) = true then
      let t18_373 : Bool := (decide ((IntKind.wrap .i64 (i4_367 + n5_369)) < (b0_366.length : Int)))
      if t18_373 = true then
        gate (inR (IntKind.wrap .i64 (i4_367 + n5_369)) (b0_366.length : Int)) (
          let t25_374 : Int := (getI (0 : Int) b0_366 (IntKind.wrap .i64 (i4_367 + n5_369)))
          gate (inR i4_367 (b0_366.length : Int)) (
            let t31_375 : Bool := (decide (t25_374 = (getI (0 : Int) b0_366 i4_367)))
            some t31_375) none) none
      else
        some false
    else
      some false) (fun (c32_376 : Bool) =>
    if c32_376 = true then
      again (out3_368, (IntKind.wrap .i64 (n5_369 + (1 : Int))), ())
    else
      k2 (out3_368, n5_369, ())) s
def arch_Pack.s0 {R : Type} (N : Nat) (s : R) (k0 : (List Int × Unit) → R) (c346 : List Int × Unit) (again : (List Int × Int × Unit) → R) (v347 : List Int × Int × Unit) : R :=
  let b0_348 : List Int := c346.1
  let out3_349 : List Int := v347.1
  let i4_350 : Int := v347.2.1
  if (decide (i4_350 < (b0_348.length : Int))) = true then
    iter (arch_Pack.s1 N s (fun (x377 : List Int × Int × Unit) =>
      let out3_378 : List Int := x377.1
      let n5_379 : Int := x377.2.1
      gate (inR i4_350 (b0_348.length : Int)) (
        let b42_380 : List Int := [(IntKind.wrap .u8 (n5_379)), (getI (0 : Int) b0_348 i4_350)]
        gate (roomFor (out3_378.length + b42_380.length) 1) (
          again ((out3_378 ++ b42_380), (IntKind.wrap .i64 (i4_350 + n5_379)), ())) s) s) (b0_348, i4_350, ())) s N (out3_349, (1 : Int), ())
  else
    k0 (out3_349, ())
def arch_Pack (N : Nat) (b0 : List Int) : Option (List Int) :=
  iter (arch_Pack.s0 N none (fun (x381 : List Int × Unit) =>
    let out3_382 : List Int := x381.1
    some out3_382) (b0, ())) none N ([], (0 : Int), ())
def sum_Crc.s1 {R : Type} (N : Nat) (s : R) (k2 : (Int × Unit) → R) (c416 : List Int × Int × Int × Unit) (again : (Int × Int × Unit) → R) (v417 : Int × Int × Unit) : R :=
  let v6_418 : List Int := c416.1
  let v7_419 : Int := c416.2.1
  let v8_420 : Int := c416.2.2.1
  let c3_421 : Int := v417.1
  let v16_422 : Int := v417.2.1
  if (decide (v16_422 < (8 : Int))) = true then
    gate (decide (0 ≤ (1 : Int))) (
      let t22_423 : Int := (IntKind.wrap .u32 ((bitAnd .u32 c3_421 (1 : Int)) * (3988292384 : Int)))
      let t23_424 : Int := (bitXor .u32 (shrI .u32 c3_421 (1 : Int)) t22_423)
      again (t23_424, (IntKind.wrap .i64 (v16_422 + (1 : Int))), ())) s
  else
    k2 (c3_421, ())
def sum_Crc.s0 {R : Type} (N : Nat) (s : R) (k0 : (Int × Unit) → R) (c407 : List Int × Int × Unit) (again : (Int × Int × Unit) → R) (v408 : Int × Int × Unit) : R :=
  let v6_409 : List Int := c407.1
  let v7_410 : Int := c407.2.1
  let c3_411 : Int := v408.1
  let v8_412 : Int := v408.2.1
  if (decide (v8_412 < v7_410)) = true then
    gate (inR v8_412 (v6_409.length : Int)) (
      let t14_413 : Int := (IntKind.wrap .u32 ((getI (0 : Int) v6_409 v8_412)))
      iter (sum_Crc.s1 N s (fun (x425 : Int × Unit) =>
        let c3_426 : Int := x425.1
        again (c3_426, (IntKind.wrap .i64 (v8_412 + (1 : Int))), ())) (v6_409, v7_410, v8_412, ())) s N ((bitXor .u32 c3_411 t14_413), (0 : Int), ())) s
  else
    k0 (c3_411, ())
def sum_Crc (N : Nat) (b0 : List Int) : Option Int :=
  iter (sum_Crc.s0 N none (fun (x427 : Int × Unit) =>
    let c3_428 : Int := x427.1
    let t28_429 : Int := (IntKind.wrap .i64 ((bitXor .u32 4294967295 c3_428)))
    some t28_429) (b0, (b0.length : Int), ())) none N ((4294967295 : Int), (0 : Int), ())
def arch_entry (N : Nat) (x0 : List Int × List Int) : Option (List Int) :=
  bindO (arch_Pack N x0.2) (fun r10_432 =>
    let t15_433 : Bool := (decide ((r10_432.length : Int) < (x0.2.length : Int)))
    bindO ((
      if t15_433 = true then
        some ((1 : Int), r10_432, x0.1, x0.2, ())
      else
        some ((0 : Int), x0.2, x0.1, x0.2, ()) : Option (Int × List Int × List Int × List Int × Unit))) (fun j434 =>
      let way3_435 : Int := j434.1
      let data4_436 : List Int := j434.2.1
      let m0_437 : List Int := j434.2.2.1
      let m0_438 : List Int := j434.2.2.2.1
      let b22_439 : List Int := [(105 : Int), way3_435, (IntKind.wrap .u8 ((m0_437.length : Int)))]
      gate (roomFor (b22_439.length + m0_437.length) 1) (
        bindO (arch_bytes N (m0_438.length : Int) (2 : Int)) (fun r30_440 =>
          gate (roomFor ((b22_439 ++ m0_437).length + r30_440.length) 1) (
            bindO (arch_bytes N (data4_436.length : Int) (2 : Int)) (fun r35_441 =>
              gate (roomFor (((b22_439 ++ m0_437) ++ r30_440).length + r35_441.length) 1) (
                let b36_442 : List Int := (((b22_439 ++ m0_437) ++ r30_440) ++ r35_441)
                bindO (sum_Crc N m0_438) (fun r40_443 =>
                  bindO (arch_bytes N r40_443 (4 : Int)) (fun r41_444 =>
                    gate (roomFor (b36_442.length + r41_444.length) 1) (
                      gate (roomFor ((b36_442 ++ r41_444).length + data4_436.length) 1) (
                        some ((b36_442 ++ r41_444) ++ data4_436)) none) none) none) none) none) none) none) none) none) none) none
def arch_Make.s0 {R : Type} (N : Nat) (s : R) (k0 : (List Int × List Int × Unit) → R) (c476 : List (List Int × List Int) × Int × Unit) (again : (List Int × List Int × Int × Unit) → R) (v477 : List Int × List Int × Int × Unit) : R :=
  let v19_478 : List (List Int × List Int) := c476.1
  let v20_479 : Int := c476.2.1
  let out5_480 : List Int := v477.1
  let dir6_481 : List Int := v477.2.1
  let v21_482 : Int := v477.2.2.1
  if (decide (v21_482 < v20_479)) = true then
    gate (inR v21_482 (v19_478.length : Int)) (
      bindO (arch_bytes N (out5_480.length : Int) (3 : Int)) (fun r28_483 =>
        gate (roomFor (dir6_481.length + r28_483.length) 1) (
          bindO (arch_entry N (getI ([], []) v19_478 v21_482)) (fun r32_484 =>
            gate (roomFor (out5_480.length + r32_484.length) 1) (
              again ((out5_480 ++ r32_484), (dir6_481 ++ r28_483), (IntKind.wrap .i64 (v21_482 + (1 : Int))), ())) s) s) s) s) s
  else
    k0 (out5_480, dir6_481, ())
def arch_Make (N : Nat) (l0 : List (List Int × List Int)) : Option (List Int × Int) :=
  bindO (arch_Check N l0) (fun r11_463 =>
    if (!decide (r11_463 = (0 : Int))) = true then
      some ([], r11_463)
    else
      let b18_464 : List Int := [(100 : Int), (IntKind.wrap .u8 ((l0.length : Int)))]
      iter (arch_Make.s0 N none (fun (x485 : List Int × List Int × Unit) =>
        let out5_486 : List Int := x485.1
        let dir6_487 : List Int := x485.2.1
        gate (roomFor (out5_486.length + dir6_487.length) 1) (
          gate (roomFor ((out5_486 ++ dir6_487).length + [(101 : Int)].length) 1) (
            bindO (arch_bytes N (out5_486.length : Int) (3 : Int)) (fun r45_488 =>
              gate (roomFor (((out5_486 ++ dir6_487) ++ [(101 : Int)]).length + r45_488.length) 1) (
                let b46_489 : List Int := (((out5_486 ++ dir6_487) ++ [(101 : Int)]) ++ r45_488)
                bindO (sum_Crc N dir6_487) (fun r49_490 =>
                  bindO (arch_bytes N r49_490 (4 : Int)) (fun r50_491 =>
                    gate (roomFor (b46_489.length + r50_491.length) 1) (
                      let t54_492 : Bool := (decide (((b46_489 ++ r50_491).length : Int) > (65536 : Int)))
                      if t54_492 = true then
                        some ([], (2 : Int))
                      else
                        some ((b46_489 ++ r50_491), (0 : Int))) none) none) none) none) none) none) none) (l0, (l0.length : Int), ())) none N ([], b18_464, (0 : Int), ())) none
def arch_number.r0 {R : Type} (N : Nat) (s : R) (c501 : Unit) (x503 : Int × Int) (again : (Int × Unit) → R) (v502 : Int × Unit) : R :=
  let m0_504 : Int := v502.1
  gate (decide (0 ≤ (8 : Int))) (
    let t14_505 : Int := (bitOr .i64 (shlI .i64 m0_504 (8 : Int)) (IntKind.wrap .i64 (x503.2)))
    again (t14_505, ())) s
def arch_number (N : Nat) (b0 : List Int) : Option Int :=
  bindO (backGo b0) (fun (l508 : List (Int × Int)) =>
    foldR (arch_number.r0 N none  ()) (fun (x506 : Int × Unit) =>
    let m0_507 : Int := x506.1
    some m0_507) l508 ((0 : Int), ())) none
def arch_Places.s0 {R : Type} (N : Nat) (s : R) (k0 : (List Int × Unit) → R) (c565 : Int × List Int × Int × Unit) (again : (List Int × Int × Unit) → R) (v566 : List Int × Int × Unit) : R :=
  let at6_567 : Int := c565.1
  let dir7_568 : List Int := c565.2.1
  let v65_569 : Int := c565.2.2.1
  let out8_570 : List Int := v566.1
  let v66_571 : Int := v566.2.1
  if (decide (v66_571 < v65_569)) = true then
    let t73_572 : Int := (IntKind.wrap .i64 ((2 : Int) + (IntKind.wrap .i64 ((3 : Int) * v66_571))))
    let t76_573 : Int := (IntKind.wrap .i64 ((5 : Int) + (IntKind.wrap .i64 ((3 : Int) * v66_571))))
    gate (bounds (dir7_568.length : Int) t73_572 t76_573) (
      bindO (arch_number N (cut dir7_568 t73_572 t76_573)) (fun r78_574 =>
        gate (roomFor (out8_570.length + [r78_574].length) 8) (
          again ((out8_570 ++ [r78_574]), (IntKind.wrap .i64 (v66_571 + (1 : Int))), ())) s) s) s
  else
    k0 (out8_570, ())
def arch_Places (N : Nat) (b0 : List Int) : Option (List Int × Int × Int) :=
  if (decide ((b0.length : Int) > (65536 : Int))) = true then
    some ([], ((0 : Int), (2 : Int)))
  else
    if (decide ((b0.length : Int) < (10 : Int))) = true then
      some ([], ((0 : Int), (15 : Int)))
    else
      let t19_537 : Int := (IntKind.wrap .i64 ((b0.length : Int) - (8 : Int)))
      gate (bounds (b0.length : Int) t19_537 (b0.length : Int)) (
        gate (bounds ((cut b0 t19_537 (b0.length : Int)).length : Int) (1 : Int) (4 : Int)) (
          let t22_538 : List Int := (cut (cut b0 t19_537 (b0.length : Int)) (1 : Int) (4 : Int))
          bindO (arch_number N t22_538) (fun r23_539 =>
            bindO (
              gate (inR (0 : Int) ((cut b0 t19_537 (b0.length : Int)).length : Int)) (
                let t25_542 : Int := (getI (0 : Int) (cut b0 t19_537 (b0.length : Int)) (0 : Int))
                if (!decide (t25_542 = (101 : Int))) = true then
                  some true
                else
                  let t32_543 : Int := (IntKind.wrap .i64 ((b0.length : Int) - (10 : Int)))
                  some (decide (r23_539 > t32_543))) none) (fun (c34_544 : Bool) =>
              if c34_544 = true then
                some ([], ((0 : Int), (3 : Int)))
              else
                let t39_545 : Int := (IntKind.wrap .i64 ((b0.length : Int) - (8 : Int)))
                gate (bounds (b0.length : Int) r23_539 t39_545) (
                  bindO (
                    gate (inR (0 : Int) ((cut b0 r23_539 t39_545).length : Int)) (
                      let t42_550 : Int := (getI (0 : Int) (cut b0 r23_539 t39_545) (0 : Int))
                      if (!decide (t42_550 = (100 : Int))) = true then
                        some true
                      else
                        gate (inR (1 : Int) ((cut b0 r23_539 t39_545).length : Int)) (
                          let t49_551 : Int := (getI (0 : Int) (cut b0 r23_539 t39_545) (1 : Int))
                          let t52_552 : Int := (IntKind.wrap .i64 ((3 : Int) * (IntKind.wrap .i64 (t49_551))))
                          let t54_553 : Bool := (!decide (((cut b0 r23_539 t39_545).length : Int) = (IntKind.wrap .i64 ((2 : Int) + t52_552))))
                          some t54_553) none) none) (fun (c55_554 : Bool) =>
                    if c55_554 = true then
                      some ([], ((0 : Int), (3 : Int)))
                    else
                      bindO (sum_Crc N (cut b0 r23_539 t39_545)) (fun r57_555 =>
                        gate (bounds ((cut b0 t19_537 (b0.length : Int)).length : Int) (4 : Int) ((cut b0 t19_537 (b0.length : Int)).length : Int)) (
                          let t59_556 : List Int := (cut (cut b0 t19_537 (b0.length : Int)) (4 : Int) ((cut b0 t19_537 (b0.length : Int)).length : Int))
                          bindO (arch_number N t59_556) (fun r60_557 =>
                            if (!decide (r57_555 = r60_557)) = true then
                              some ([], ((0 : Int), (13 : Int)))
                            else
                              gate (inR (1 : Int) ((cut b0 r23_539 t39_545).length : Int)) (
                                let t63_558 : Int := (getI (0 : Int) (cut b0 r23_539 t39_545) (1 : Int))
                                iter (arch_Places.s0 N none (fun (x575 : List Int × Unit) =>
                                  let out8_576 : List Int := x575.1
                                  some (out8_576, (r23_539, (0 : Int)))) (r23_539, (cut b0 r23_539 t39_545), (IntKind.wrap .i64 (t63_558)), ())) none N ([], (0 : Int), ())) none) none) none) none) none) none) none) none) none) none
def slices_Clone_byte (N : Nat) (s0 : List Int) : Option (List Int) :=
  gate (roomFor (([] : List Int).length + s0.length) 1) (
    some (([] : List Int) ++ s0)) none
def bits_Mul64 (N : Nat) (x0 : Int) (y1 : Int) : Option (Int × Int) :=
  gate (decide (0 ≤ (32 : Int))) (
    gate (decide (0 ≤ (32 : Int))) (
      let t24_631 : Int := (IntKind.wrap .u64 ((bitAnd .u64 x0 (4294967295 : Int)) * (bitAnd .u64 y1 (4294967295 : Int))))
      let t27_632 : Int := (IntKind.wrap .u64 ((shrI .u64 x0 (32 : Int)) * (bitAnd .u64 y1 (4294967295 : Int))))
      gate (decide (0 ≤ (32 : Int))) (
        let t30_633 : Int := (IntKind.wrap .u64 (t27_632 + (shrI .u64 t24_631 (32 : Int))))
        gate (decide (0 ≤ (32 : Int))) (
          let t38_634 : Int := (IntKind.wrap .u64 ((bitAnd .u64 x0 (4294967295 : Int)) * (shrI .u64 y1 (32 : Int))))
          let t39_635 : Int := (IntKind.wrap .u64 ((bitAnd .u64 t30_633 (4294967295 : Int)) + t38_634))
          let t42_636 : Int := (IntKind.wrap .u64 ((shrI .u64 x0 (32 : Int)) * (shrI .u64 y1 (32 : Int))))
          let t44_637 : Int := (IntKind.wrap .u64 (t42_636 + (shrI .u64 t30_633 (32 : Int))))
          gate (decide (0 ≤ (32 : Int))) (
            let t47_638 : Int := (IntKind.wrap .u64 (t44_637 + (shrI .u64 t39_635 (32 : Int))))
            some (t47_638, (IntKind.wrap .u64 (x0 * y1)))) none) none) none) none) none
def bits_Mul (N : Nat) (x0 : Int) (y1 : Int) : Option (Int × Int) :=
  bindO (bits_Mul64 N x0 y1) (fun r25_640 =>
    some r25_640) none
def slices_Repeat_byte.s0 {R : Type} (N : Nat) (s : R) (k0 : (List Int × Unit) → R) (c661 : Unit) (again : (List Int × Int × Unit) → R) (v662 : List Int × Int × Unit) : R :=
  let newslice7_663 : List Int := v662.1
  let n8_664 : Int := v662.2.1
  let t37_665 : Bool := (decide (n8_664 < (newslice7_663.length : Int)))
  if t37_665 = true then
    gate (bounds (newslice7_663.length : Int) n8_664 (newslice7_663.length : Int)) (
      gate (bounds (newslice7_663.length : Int) (0 : Int) n8_664) (
        let t45_666 : Int := (((min (cut newslice7_663 (0 : Int) n8_664).length ((newslice7_663.length : Int) - n8_664).toNat) : Nat) : Int)
        let b45_667 : List Int := (over newslice7_663 (cut newslice7_663 (0 : Int) n8_664) (n8_664).toNat (min (cut newslice7_663 (0 : Int) n8_664).length ((newslice7_663.length : Int) - n8_664).toNat))
        again (b45_667, (IntKind.wrap .i64 (n8_664 + t45_666)), ())) s) s
  else
    k0 (newslice7_663, ())
def slices_Repeat_byte (N : Nat) (x0 : List Int) (count1 : Int) : Option (List Int) :=
  if (decide (count1 < (0 : Int))) = true then
    none
  else
    bindO (bits_Mul N (IntKind.wrap .u64 ((x0.length : Int))) (IntKind.wrap .u64 (count1))) (fun r18_652 =>
      bindO (
        if (decide (r18_652.1 > (0 : Int))) = true then
          some true
        else
          let t25_654 : Bool := (decide (r18_652.2 > (9223372036854775807 : Int)))
          some t25_654) (fun (c26_655 : Bool) =>
        if c26_655 = true then
          none
        else
          gate (decide (0 ≤ (IntKind.wrap .i64 (r18_652.2)) ∧ (IntKind.wrap .i64 (r18_652.2)) ≤ (IntKind.wrap .i64 (r18_652.2))) && roomFor ((IntKind.wrap .i64 (r18_652.2))).toNat 1) (
            let b30_656 : List Int := (List.replicate ((IntKind.wrap .i64 (r18_652.2))).toNat (0 : Int))
            let t33_657 : Int := (((min x0.length b30_656.length) : Nat) : Int)
            let b33_658 : List Int := (over b30_656 x0 0 (min x0.length b30_656.length))
            iter (slices_Repeat_byte.s0 N none (fun (x668 : List Int × Unit) =>
              let newslice7_669 : List Int := x668.1
              some newslice7_669) ()) none N (b33_658, t33_657, ())) none) none) none
def arch_Unpack.s0 {R : Type} (N : Nat) (s : R) (k0 : (List Int × Unit) → R) (kr : (Int × Unit) → R) (c685 : List Int × Int × Unit) (again : (List Int × Int × Unit) → R) (v686 : List Int × Int × Unit) : R :=
  let b0_687 : List Int := c685.1
  let many1_688 : Int := c685.2.1
  let out6_689 : List Int := v686.1
  let i7_690 : Int := v686.2.1
  if (decide (i7_690 < (b0_687.length : Int))) = true then
    gate (inR i7_690 (b0_687.length : Int)) (
      let t22_691 : Bool := (decide ((getI (0 : Int) b0_687 i7_690) = (0 : Int)))
      if t22_691 = true then
        kr ((3 : Int), ())
      else
        gate (inR i7_690 (b0_687.length : Int)) (
          let t27_692 : Int := (IntKind.wrap .i64 ((getI (0 : Int) b0_687 i7_690)))
          let t31_693 : Int := (IntKind.wrap .i64 (many1_688 - (out6_689.length : Int)))
          if (decide (t27_692 > t31_693)) = true then
            kr ((2 : Int), ())
          else
            gate (inR (IntKind.wrap .i64 (i7_690 + (1 : Int))) (b0_687.length : Int)) (
              let t37_694 : Int := (getI (0 : Int) b0_687 (IntKind.wrap .i64 (i7_690 + (1 : Int))))
              gate (inR i7_690 (b0_687.length : Int)) (
                let t44_695 : Int := (IntKind.wrap .i64 ((getI (0 : Int) b0_687 i7_690)))
                bindO (slices_Repeat_byte N [t37_694] t44_695) (fun r45_696 =>
                  gate (roomFor (out6_689.length + r45_696.length) 1) (
                    again ((out6_689 ++ r45_696), (IntKind.wrap .i64 (i7_690 + (2 : Int))), ())) s) s) s) s) s) s
  else
    k0 (out6_689, ())
def arch_Unpack (N : Nat) (b0 : List Int) (many1 : Int) : Option (List Int × Int) :=
  gate (decide ((2 : Int) ≠ 0)) (
    let t11_678 : Bool := (!decide ((Int.tmod (b0.length : Int) (2 : Int)) = (0 : Int)))
    if t11_678 = true then
      some ([], (3 : Int))
    else
      iter (arch_Unpack.s0 N none (fun (x697 : List Int × Unit) =>
        let out6_698 : List Int := x697.1
        some (out6_698, (0 : Int))) (fun (x699 : Int × Unit) =>
        let v5_700 : Int := x699.1
        some ([], v5_700)) (b0, many1, ())) none N ([], (0 : Int), ())) none
def arch_one (N : Nat) (b0 : List Int) (at1 : Int) : Option ((List Int × List Int) × Int × Int) :=
  bindO (
    if (decide (at1 < (0 : Int))) = true then
      some true
    else
      some (decide (at1 > (b0.length : Int)))) (fun (c21_713 : Bool) =>
    if c21_713 = true then
      some (([], []), ((0 : Int), (3 : Int)))
    else
      gate (bounds (b0.length : Int) at1 (b0.length : Int)) (
        bindO (
          let t27_718 : Int := ((cut b0 at1 (b0.length : Int)).length : Int)
          if (decide (t27_718 < (3 : Int))) = true then
            some true
          else
            let t31_719 : Int := ((cut b0 at1 (b0.length : Int)).length : Int)
            gate (inR (2 : Int) ((cut b0 at1 (b0.length : Int)).length : Int)) (
              let t33_720 : Int := (getI (0 : Int) (cut b0 at1 (b0.length : Int)) (2 : Int))
              let t36_721 : Int := (IntKind.wrap .i64 ((11 : Int) + (IntKind.wrap .i64 (t33_720))))
              some (decide (t31_719 < t36_721))) none) (fun (c38_722 : Bool) =>
          if c38_722 = true then
            some (([], []), ((0 : Int), (15 : Int)))
          else
            gate (inR (2 : Int) ((cut b0 at1 (b0.length : Int)).length : Int)) (
              let t41_723 : Int := (getI (0 : Int) (cut b0 at1 (b0.length : Int)) (2 : Int))
              let t46_724 : Int := (IntKind.wrap .i64 ((3 : Int) + (IntKind.wrap .i64 (t41_723))))
              gate (bounds ((cut b0 at1 (b0.length : Int)).length : Int) (3 : Int) t46_724) (
                let t47_725 : List Int := (cut (cut b0 at1 (b0.length : Int)) (3 : Int) t46_724)
                let t52_726 : Int := (IntKind.wrap .i64 ((3 : Int) + (IntKind.wrap .i64 (t41_723))))
                let t54_727 : Int := (IntKind.wrap .i64 ((5 : Int) + (IntKind.wrap .i64 (t41_723))))
                gate (bounds ((cut b0 at1 (b0.length : Int)).length : Int) t52_726 t54_727) (
                  let t55_728 : List Int := (cut (cut b0 at1 (b0.length : Int)) t52_726 t54_727)
                  bindO (arch_number N t55_728) (fun r56_729 =>
                    let t59_730 : Int := (IntKind.wrap .i64 ((5 : Int) + (IntKind.wrap .i64 (t41_723))))
                    let t61_731 : Int := (IntKind.wrap .i64 ((7 : Int) + (IntKind.wrap .i64 (t41_723))))
                    gate (bounds ((cut b0 at1 (b0.length : Int)).length : Int) t59_730 t61_731) (
                      let t62_732 : List Int := (cut (cut b0 at1 (b0.length : Int)) t59_730 t61_731)
                      bindO (arch_number N t62_732) (fun r63_733 =>
                        let t66_734 : Int := (IntKind.wrap .i64 ((7 : Int) + (IntKind.wrap .i64 (t41_723))))
                        let t68_735 : Int := (IntKind.wrap .i64 ((11 : Int) + (IntKind.wrap .i64 (t41_723))))
                        gate (bounds ((cut b0 at1 (b0.length : Int)).length : Int) t66_734 t68_735) (
                          let t69_736 : List Int := (cut (cut b0 at1 (b0.length : Int)) t66_734 t68_735)
                          bindO (arch_number N t69_736) (fun r70_737 =>
                            bindO (
                              gate (inR (0 : Int) ((cut b0 at1 (b0.length : Int)).length : Int)) (
                                let t72_742 : Int := (getI (0 : Int) (cut b0 at1 (b0.length : Int)) (0 : Int))
                                if (!decide (t72_742 = (105 : Int))) = true then
                                  some true
                                else
                                  gate (inR (1 : Int) ((cut b0 at1 (b0.length : Int)).length : Int)) (
                                    let t77_743 : Int := (getI (0 : Int) (cut b0 at1 (b0.length : Int)) (1 : Int))
                                    if (decide (t77_743 > (1 : Int))) = true then
                                      some true
                                    else
                                      bindO (fs_Path N t47_725) (fun r84_744 =>
                                        if (!decide (r84_744 = (0 : Int))) = true then
                                          some true
                                        else
                                          if (decide (r56_729 > (2048 : Int))) = true then
                                            some true
                                          else
                                            gate (inR (1 : Int) ((cut b0 at1 (b0.length : Int)).length : Int)) (
                                              let t93_745 : Int := (getI (0 : Int) (cut b0 at1 (b0.length : Int)) (1 : Int))
                                              if (decide (t93_745 = (0 : Int))) = true then
                                                some (!decide (r56_729 = r63_733))
                                              else
                                                some false) none) none) none) none) (fun (c101_746 : Bool) =>
                              if c101_746 = true then
                                some (([], []), ((0 : Int), (3 : Int)))
                              else
                                let t104_747 : Int := ((cut b0 at1 (b0.length : Int)).length : Int)
                                let t106_748 : Int := (IntKind.wrap .i64 ((11 : Int) + (IntKind.wrap .i64 (t41_723))))
                                let t109_749 : Bool := (decide (t104_747 < (IntKind.wrap .i64 (t106_748 + r63_733))))
                                if t109_749 = true then
                                  some (([], []), ((0 : Int), (15 : Int)))
                                else
                                  let t113_750 : Int := (IntKind.wrap .i64 ((11 : Int) + (IntKind.wrap .i64 (t41_723))))
                                  let t115_751 : Int := (IntKind.wrap .i64 ((11 : Int) + (IntKind.wrap .i64 (t41_723))))
                                  gate (bounds ((cut b0 at1 (b0.length : Int)).length : Int) t113_750 (IntKind.wrap .i64 (t115_751 + r63_733))) (
                                    let t118_752 : List Int := (cut (cut b0 at1 (b0.length : Int)) t113_750 (IntKind.wrap .i64 (t115_751 + r63_733)))
                                    bindO (slices_Clone_byte N t118_752) (fun r119_753 =>
                                      gate (inR (1 : Int) ((cut b0 at1 (b0.length : Int)).length : Int)) (
                                        let t122_754 : Int := (getI (0 : Int) (cut b0 at1 (b0.length : Int)) (1 : Int))
                                        if (decide (t122_754 = (1 : Int))) = true then
                                          bindO (arch_Unpack N r119_753 r56_729) (fun r129_759 =>
                                            bindO (
                                              if (!decide (r129_759.2 = (0 : Int))) = true then
                                                some true
                                              else
                                                let t138_761 : Bool := (!decide ((r129_759.1.length : Int) = r56_729))
                                                some t138_761) (fun (c139_762 : Bool) =>
                                              if c139_762 = true then
                                                some (([], []), ((0 : Int), (3 : Int)))
                                              else
                                                bindO (sum_Crc N r129_759.1) (fun r145_763 =>
                                                  if (!decide (r145_763 = r70_737)) = true then
                                                    some (([], []), ((0 : Int), (13 : Int)))
                                                  else
                                                    let t153_764 : Int := (IntKind.wrap .i64 ((IntKind.wrap .i64 (at1 + (11 : Int))) + (IntKind.wrap .i64 (t41_723))))
                                                    some ((t47_725, r129_759.1), ((IntKind.wrap .i64 (t153_764 + r63_733)), (0 : Int)))) none) none) none
                                        else
                                          bindO (sum_Crc N r119_753) (fun r145_765 =>
                                            if (!decide (r145_765 = r70_737)) = true then
                                              some (([], []), ((0 : Int), (13 : Int)))
                                            else
                                              let t153_766 : Int := (IntKind.wrap .i64 ((IntKind.wrap .i64 (at1 + (11 : Int))) + (IntKind.wrap .i64 (t41_723))))
                                              some ((t47_725, r119_753), ((IntKind.wrap .i64 (t153_766 + r63_733)), (0 : Int)))) none) none) none) none) none) none) none) none) none) none) none) none) none) none) none) none
def arch_Read.s0 {R : Type} (N : Nat) (s : R) (k0 : (List (List Int × List Int) × Int × Unit) → R) (kr : (Int × Unit) → R) (c794 : List Int × Int × Int × Unit) (again : (List (List Int × List Int) × Int × List Int × Int × Unit) → R) (v795 : List (List Int × List Int) × Int × List Int × Int × Unit) : R :=
  let b0_796 : List Int := c794.1
  let end5_797 : Int := c794.2.1
  let v24_798 : Int := c794.2.2.1
  let out7_799 : List (List Int × List Int) := v795.1
  let next8_800 : Int := v795.2.1
  let v23_801 : List Int := v795.2.2.1
  let v25_802 : Int := v795.2.2.2.1
  if (decide (v25_802 < v24_798)) = true then
    gate (inR v25_802 (v23_801.length : Int)) (
      gate (inR v25_802 (v23_801.length : Int)) (
        let t31_803 : Bool := (!decide ((getI (0 : Int) v23_801 v25_802) = next8_800))
        if t31_803 = true then
          kr ((3 : Int), ())
        else
          gate (bounds (b0_796.length : Int) (0 : Int) end5_797) (
            bindO (arch_one N (cut b0_796 (0 : Int) end5_797) (getI (0 : Int) v23_801 v25_802)) (fun r37_804 =>
              if (!decide (r37_804.2.2 = (0 : Int))) = true then
                kr (r37_804.2.2, ())
              else
                gate (roomFor (out7_799.length + [r37_804.1].length) 40) (
                  again ((out7_799 ++ [r37_804.1]), r37_804.2.1, v23_801, (IntKind.wrap .i64 (v25_802 + (1 : Int))), ())) s) s) s) s) s
  else
    k0 (out7_799, next8_800, ())
def arch_Read (N : Nat) (b0 : List Int) : Option (List (List Int × List Int) × Int) :=
  bindO (arch_Places N b0) (fun r16_784 =>
    if (!decide (r16_784.2.2 = (0 : Int))) = true then
      some ([], r16_784.2.2)
    else
      iter (arch_Read.s0 N none (fun (x805 : List (List Int × List Int) × Int × Unit) =>
        let out7_806 : List (List Int × List Int) := x805.1
        let next8_807 : Int := x805.2.1
        bindO (
          if (!decide (next8_807 = r16_784.2.1)) = true then
            some true
          else
            bindO (arch_Check N out7_806) (fun r55_809 =>
              some (!decide (r55_809 = (0 : Int)))) none) (fun (c57_810 : Bool) =>
          if c57_810 = true then
            some ([], (3 : Int))
          else
            some (out7_806, (0 : Int))) none) (fun (x811 : Int × Unit) =>
        let v3_812 : Int := x811.1
        some ([], v3_812)) (b0, r16_784.2.1, (r16_784.1.length : Int), ())) none N ([], (0 : Int), r16_784.1, (0 : Int), ())) none
def slices_Equal_byte.s0 {R : Type} (N : Nat) (s : R) (k0 : Unit → R) (kr : (Bool × Unit) → R) (c822 : List Int × List Int × Int × Unit) (again : (Int × Unit) → R) (v823 : Int × Unit) : R :=
  let s10_824 : List Int := c822.1
  let s21_825 : List Int := c822.2.1
  let v12_826 : Int := c822.2.2.1
  let v13_827 : Int := v823.1
  if (decide (v13_827 < v12_826)) = true then
    gate (inR v13_827 (s10_824.length : Int)) (
      gate (inR v13_827 (s21_825.length : Int)) (
        let t24_828 : Bool := (!decide ((getI (0 : Int) s10_824 v13_827) = (getI (0 : Int) s21_825 v13_827)))
        if t24_828 = true then
          kr (false, ())
        else
          again ((IntKind.wrap .i64 (v13_827 + (1 : Int))), ())) s) s
  else
    k0 ()
def slices_Equal_byte (N : Nat) (s10 : List Int) (s21 : List Int) : Option Bool :=
  let t10_820 : Bool := (!decide ((s10.length : Int) = (s21.length : Int)))
  if t10_820 = true then
    some false
  else
    iter (slices_Equal_byte.s0 N none (fun (x829 : Unit) =>
      some true) (fun (x830 : Bool × Unit) =>
      let v4_831 : Bool := x830.1
      some v4_831) (s10, s21, (s10.length : Int), ())) none N ((0 : Int), ())
def wrackkeep2_packs (N : Nat) : Option Bool :=
  bindO (arch_Pack N [(7 : Int), (7 : Int), (7 : Int)]) (fun r2_833 =>
    bindO (slices_Equal_byte N r2_833 [(3 : Int), (7 : Int)]) (fun r4_834 =>
      some r4_834) none) none
def wrackkeep2_sameItems_1 (N : Nat) (x0 : List Int × List Int) (y1 : List Int × List Int) : Option Bool :=
  bindO (
    if (decide (x0.1 = y1.1)) = true then
      bindO (slices_Equal_byte N x0.2 y1.2) (fun r15_841 =>
        some r15_841) none
    else
      some false) (fun (c4_842 : Bool) =>
    some c4_842) none
def wrackkeep2_sameItems_i0_slices_EqualFunc.s0 {R : Type} (N : Nat) (s : R) (k0 : Unit → R) (kr : (Bool × Unit) → R) (c849 : List (List Int × List Int) × List (List Int × List Int) × Int × Unit) (again : (Int × Unit) → R) (v850 : Int × Unit) : R :=
  let s21_851 : List (List Int × List Int) := c849.1
  let v15_852 : List (List Int × List Int) := c849.2.1
  let v16_853 : Int := c849.2.2.1
  let v17_854 : Int := v850.1
  if (decide (v17_854 < v16_853)) = true then
    gate (inR v17_854 (v15_852.length : Int)) (
      gate (inR v17_854 (s21_851.length : Int)) (
        bindO (wrackkeep2_sameItems_1 N (getI ([], []) v15_852 v17_854) (getI ([], []) s21_851 v17_854)) (fun r29_855 =>
          if (!r29_855) = true then
            kr (false, ())
          else
            again ((IntKind.wrap .i64 (v17_854 + (1 : Int))), ())) s) s) s
  else
    k0 ()
def wrackkeep2_sameItems (N : Nat) (a0 : List (List Int × List Int)) (b1 : List (List Int × List Int)) : Option Bool :=
  let t14_847 : Bool := (!decide ((a0.length : Int) = (b1.length : Int)))
  if t14_847 = true then
    some false
  else
    iter (wrackkeep2_sameItems_i0_slices_EqualFunc.s0 N none (fun (x856 : Unit) =>
      some true) (fun (x857 : Bool × Unit) =>
      let v6_858 : Bool := x857.1
      some v6_858) (b1, a0, (a0.length : Int), ())) none N ((0 : Int), ())
def arch_Get.s0 {R : Type} (N : Nat) (s : R) (k0 : (List Int × Unit) → R) (kr : (Int × List Int × List Int × Unit) → R) (c875 : List Int × List Int × Int × Int × Unit) (again : (List Int × Int × List Int × Unit) → R) (v876 : List Int × Int × List Int × Unit) : R :=
  let b0_877 : List Int := c875.1
  let path1_878 : List Int := c875.2.1
  let end7_879 : Int := c875.2.2.1
  let v25_880 : Int := c875.2.2.2.1
  let v24_881 : List Int := v876.1
  let v26_882 : Int := v876.2.1
  let m0_883 : List Int := v876.2.2.1
  if (decide (v26_882 < v25_880)) = true then
    gate (inR v26_882 (v24_881.length : Int)) (
      gate (inR v26_882 (v24_881.length : Int)) (
        gate (bounds (b0_877.length : Int) (0 : Int) end7_879) (
          bindO (arch_one N (cut b0_877 (0 : Int) end7_879) (getI (0 : Int) v24_881 v26_882)) (fun r35_884 =>
            if (!decide (r35_884.2.2 = (0 : Int))) = true then
              kr (r35_884.2.2, [], [], ())
            else
              if (decide (r35_884.1.1 = path1_878)) = true then
                kr ((0 : Int), r35_884.1.1, r35_884.1.2, ())
              else
                again (v24_881, (IntKind.wrap .i64 (v26_882 + (1 : Int))), m0_883, ())) s) s) s) s
  else
    k0 (m0_883, ())
def arch_Get (N : Nat) (b0 : List Int) (path1 : List Int) : Option ((List Int × List Int) × Int) :=
  bindO (arch_Places N b0) (fun r16_873 =>
    if (!decide (r16_873.2.2 = (0 : Int))) = true then
      some (([], []), r16_873.2.2)
    else
      iter (arch_Get.s0 N none (fun (x885 : List Int × Unit) =>
        let m0_886 : List Int := x885.1
        some (([], []), (8 : Int))) (fun (x887 : Int × List Int × List Int × Unit) =>
        let v5_888 : Int := x887.1
        let m0_889 : List Int := x887.2.1
        let m0_890 : List Int := x887.2.2.1
        some ((m0_889, m0_890), v5_888)) (b0, path1, r16_873.2.1, (r16_873.1.length : Int), ())) none N (r16_873.1, (0 : Int), [], ())) none
def wrackkeep2_ArchBack (N : Nat) (l0 : List Int) (k1 : Int) : Option Bool :=
  bindO (wrackkeep2_items N l0) (fun r18_900 =>
    bindO (arch_Make N r18_900) (fun r21_901 =>
      bindO (arch_Read N r21_901.1) (fun r26_902 =>
        bindO (
          bindO (wrackkeep2_packs N) (fun r29_905 =>
            if (!r29_905) = true then
              some true
            else
              if (!decide (r21_901.2 = (0 : Int))) = true then
                some true
              else
                if (!decide (r26_902.2 = (0 : Int))) = true then
                  some true
                else
                  bindO (wrackkeep2_sameItems N r26_902.1 r18_900) (fun r42_906 =>
                    some (!r42_906)) none) none) (fun (c44_907 : Bool) =>
          if c44_907 = true then
            some false
          else
            let t47_908 : Bool := (decide ((r18_900.length : Int) = (0 : Int)))
            if t47_908 = true then
              some true
            else
              bindO (wrackmake_Below N k1 (r18_900.length : Int)) (fun r52_909 =>
                gate (inR r52_909 (r18_900.length : Int)) (
                  gate (inR r52_909 (r18_900.length : Int)) (
                    bindO (arch_Get N r21_901.1 ((getI ([], []) r18_900 r52_909).1)) (fun r59_910 =>
                      bindO (arch_Get N r21_901.1 [122, 122]) (fun r64_911 =>
                        bindO (arch_Pack N ((getI ([], []) r18_900 r52_909).2)) (fun r70_912 =>
                          let t73_913 : Int := (((getI ([], []) r18_900 r52_909).2).length : Int)
                          bindO (arch_Unpack N r70_912 t73_913) (fun r74_914 =>
                            if (decide (r59_910.2 = (0 : Int))) = true then
                              if (decide (r64_911.2 = (8 : Int))) = true then
                                if (decide (r74_914.2 = (0 : Int))) = true then
                                  bindO (wrackkeep2_sameItems N [(getI ([], []) r18_900 r52_909)] [r59_910.1]) (fun r92_917 =>
                                    if r92_917 = true then
                                      bindO (slices_Equal_byte N r74_914.1 ((getI ([], []) r18_900 r52_909).2)) (fun r98_918 =>
                                        some r98_918) none
                                    else
                                      some false) none
                                else
                                  some false
                              else
                                some false
                            else
                              some false) none) none) none) none) none) none) none) none) none) none) none
end Go.Proofs.YteekijpcdcpjkaaDoor
