import Derived.Test.YteekijpcdcpjkaaDoorAbIterFn
import Derived.Test.YteekijpcdcpjkaaDoorAbStrFn
import Derived.Test.YteekijpcdcpjkaaDoorAbDen
set_option linter.unusedVariables false
namespace Go.Proofs.YteekijpcdcpjkaaDoor
open Go Go.Ab
def wrackmake_Below (N : Nat) (x0 : Int) (n1 : Int) : Option Int :=
  gate (decide (n1 ≠ 0)) (
    if (decide ((Int.tmod x0 n1) < (0 : Int))) = true then
      some (IntKind.wrap .i64 ((Int.tmod x0 n1) + n1))
    else
      some (Int.tmod x0 n1)) none
def wrackmake_Stream_Next (N : Nat) (s0 : List Int × Unit) (n1 : Int) : Option (Int × (List Int × Unit)) :=
  bindO (
    if (decide ((s0.1.length : Int) = (0 : Int))) = true then
      some true
    else
      some (decide (n1 < (1 : Int)))) (fun (c15_3 : Bool) =>
    if c15_3 = true then
      some ((0 : Int), (s0.1, ()))
    else
      gate (inR (0 : Int) (s0.1.length : Int)) (
        gate (bounds (s0.1.length : Int) (1 : Int) (s0.1.length : Int)) (
          bindO (wrackmake_Below N (getI (0 : Int) s0.1 (0 : Int)) n1) (fun r32_4 =>
            some (r32_4, ((cut s0.1 (1 : Int) (s0.1.length : Int)), ()))) none) none) none) none
def wrackmake_data.s1 {R : Type} (N : Nat) (s : R) (k2 : (List Int × List Int × Unit) → R) (c79 : Int × Int × Int × Unit) (again : (List Int × List Int × Int × Unit) → R) (v80 : List Int × List Int × Int × Unit) : R :=
  let n6_81 : Int := c79.1
  let c7_82 : Int := c79.2.1
  let v29_83 : Int := c79.2.2.1
  let h0_84 : List Int := v80.1
  let out5_85 : List Int := v80.2.1
  let v30_86 : Int := v80.2.2.1
  if (decide (v30_86 < v29_83)) = true then
    gate (roomFor (out5_85.length + [c7_82].length) 1) (
      again (h0_84, (out5_85 ++ [c7_82]), (IntKind.wrap .i64 (v30_86 + (1 : Int))), ())) s
  else
    k2 (h0_84, out5_85, ())
def wrackmake_data.s0 {R : Type} (N : Nat) (s : R) (k0 : (List Int × List Int × Unit) → R) (c65 : Int × Unit) (again : (List Int × List Int × Unit) → R) (v66 : List Int × List Int × Unit) : R :=
  let n6_67 : Int := c65.1
  let h0_68 : List Int := v66.1
  let out5_69 : List Int := v66.2.1
  if (decide ((out5_69.length : Int) < n6_67)) = true then
    bindO (wrackmake_Stream_Next N (h0_68, ()) (256 : Int)) (fun r19_70 =>
      bindO (wrackmake_Stream_Next N (r19_70.2.1, ()) (3 : Int)) (fun r22_71 =>
        bindO ((
          if (decide (r22_71.1 > (0 : Int))) = true then
            bindO (wrackmake_Stream_Next N (r22_71.2.1, ()) (5 : Int)) (fun r25_73 =>
              gate (inR r25_73.1 ([97, 98, 99, 32, 0].length : Int)) (
                some (r25_73.2.1, out5_69, (getI 0 [97, 98, 99, 32, 0] r25_73.1), ())) none) none
          else
            some (r22_71.2.1, out5_69, (IntKind.wrap .u8 (r19_70.1)), ()) : Option (List Int × List Int × Int × Unit))) (fun j74 =>
          let h0_75 : List Int := j74.1
          let out5_76 : List Int := j74.2.1
          let c7_77 : Int := j74.2.2.1
          bindO (wrackmake_Stream_Next N (h0_75, ()) (9 : Int)) (fun r28_78 =>
            iter (wrackmake_data.s1 N s (fun (x87 : List Int × List Int × Unit) =>
              let h0_88 : List Int := x87.1
              let out5_89 : List Int := x87.2.1
              again (h0_88, out5_89, ())) (n6_67, c7_77, (IntKind.wrap .i64 ((1 : Int) + r28_78.1)), ())) s N (r28_78.2.1, out5_76, (0 : Int), ())) s) s) s) s
  else
    k0 (h0_68, out5_69, ())
def wrackmake_data (N : Nat) (s0 : List Int × Unit) (most1 : Int) : Option ((List Int) × (List Int × Unit)) :=
  let t12_40 : Int := (IntKind.wrap .i64 ((maxI (0 : Int) (minI most1 (65536 : Int))) + (1 : Int)))
  bindO (wrackmake_Stream_Next N (s0.1, ()) t12_40) (fun r13_41 =>
    iter (wrackmake_data.s0 N none (fun (x90 : List Int × List Int × Unit) =>
      let h0_91 : List Int := x90.1
      let out5_92 : List Int := x90.2.1
      gate (bounds (out5_92.length : Int) (0 : Int) r13_41.1 && decide (r13_41.1 = r13_41.1)) (
        some ((cut out5_92 (0 : Int) r13_41.1), (h0_91, ()))) none) (r13_41.1, ())) none N (r13_41.2.1, [], ())) none
def wrackmake_Bytes (N : Nat) (l0 : List Int) (most1 : Int) : Option (List Int) :=
  bindO (wrackmake_data N (l0, ()) most1) (fun r9_94 =>
    some r9_94.1) none
def wrackkeep2_items.s0 {R : Type} (N : Nat) (s : R) (k0 : (List (List Int × List Int) × Unit) → R) (c122 : Int × Unit) (again : (List (List Int × List Int) × Int × List Int × Unit) → R) (v123 : List (List Int × List Int) × Int × List Int × Unit) : R :=
  let v10_124 : Int := c122.1
  let out4_125 : List (List Int × List Int) := v123.1
  let v11_126 : Int := v123.2.1
  let m0_127 : List Int := v123.2.2.1
  if (decide (v11_126 < v10_124)) = true then
    let t17_128 : Int := (IntKind.wrap .i32 ((IntKind.wrap .i64 ((97 : Int) + v11_126))))
    gate (decide (0 ≤ t17_128 ∧ t17_128 < 128)) (
      gate (decide ([100, 47, 102].length + [t17_128].length ≤ 140737488355328)) (
        bindO (wrackmake_Stream_Next N (m0_127, ()) (1000 : Int)) (fun r21_129 =>
          bindO (wrackmake_Stream_Next N (r21_129.2.1, ()) (1000 : Int)) (fun r23_130 =>
            bindO (wrackmake_Stream_Next N (r23_130.2.1, ()) (1000 : Int)) (fun r25_131 =>
              bindO (wrackmake_Stream_Next N (r25_131.2.1, ()) (1000 : Int)) (fun r27_132 =>
                bindO (wrackmake_Stream_Next N (r27_132.2.1, ()) (90 : Int)) (fun r30_133 =>
                  bindO (wrackmake_Bytes N [r21_129.1, r23_130.1, r25_131.1, r27_132.1] r30_133.1) (fun r31_134 =>
                    gate (roomFor (out4_125.length + [(([100, 47, 102] ++ [t17_128]), r31_134)].length) 40) (
                      let b34_135 : List (List Int × List Int) := (out4_125 ++ [(([100, 47, 102] ++ [t17_128]), r31_134)])
                      again (b34_135, (IntKind.wrap .i64 (v11_126 + (1 : Int))), r30_133.2.1, ())) s) s) s) s) s) s) s) s) s
  else
    k0 (out4_125, ())
def wrackkeep2_items (N : Nat) (l0 : List Int) : Option (List (List Int × List Int)) :=
  bindO (wrackmake_Stream_Next N (l0, ()) (6 : Int)) (fun r10_106 =>
    iter (wrackkeep2_items.s0 N none (fun (x136 : List (List Int × List Int) × Unit) =>
      let out4_137 : List (List Int × List Int) := x136.1
      some out4_137) (r10_106.1, ())) none N ([], (0 : Int), r10_106.2.1, ())) none
def strings_Split (N : Nat) (s0 : List Int) (sep1 : List Int) : Option (List (List Int)) :=
  bindO (genSplitF s0 sep1 (0 : Int) (-1 : Int)) (fun r7_140 =>
    some r7_140) none
def fs_Named.s0 {R : Type} (N : Nat) (s : R) (k0 : Unit → R) (kr : (Bool × Unit) → R) (c157 : List Int × Int × Unit) (again : (Int × Unit) → R) (v158 : Int × Unit) : R :=
  let s0_159 : List Int := c157.1
  let v23_160 : Int := c157.2.1
  let v24_161 : Int := v158.1
  if (decide (v24_161 < v23_160)) = true then
    gate (inR v24_161 (s0_159.length : Int)) (
      bindO (
        let t31_172 : Bool := (decide ((getI 0 s0_159 v24_161) < (97 : Int)))
        if t31_172 = true then
          let t38_173 : Bool := (decide ((getI 0 s0_159 v24_161) < (48 : Int)))
          if t38_173 = true then
            let t46_174 : Bool := (!decide ((getI 0 s0_159 v24_161) = (45 : Int)))
            some t46_174
          else
            let t41_175 : Bool := (decide ((getI 0 s0_159 v24_161) > (57 : Int)))
            if t41_175 = true then
              let t46_176 : Bool := (!decide ((getI 0 s0_159 v24_161) = (45 : Int)))
              some t46_176
            else
              some false
        else
          let t34_177 : Bool := (decide ((getI 0 s0_159 v24_161) > (122 : Int)))
          if t34_177 = true then
            let t38_178 : Bool := (decide ((getI 0 s0_159 v24_161) < (48 : Int)))
            if t38_178 = true then
              let t46_179 : Bool := (!decide ((getI 0 s0_159 v24_161) = (45 : Int)))
              some t46_179
            else
              let t41_180 : Bool := (decide ((getI 0 s0_159 v24_161) > (57 : Int)))
              if t41_180 = true then
                let t46_181 : Bool := (!decide ((getI 0 s0_159 v24_161) = (45 : Int)))
                some t46_181
              else
                some false
          else
            some false) (fun (c47_182 : Bool) =>
        if c47_182 = true then
          kr (false, ())
        else
          again ((IntKind.wrap .i64 (v24_161 + (1 : Int))), ())) s) s
  else
    k0 ()
def fs_Named (N : Nat) (s0 : List Int) : Option Bool :=
  bindO (
    if (decide (s0 = [])) = true then
      some true
    else
      if (decide ((s0.length : Int) > (12 : Int))) = true then
        some true
      else
        gate (inR (0 : Int) (s0.length : Int)) (
          let t15_153 : Bool := (decide ((getI 0 s0 (0 : Int)) < (97 : Int)))
          if t15_153 = true then
            some true
          else
            gate (inR (0 : Int) (s0.length : Int)) (
              let t20_154 : Bool := (decide ((getI 0 s0 (0 : Int)) > (122 : Int)))
              some t20_154) none) none) (fun (c21_155 : Bool) =>
    if c21_155 = true then
      some false
    else
      iter (fs_Named.s0 N none (fun (x183 : Unit) =>
        some true) (fun (x184 : Bool × Unit) =>
        let v2_185 : Bool := x184.1
        some v2_185) (s0, (s0.length : Int), ())) none N ((0 : Int), ())) none
def fs_Path_1 (N : Nat) (x0 : List Int) : Option Bool :=
  bindO (fs_Named N x0) (fun r4_187 =>
    some (!r4_187)) none
def fs_Path_i0_slices_ContainsFunc_i0_slices_IndexFunc.s0 {R : Type} (N : Nat) (s : R) (k0 : Unit → R) (kr : (Int × Unit) → R) (c202 : List (List Int) × Int × Unit) (again : (Int × Unit) → R) (v203 : Int × Unit) : R :=
  let s0_204 : List (List Int) := c202.1
  let v7_205 : Int := c202.2.1
  let v8_206 : Int := v203.1
  if (decide (v8_206 < v7_205)) = true then
    gate (inR v8_206 (s0_204.length : Int)) (
      bindO (fs_Path_1 N (getI [] s0_204 v8_206)) (fun r16_207 =>
        if r16_207 = true then
          kr (v8_206, ())
        else
          again ((IntKind.wrap .i64 (v8_206 + (1 : Int))), ())) s) s
  else
    k0 ()
def fs_Path (N : Nat) (s0 : List Int) : Option Int :=
  bindO (strings_Split N s0 [47]) (fun r5_196 =>
    if (decide ((r5_196.length : Int) > (4 : Int))) = true then
      some (6 : Int)
    else
      iter (fs_Path_i0_slices_ContainsFunc_i0_slices_IndexFunc.s0 N none (fun (x208 : Unit) =>
        if (decide ((-1 : Int) ≥ (0 : Int))) = true then
          some (6 : Int)
        else
          some (0 : Int)) (fun (x209 : Int × Unit) =>
        let v4_210 : Int := x209.1
        if (decide (v4_210 ≥ (0 : Int))) = true then
          some (6 : Int)
        else
          some (0 : Int)) (r5_196, (r5_196.length : Int), ())) none N ((0 : Int), ())) none
def arch_Check_i0_slices_ContainsFunc_i0_slices_IndexFunc.s0 {R : Type} (N : Nat) (s : R) (k0 : (List Int × List Int × Unit) → R) (kr : (List Int × List Int × Int × Unit) → R) (c241 : List (List Int × List Int) × Int × Unit) (again : (List Int × List Int × Int × Unit) → R) (v242 : List Int × List Int × Int × Unit) : R :=
  let s0_243 : List (List Int × List Int) := c241.1
  let v7_244 : Int := c241.2.1
  let h0_245 : List Int := v242.1
  let h0_246 : List Int := v242.2.1
  let v8_247 : Int := v242.2.2.1
  if (decide (v8_247 < v7_244)) = true then
    gate (inR v8_247 (s0_243.length : Int)) (
      let t8_248 : Bool := (decide ((getI ([], []) s0_243 v8_247).1 = h0_245))
      if t8_248 = true then
        kr (h0_245, h0_246, v8_247, ())
      else
        again (h0_245, h0_246, (IntKind.wrap .i64 (v8_247 + (1 : Int))), ())) s
  else
    k0 (h0_245, h0_246, ())
def arch_Check.s0 {R : Type} (N : Nat) (s : R) (k0 : Unit → R) (kr : (Int × Unit) → R) (c232 : List (List Int × List Int) × List (List Int × List Int) × Int × Unit) (again : (Int × Unit) → R) (v233 : Int × Unit) : R :=
  let l0_234 : List (List Int × List Int) := c232.1
  let v8_235 : List (List Int × List Int) := c232.2.1
  let v9_236 : Int := c232.2.2.1
  let v10_237 : Int := v233.1
  if (decide (v10_237 < v9_236)) = true then
    gate (inR v10_237 (v8_235.length : Int)) (
      bindO (fs_Path N ((getI ([], []) v8_235 v10_237).1)) (fun r18_238 =>
        if (!decide (r18_238 = (0 : Int))) = true then
          kr ((6 : Int), ())
        else
          let t23_239 : Int := (((getI ([], []) v8_235 v10_237).2).length : Int)
          if (decide (t23_239 > (2048 : Int))) = true then
            kr ((2 : Int), ())
          else
            gate (bounds (l0_234.length : Int) (0 : Int) v10_237) (
              let t7_240 : Int := ((cut l0_234 (0 : Int) v10_237).length : Int)
              iter (arch_Check_i0_slices_ContainsFunc_i0_slices_IndexFunc.s0 N s (fun (x249 : List Int × List Int × Unit) =>
                let h0_250 : List Int := x249.1
                let h0_251 : List Int := x249.2.1
                if (decide ((-1 : Int) ≥ (0 : Int))) = true then
                  kr ((7 : Int), ())
                else
                  again ((IntKind.wrap .i64 (v10_237 + (1 : Int))), ())) (fun (x252 : List Int × List Int × Int × Unit) =>
                let h0_253 : List Int := x252.1
                let h0_254 : List Int := x252.2.1
                let v4_255 : Int := x252.2.2.1
                if (decide (v4_255 ≥ (0 : Int))) = true then
                  kr ((7 : Int), ())
                else
                  again ((IntKind.wrap .i64 (v10_237 + (1 : Int))), ())) ((cut l0_234 (0 : Int) v10_237), t7_240, ())) s N ((getI ([], []) v8_235 v10_237).1, (getI ([], []) v8_235 v10_237).2, (0 : Int), ())) s) s) s
  else
    k0 ()
def arch_Check (N : Nat) (l0 : List (List Int × List Int)) : Option Int :=
  if (decide ((l0.length : Int) > (30 : Int))) = true then
    some (9 : Int)
  else
    iter (arch_Check.s0 N none (fun (x256 : Unit) =>
      some (0 : Int)) (fun (x257 : Int × Unit) =>
      let v2_258 : Int := x257.1
      some v2_258) (l0, l0, (l0.length : Int), ())) none N ((0 : Int), ())
def arch_bytes.s0 {R : Type} (N : Nat) (s : R) (k0 : (List Int × Unit) → R) (c269 : Int × Int × Unit) (again : (List Int × Int × Unit) → R) (v270 : List Int × Int × Unit) : R :=
  let n0_271 : Int := c269.1
  let v10_272 : Int := c269.2.1
  let b5_273 : List Int := v270.1
  let v11_274 : Int := v270.2.1
  if (decide (v11_274 < v10_272)) = true then
    gate (decide (0 ≤ (IntKind.wrap .i64 ((8 : Int) * v11_274)))) (
      let t19_275 : Int := (shrI .i64 n0_271 (IntKind.wrap .i64 ((8 : Int) * v11_274)))
      gate (inR v11_274 (b5_273.length : Int)) (
        gate (inR v11_274 (b5_273.length : Int)) (
          let bx_276 : List Int := (b5_273.set (v11_274).toNat (IntKind.wrap .u8 (t19_275)))
          again (bx_276, (IntKind.wrap .i64 (v11_274 + (1 : Int))), ())) s) s) s
  else
    k0 (b5_273, ())
def arch_bytes (N : Nat) (n0 : Int) (many1 : Int) : Option (List Int) :=
  gate (decide (0 ≤ many1 ∧ many1 ≤ many1) && roomFor (many1).toNat 1) (
    let t10_266 : Int := ((List.replicate (many1).toNat (0 : Int)).length : Int)
    iter (arch_bytes.s0 N none (fun (x277 : List Int × Unit) =>
      let b5_278 : List Int := x277.1
      some b5_278) (n0, t10_266, ())) none N ((List.replicate (many1).toNat (0 : Int)), (0 : Int), ())) none
def arch_Pack.s1 {R : Type} (N : Nat) (s : R) (k2 : (List Int × Int × Unit) → R) (c364 : List Int × Int × Unit) (again : (List Int × Int × Unit) → R) (v365 : List Int × Int × Unit) : R :=
  let b0_366 : List Int := c364.1
  let i4_367 : Int := c364.2.1
  let out3_368 : List Int := v365.1
  let n5_369 : Int := v365.2.1
  bindO (
    if (decide (n5_369 < (255 : Int))) = true then
      let t18_373 : Bool := (decide ((IntKind.wrap .i64 (i4_367 + n5_369)) < (b0_366.length : Int)))
      if t18_373 = true then
        gate (inR (IntKind.wrap .i64 (i4_367 + n5_369)) (b0_366.length : Int)) (
          let t25_374 : Int := (getI (0 : Int) b0_366 (IntKind.wrap .i64 (i4_367 + n5_369)))
          gate (inR i4_367 (b0_366.length : Int)) (
            let t31_375 : Bool := (decide (t25_374 = (getI (0 : Int) b0_366 i4_367)))
            some t31_375) none) none
      else
        some false
    else
      some false) (fun (c32_376 : Bool) =>
    if c32_376 = true then
      again (out3_368, (IntKind.wrap .i64 (n5_369 + (1 : Int))), ())
    else
      k2 (out3_368, n5_369, ())) s
def arch_Pack.s0 {R : Type} (N : Nat) (s : R) (k0 : (List Int × Unit) → R) (c346 : List Int × Unit) (again : (List Int × Int × Unit) → R) (v347 : List Int × Int × Unit) : R :=
  let b0_348 : List Int := c346.1
  let out3_349 : List Int := v347.1
  let i4_350 : Int := v347.2.1
  if (decide (i4_350 < (b0_348.length : Int))) = true then
    iter (arch_Pack.s1 N s (fun (x377 : List Int × Int × Unit) =>
      let out3_378 : List Int := x377.1
      let n5_379 : Int := x377.2.1
      gate (inR i4_350 (b0_348.length : Int)) (
        let b42_380 : List Int := [(IntKind.wrap .u8 (n5_379)), (getI (0 : Int) b0_348 i4_350)]
        gate (roomFor (out3_378.length + b42_380.length) 1) (
          again ((out3_378 ++ b42_380), (IntKind.wrap .i64 (i4_350 + n5_379)), ())) s) s) (b0_348, i4_350, ())) s N (out3_349, (1 : Int), ())
  else
    k0 (out3_349, ())
def arch_Pack (N : Nat) (b0 : List Int) : Option (List Int) :=
  iter (arch_Pack.s0 N none (fun (x381 : List Int × Unit) =>
    let out3_382 : List Int := x381.1
    some out3_382) (b0, ())) none N ([], (0 : Int), ())
def sum_Crc.s1 {R : Type} (N : Nat) (s : R) (k2 : (Int × Unit) → R) (c416 : List Int × Int × Int × Unit) (again : (Int × Int × Unit) → R) (v417 : Int × Int × Unit) : R :=
  let v6_418 : List Int := c416.1
  let v7_419 : Int := c416.2.1
  let v8_420 : Int := c416.2.2.1
  let c3_421 : Int := v417.1
  let v16_422 : Int := v417.2.1
  if (decide (v16_422 < (8 : Int))) = true then
    gate (decide (0 ≤ (1 : Int))) (
      let t22_423 : Int := (IntKind.wrap .u32 ((bitAnd .u32 c3_421 (1 : Int)) * (3988292384 : Int)))
      let t23_424 : Int := (bitXor .u32 (shrI .u32 c3_421 (1 : Int)) t22_423)
      again (t23_424, (IntKind.wrap .i64 (v16_422 + (1 : Int))), ())) s
  else
    k2 (c3_421, ())
def sum_Crc.s0 {R : Type} (N : Nat) (s : R) (k0 : (Int × Unit) → R) (c407 : List Int × Int × Unit) (again : (Int × Int × Unit) → R) (v408 : Int × Int × Unit) : R :=
  let v6_409 : List Int := c407.1
  let v7_410 : Int := c407.2.1
  let c3_411 : Int := v408.1
  let v8_412 : Int := v408.2.1
  if (decide (v8_412 < v7_410)) = true then
    gate (inR v8_412 (v6_409.length : Int)) (
      let t14_413 : Int := (IntKind.wrap .u32 ((getI (0 : Int) v6_409 v8_412)))
      iter (sum_Crc.s1 N s (fun (x425 : Int × Unit) =>
        let c3_426 : Int := x425.1
        again (c3_426, (IntKind.wrap .i64 (v8_412 + (1 : Int))), ())) (v6_409, v7_410, v8_412, ())) s N ((bitXor .u32 c3_411 t14_413), (0 : Int), ())) s
  else
    k0 (c3_411, ())
def sum_Crc (N : Nat) (b0 : List Int) : Option Int :=
  iter (sum_Crc.s0 N none (fun (x427 : Int × Unit) =>
    let c3_428 : Int := x427.1
    let t28_429 : Int := (IntKind.wrap .i64 ((bitXor .u32 4294967295 c3_428)))
    some t28_429) (b0, (b0.length : Int), ())) none N ((4294967295 : Int), (0 : Int), ())
def arch_entry (N : Nat) (x0 : List Int × List Int) : Option (List Int) :=
  bindO (arch_Pack N x0.2) (fun r10_432 =>
    let t15_433 : Bool := (decide ((r10_432.length : Int) < (x0.2.length : Int)))
    bindO ((
      if t15_433 = true then
        some ((1 : Int), r10_432, x0.1, x0.2, ())
      else
        some ((0 : Int), x0.2, x0.1, x0.2, ()) : Option (Int × List Int × List Int × List Int × Unit))) (fun j434 =>
      let way3_435 : Int := j434.1
      let data4_436 : List Int := j434.2.1
      let m0_437 : List Int := j434.2.2.1
      let m0_438 : List Int := j434.2.2.2.1
      let b22_439 : List Int := [(105 : Int), way3_435, (IntKind.wrap .u8 ((m0_437.length : Int)))]
      gate (roomFor (b22_439.length + m0_437.length) 1) (
        bindO (arch_bytes N (m0_438.length : Int) (2 : Int)) (fun r30_440 =>
          gate (roomFor ((b22_439 ++ m0_437).length + r30_440.length) 1) (
            bindO (arch_bytes N (data4_436.length : Int) (2 : Int)) (fun r35_441 =>
              gate (roomFor (((b22_439 ++ m0_437) ++ r30_440).length + r35_441.length) 1) (
                let b36_442 : List Int := (((b22_439 ++ m0_437) ++ r30_440) ++ r35_441)
                bindO (sum_Crc N m0_438) (fun r40_443 =>
                  bindO (arch_bytes N r40_443 (4 : Int)) (fun r41_444 =>
                    gate (roomFor (b36_442.length + r41_444.length) 1) (
                      gate (roomFor ((b36_442 ++ r41_444).length + data4_436.length) 1) (
                        some ((b36_442 ++ r41_444) ++ data4_436)) none) none) none) none) none) none) none) none) none) none) none
def arch_Make.s0 {R : Type} (N : Nat) (s : R) (k0 : (List Int × List Int × Unit) → R) (c476 : List (List Int × List Int) × Int × Unit) (again : (List Int × List Int × Int × Unit) → R) (v477 : List Int × List Int × Int × Unit) : R :=
  let v19_478 : List (List Int × List Int) := c476.1
  let v20_479 : Int := c476.2.1
  let out5_480 : List Int := v477.1
  let dir6_481 : List Int := v477.2.1
  let v21_482 : Int := v477.2.2.1
  if (decide (v21_482 < v20_479)) = true then
    gate (inR v21_482 (v19_478.length : Int)) (
      bindO (arch_bytes N (out5_480.length : Int) (3 : Int)) (fun r28_483 =>
        gate (roomFor (dir6_481.length + r28_483.length) 1) (
          bindO (arch_entry N (getI ([], []) v19_478 v21_482)) (fun r32_484 =>
            gate (roomFor (out5_480.length + r32_484.length) 1) (
              again ((out5_480 ++ r32_484), (dir6_481 ++ r28_483), (IntKind.wrap .i64 (v21_482 + (1 : Int))), ())) s) s) s) s) s
  else
    k0 (out5_480, dir6_481, ())
def arch_Make (N : Nat) (l0 : List (List Int × List Int)) : Option (List Int × Int) :=
  bindO (arch_Check N l0) (fun r11_463 =>
    if (!decide (r11_463 = (0 : Int))) = true then
      some ([], r11_463)
    else
      let b18_464 : List Int := [(100 : Int), (IntKind.wrap .u8 ((l0.length : Int)))]
      iter (arch_Make.s0 N none (fun (x485 : List Int × List Int × Unit) =>
        let out5_486 : List Int := x485.1
        let dir6_487 : List Int := x485.2.1
        gate (roomFor (out5_486.length + dir6_487.length) 1) (
          gate (roomFor ((out5_486 ++ dir6_487).length + [(101 : Int)].length) 1) (
            bindO (arch_bytes N (out5_486.length : Int) (3 : Int)) (fun r45_488 =>
              gate (roomFor (((out5_486 ++ dir6_487) ++ [(101 : Int)]).length + r45_488.length) 1) (
                let b46_489 : List Int := (((out5_486 ++ dir6_487) ++ [(101 : Int)]) ++ r45_488)
                bindO (sum_Crc N dir6_487) (fun r49_490 =>
                  bindO (arch_bytes N r49_490 (4 : Int)) (fun r50_491 =>
                    gate (roomFor (b46_489.length + r50_491.length) 1) (
                      let t54_492 : Bool := (decide (((b46_489 ++ r50_491).length : Int) > (65536 : Int)))
                      if t54_492 = true then
                        some ([], (2 : Int))
                      else
                        some ((b46_489 ++ r50_491), (0 : Int))) none) none) none) none) none) none) none) (l0, (l0.length : Int), ())) none N ([], b18_464, (0 : Int), ())) none
def arch_number.r0 {R : Type} (N : Nat) (s : R) (c501 : Unit) (x503 : Int × Int) (again : (Int × Unit) → R) (v502 : Int × Unit) : R :=
  let m0_504 : Int := v502.1
  gate (decide (0 ≤ (8 : Int))) (
    let t14_505 : Int := (bitOr .i64 (shlI .i64 m0_504 (8 : Int)) (IntKind.wrap .i64 (x503.2)))
    again (t14_505, ())) s
def arch_number (N : Nat) (b0 : List Int) : Option Int :=
  bindO (backGo b0) (fun (l508 : List (Int × Int)) =>
    foldR (arch_number.r0 N none  ()) (fun (x506 : Int × Unit) =>
    let m0_507 : Int := x506.1
    some m0_507) l508 ((0 : Int), ())) none
def arch_Places.s0 {R : Type} (N : Nat) (s : R) (k0 : (List Int × Unit) → R) (c565 : Int × List Int × Int × Unit) (again : (List Int × Int × Unit) → R) (v566 : List Int × Int × Unit) : R :=
  let at6_567 : Int := c565.1
  let dir7_568 : List Int := c565.2.1
  let v65_569 : Int := c565.2.2.1
  let out8_570 : List Int := v566.1
  let v66_571 : Int := v566.2.1
  if (decide (v66_571 < v65_569)) = true then
    let t73_572 : Int := (IntKind.wrap .i64 ((2 : Int) + (IntKind.wrap .i64 ((3 : Int) * v66_571))))
    let t76_573 : Int := (IntKind.wrap .i64 ((5 : Int) + (IntKind.wrap .i64 ((3 : Int) * v66_571))))
    gate (bounds (dir7_568.length : Int) t73_572 t76_573) (
      bindO (arch_number N (cut dir7_568 t73_572 t76_573)) (fun r78_574 =>
        gate (roomFor (out8_570.length + [r78_574].length) 8) (
          again ((out8_570 ++ [r78_574]), (IntKind.wrap .i64 (v66_571 + (1 : Int))), ())) s) s) s
  else
    k0 (out8_570, ())
def arch_Places (N : Nat) (b0 : List Int) : Option (List Int × Int × Int) :=
  if (decide ((b0.length : Int) > (65536 : Int))) = true then
    some ([], ((0 : Int), (2 : Int)))
  else
    if (decide ((b0.length : Int) < (10 : Int))) = true then
      some ([], ((0 : Int), (15 : Int)))
    else
      let t19_537 : Int := (IntKind.wrap .i64 ((b0.length : Int) - (8 : Int)))
      gate (bounds (b0.length : Int) t19_537 (b0.length : Int)) (
        gate (bounds ((cut b0 t19_537 (b0.length : Int)).length : Int) (1 : Int) (4 : Int)) (
          let t22_538 : List Int := (cut (cut b0 t19_537 (b0.length : Int)) (1 : Int) (4 : Int))
          bindO (arch_number N t22_538) (fun r23_539 =>
            bindO (
              gate (inR (0 : Int) ((cut b0 t19_537 (b0.length : Int)).length : Int)) (
                let t25_542 : Int := (getI (0 : Int) (cut b0 t19_537 (b0.length : Int)) (0 : Int))
                if (!decide (t25_542 = (101 : Int))) = true then
                  some true
                else
                  let t32_543 : Int := (IntKind.wrap .i64 ((b0.length : Int) - (10 : Int)))
                  some (decide (r23_539 > t32_543))) none) (fun (c34_544 : Bool) =>
              if c34_544 = true then
                some ([], ((0 : Int), (3 : Int)))
              else
                let t39_545 : Int := (IntKind.wrap .i64 ((b0.length : Int) - (8 : Int)))
                gate (bounds (b0.length : Int) r23_539 t39_545) (
                  bindO (
                    gate (inR (0 : Int) ((cut b0 r23_539 t39_545).length : Int)) (
                      let t42_550 : Int := (getI (0 : Int) (cut b0 r23_539 t39_545) (0 : Int))
                      if (!decide (t42_550 = (100 : Int))) = true then
                        some true
                      else
                        gate (inR (1 : Int) ((cut b0 r23_539 t39_545).length : Int)) (
                          let t49_551 : Int := (getI (0 : Int) (cut b0 r23_539 t39_545) (1 : Int))
                          let t52_552 : Int := (IntKind.wrap .i64 ((3 : Int) * (IntKind.wrap .i64 (t49_551))))
                          let t54_553 : Bool := (!decide (((cut b0 r23_539 t39_545).length : Int) = (IntKind.wrap .i64 ((2 : Int) + t52_552))))
                          some t54_553) none) none) (fun (c55_554 : Bool) =>
                    if c55_554 = true then
                      some ([], ((0 : Int), (3 : Int)))
                    else
                      bindO (sum_Crc N (cut b0 r23_539 t39_545)) (fun r57_555 =>
                        gate (bounds ((cut b0 t19_537 (b0.length : Int)).length : Int) (4 : Int) ((cut b0 t19_537 (b0.length : Int)).length : Int)) (
                          let t59_556 : List Int := (cut (cut b0 t19_537 (b0.length : Int)) (4 : Int) ((cut b0 t19_537 (b0.length : Int)).length : Int))
                          bindO (arch_number N t59_556) (fun r60_557 =>
                            if (!decide (r57_555 = r60_557)) = true then
                              some ([], ((0 : Int), (13 : Int)))
                            else
                              gate (inR (1 : Int) ((cut b0 r23_539 t39_545).length : Int)) (
                                let t63_558 : Int := (getI (0 : Int) (cut b0 r23_539 t39_545) (1 : Int))
                                iter (arch_Places.s0 N none (fun (x575 : List Int × Unit) =>
                                  let out8_576 : List Int := x575.1
                                  some (out8_576, (r23_539, (0 : Int)))) (r23_539, (cut b0 r23_539 t39_545), (IntKind.wrap .i64 (t63_558)), ())) none N ([], (0 : Int), ())) none) none) none) none) none) none) none) none) none) none
def slices_Equal_byte.s0 {R : Type} (N : Nat) (s : R) (k0 : Unit → R) (kr : (Bool × Unit) → R) (c586 : List Int × List Int × Int × Unit) (again : (Int × Unit) → R) (v587 : Int × Unit) : R :=
  let s10_588 : List Int := c586.1
  let s21_589 : List Int := c586.2.1
  let v12_590 : Int := c586.2.2.1
  let v13_591 : Int := v587.1
  if (decide (v13_591 < v12_590)) = true then
    gate (inR v13_591 (s10_588.length : Int)) (
      gate (inR v13_591 (s21_589.length : Int)) (
        let t24_592 : Bool := (!decide ((getI (0 : Int) s10_588 v13_591) = (getI (0 : Int) s21_589 v13_591)))
        if t24_592 = true then
          kr (false, ())
        else
          again ((IntKind.wrap .i64 (v13_591 + (1 : Int))), ())) s) s
  else
    k0 ()
def slices_Equal_byte (N : Nat) (s10 : List Int) (s21 : List Int) : Option Bool :=
  let t10_584 : Bool := (!decide ((s10.length : Int) = (s21.length : Int)))
  if t10_584 = true then
    some false
  else
    iter (slices_Equal_byte.s0 N none (fun (x593 : Unit) =>
      some true) (fun (x594 : Bool × Unit) =>
      let v4_595 : Bool := x594.1
      some v4_595) (s10, s21, (s10.length : Int), ())) none N ((0 : Int), ())
def wrackkeep2_packs (N : Nat) : Option Bool :=
  bindO (arch_Pack N [(7 : Int), (7 : Int), (7 : Int)]) (fun r2_597 =>
    bindO (slices_Equal_byte N r2_597 [(3 : Int), (7 : Int)]) (fun r4_598 =>
      some r4_598) none) none
def slices_Clone_byte (N : Nat) (s0 : List Int) : Option (List Int) :=
  gate (roomFor (([] : List Int).length + s0.length) 1) (
    some (([] : List Int) ++ s0)) none
def bits_Mul64 (N : Nat) (x0 : Int) (y1 : Int) : Option (Int × Int) :=
  gate (decide (0 ≤ (32 : Int))) (
    gate (decide (0 ≤ (32 : Int))) (
      let t24_683 : Int := (IntKind.wrap .u64 ((bitAnd .u64 x0 (4294967295 : Int)) * (bitAnd .u64 y1 (4294967295 : Int))))
      let t27_684 : Int := (IntKind.wrap .u64 ((shrI .u64 x0 (32 : Int)) * (bitAnd .u64 y1 (4294967295 : Int))))
      gate (decide (0 ≤ (32 : Int))) (
        let t30_685 : Int := (IntKind.wrap .u64 (t27_684 + (shrI .u64 t24_683 (32 : Int))))
        gate (decide (0 ≤ (32 : Int))) (
          let t38_686 : Int := (IntKind.wrap .u64 ((bitAnd .u64 x0 (4294967295 : Int)) * (shrI .u64 y1 (32 : Int))))
          let t39_687 : Int := (IntKind.wrap .u64 ((bitAnd .u64 t30_685 (4294967295 : Int)) + t38_686))
          let t42_688 : Int := (IntKind.wrap .u64 ((shrI .u64 x0 (32 : Int)) * (shrI .u64 y1 (32 : Int))))
          let t44_689 : Int := (IntKind.wrap .u64 (t42_688 + (shrI .u64 t30_685 (32 : Int))))
          gate (decide (0 ≤ (32 : Int))) (
            let t47_690 : Int := (IntKind.wrap .u64 (t44_689 + (shrI .u64 t39_687 (32 : Int))))
            some (t47_690, (IntKind.wrap .u64 (x0 * y1)))) none) none) none) none) none
def bits_Mul (N : Nat) (x0 : Int) (y1 : Int) : Option (Int × Int) :=
  bindO (bits_Mul64 N x0 y1) (fun r25_692 =>
    some r25_692) none
def slices_Repeat_byte.s0 {R : Type} (N : Nat) (s : R) (k0 : (List Int × Unit) → R) (c713 : Unit) (again : (List Int × Int × Unit) → R) (v714 : List Int × Int × Unit) : R :=
  let newslice7_715 : List Int := v714.1
  let n8_716 : Int := v714.2.1
  let t37_717 : Bool := (decide (n8_716 < (newslice7_715.length : Int)))
  if t37_717 = true then
    gate (bounds (newslice7_715.length : Int) n8_716 (newslice7_715.length : Int)) (
      gate (bounds (newslice7_715.length : Int) (0 : Int) n8_716) (
        let t45_718 : Int := (((min (cut newslice7_715 (0 : Int) n8_716).length ((newslice7_715.length : Int) - n8_716).toNat) : Nat) : Int)
        let b45_719 : List Int := (over newslice7_715 (cut newslice7_715 (0 : Int) n8_716) (n8_716).toNat (min (cut newslice7_715 (0 : Int) n8_716).length ((newslice7_715.length : Int) - n8_716).toNat))
        again (b45_719, (IntKind.wrap .i64 (n8_716 + t45_718)), ())) s) s
  else
    k0 (newslice7_715, ())
def slices_Repeat_byte (N : Nat) (x0 : List Int) (count1 : Int) : Option (List Int) :=
  if (decide (count1 < (0 : Int))) = true then
    none
  else
    bindO (bits_Mul N (IntKind.wrap .u64 ((x0.length : Int))) (IntKind.wrap .u64 (count1))) (fun r18_704 =>
      bindO (
        if (decide (r18_704.1 > (0 : Int))) = true then
          some true
        else
          let t25_706 : Bool := (decide (r18_704.2 > (9223372036854775807 : Int)))
          some t25_706) (fun (c26_707 : Bool) =>
        if c26_707 = true then
          none
        else
          gate (decide (0 ≤ (IntKind.wrap .i64 (r18_704.2)) ∧ (IntKind.wrap .i64 (r18_704.2)) ≤ (IntKind.wrap .i64 (r18_704.2))) && roomFor ((IntKind.wrap .i64 (r18_704.2))).toNat 1) (
            let b30_708 : List Int := (List.replicate ((IntKind.wrap .i64 (r18_704.2))).toNat (0 : Int))
            let t33_709 : Int := (((min x0.length b30_708.length) : Nat) : Int)
            let b33_710 : List Int := (over b30_708 x0 0 (min x0.length b30_708.length))
            iter (slices_Repeat_byte.s0 N none (fun (x720 : List Int × Unit) =>
              let newslice7_721 : List Int := x720.1
              some newslice7_721) ()) none N (b33_710, t33_709, ())) none) none) none
def arch_Unpack.s0 {R : Type} (N : Nat) (s : R) (k0 : (List Int × Unit) → R) (kr : (Int × Unit) → R) (c737 : List Int × Int × Unit) (again : (List Int × Int × Unit) → R) (v738 : List Int × Int × Unit) : R :=
  let b0_739 : List Int := c737.1
  let many1_740 : Int := c737.2.1
  let out6_741 : List Int := v738.1
  let i7_742 : Int := v738.2.1
  if (decide (i7_742 < (b0_739.length : Int))) = true then
    gate (inR i7_742 (b0_739.length : Int)) (
      let t22_743 : Bool := (decide ((getI (0 : Int) b0_739 i7_742) = (0 : Int)))
      if t22_743 = true then
        kr ((3 : Int), ())
      else
        gate (inR i7_742 (b0_739.length : Int)) (
          let t27_744 : Int := (IntKind.wrap .i64 ((getI (0 : Int) b0_739 i7_742)))
          let t31_745 : Int := (IntKind.wrap .i64 (many1_740 - (out6_741.length : Int)))
          if (decide (t27_744 > t31_745)) = true then
            kr ((2 : Int), ())
          else
            gate (inR (IntKind.wrap .i64 (i7_742 + (1 : Int))) (b0_739.length : Int)) (
              let t37_746 : Int := (getI (0 : Int) b0_739 (IntKind.wrap .i64 (i7_742 + (1 : Int))))
              gate (inR i7_742 (b0_739.length : Int)) (
                let t44_747 : Int := (IntKind.wrap .i64 ((getI (0 : Int) b0_739 i7_742)))
                bindO (slices_Repeat_byte N [t37_746] t44_747) (fun r45_748 =>
                  gate (roomFor (out6_741.length + r45_748.length) 1) (
                    again ((out6_741 ++ r45_748), (IntKind.wrap .i64 (i7_742 + (2 : Int))), ())) s) s) s) s) s) s
  else
    k0 (out6_741, ())
def arch_Unpack (N : Nat) (b0 : List Int) (many1 : Int) : Option (List Int × Int) :=
  gate (decide ((2 : Int) ≠ 0)) (
    let t11_730 : Bool := (!decide ((Int.tmod (b0.length : Int) (2 : Int)) = (0 : Int)))
    if t11_730 = true then
      some ([], (3 : Int))
    else
      iter (arch_Unpack.s0 N none (fun (x749 : List Int × Unit) =>
        let out6_750 : List Int := x749.1
        some (out6_750, (0 : Int))) (fun (x751 : Int × Unit) =>
        let v5_752 : Int := x751.1
        some ([], v5_752)) (b0, many1, ())) none N ([], (0 : Int), ())) none
def arch_one (N : Nat) (b0 : List Int) (at1 : Int) : Option ((List Int × List Int) × Int × Int) :=
  bindO (
    if (decide (at1 < (0 : Int))) = true then
      some true
    else
      some (decide (at1 > (b0.length : Int)))) (fun (c21_765 : Bool) =>
    if c21_765 = true then
      some (([], []), ((0 : Int), (3 : Int)))
    else
      gate (bounds (b0.length : Int) at1 (b0.length : Int)) (
        bindO (
          let t27_770 : Int := ((cut b0 at1 (b0.length : Int)).length : Int)
          if (decide (t27_770 < (3 : Int))) = true then
            some true
          else
            let t31_771 : Int := ((cut b0 at1 (b0.length : Int)).length : Int)
            gate (inR (2 : Int) ((cut b0 at1 (b0.length : Int)).length : Int)) (
              let t33_772 : Int := (getI (0 : Int) (cut b0 at1 (b0.length : Int)) (2 : Int))
              let t36_773 : Int := (IntKind.wrap .i64 ((11 : Int) + (IntKind.wrap .i64 (t33_772))))
              some (decide (t31_771 < t36_773))) none) (fun (c38_774 : Bool) =>
          if c38_774 = true then
            some (([], []), ((0 : Int), (15 : Int)))
          else
            gate (inR (2 : Int) ((cut b0 at1 (b0.length : Int)).length : Int)) (
              let t41_775 : Int := (getI (0 : Int) (cut b0 at1 (b0.length : Int)) (2 : Int))
              let t46_776 : Int := (IntKind.wrap .i64 ((3 : Int) + (IntKind.wrap .i64 (t41_775))))
              gate (bounds ((cut b0 at1 (b0.length : Int)).length : Int) (3 : Int) t46_776) (
                let t47_777 : List Int := (cut (cut b0 at1 (b0.length : Int)) (3 : Int) t46_776)
                let t52_778 : Int := (IntKind.wrap .i64 ((3 : Int) + (IntKind.wrap .i64 (t41_775))))
                let t54_779 : Int := (IntKind.wrap .i64 ((5 : Int) + (IntKind.wrap .i64 (t41_775))))
                gate (bounds ((cut b0 at1 (b0.length : Int)).length : Int) t52_778 t54_779) (
                  let t55_780 : List Int := (cut (cut b0 at1 (b0.length : Int)) t52_778 t54_779)
                  bindO (arch_number N t55_780) (fun r56_781 =>
                    let t59_782 : Int := (IntKind.wrap .i64 ((5 : Int) + (IntKind.wrap .i64 (t41_775))))
                    let t61_783 : Int := (IntKind.wrap .i64 ((7 : Int) + (IntKind.wrap .i64 (t41_775))))
                    gate (bounds ((cut b0 at1 (b0.length : Int)).length : Int) t59_782 t61_783) (
                      let t62_784 : List Int := (cut (cut b0 at1 (b0.length : Int)) t59_782 t61_783)
                      bindO (arch_number N t62_784) (fun r63_785 =>
                        let t66_786 : Int := (IntKind.wrap .i64 ((7 : Int) + (IntKind.wrap .i64 (t41_775))))
                        let t68_787 : Int := (IntKind.wrap .i64 ((11 : Int) + (IntKind.wrap .i64 (t41_775))))
                        gate (bounds ((cut b0 at1 (b0.length : Int)).length : Int) t66_786 t68_787) (
                          let t69_788 : List Int := (cut (cut b0 at1 (b0.length : Int)) t66_786 t68_787)
                          bindO (arch_number N t69_788) (fun r70_789 =>
                            bindO (
                              gate (inR (0 : Int) ((cut b0 at1 (b0.length : Int)).length : Int)) (
                                let t72_794 : Int := (getI (0 : Int) (cut b0 at1 (b0.length : Int)) (0 : Int))
                                if (!decide (t72_794 = (105 : Int))) = true then
                                  some true
                                else
                                  gate (inR (1 : Int) ((cut b0 at1 (b0.length : Int)).length : Int)) (
                                    let t77_795 : Int := (getI (0 : Int) (cut b0 at1 (b0.length : Int)) (1 : Int))
                                    if (decide (t77_795 > (1 : Int))) = true then
                                      some true
                                    else
                                      bindO (fs_Path N t47_777) (fun r84_796 =>
                                        if (!decide (r84_796 = (0 : Int))) = true then
                                          some true
                                        else
                                          if (decide (r56_781 > (2048 : Int))) = true then
                                            some true
                                          else
                                            gate (inR (1 : Int) ((cut b0 at1 (b0.length : Int)).length : Int)) (
                                              let t93_797 : Int := (getI (0 : Int) (cut b0 at1 (b0.length : Int)) (1 : Int))
                                              if (decide (t93_797 = (0 : Int))) = true then
                                                some (!decide (r56_781 = r63_785))
                                              else
                                                some false) none) none) none) none) (fun (c101_798 : Bool) =>
                              if c101_798 = true then
                                some (([], []), ((0 : Int), (3 : Int)))
                              else
                                let t104_799 : Int := ((cut b0 at1 (b0.length : Int)).length : Int)
                                let t106_800 : Int := (IntKind.wrap .i64 ((11 : Int) + (IntKind.wrap .i64 (t41_775))))
                                let t109_801 : Bool := (decide (t104_799 < (IntKind.wrap .i64 (t106_800 + r63_785))))
                                if t109_801 = true then
                                  some (([], []), ((0 : Int), (15 : Int)))
                                else
                                  let t113_802 : Int := (IntKind.wrap .i64 ((11 : Int) + (IntKind.wrap .i64 (t41_775))))
                                  let t115_803 : Int := (IntKind.wrap .i64 ((11 : Int) + (IntKind.wrap .i64 (t41_775))))
                                  gate (bounds ((cut b0 at1 (b0.length : Int)).length : Int) t113_802 (IntKind.wrap .i64 (t115_803 + r63_785))) (
                                    let t118_804 : List Int := (cut (cut b0 at1 (b0.length : Int)) t113_802 (IntKind.wrap .i64 (t115_803 + r63_785)))
                                    bindO (slices_Clone_byte N t118_804) (fun r119_805 =>
                                      gate (inR (1 : Int) ((cut b0 at1 (b0.length : Int)).length : Int)) (
                                        let t122_806 : Int := (getI (0 : Int) (cut b0 at1 (b0.length : Int)) (1 : Int))
                                        if (decide (t122_806 = (1 : Int))) = true then
                                          bindO (arch_Unpack N r119_805 r56_781) (fun r129_811 =>
                                            bindO (
                                              if (!decide (r129_811.2 = (0 : Int))) = true then
                                                some true
                                              else
                                                let t138_813 : Bool := (!decide ((r129_811.1.length : Int) = r56_781))
                                                some t138_813) (fun (c139_814 : Bool) =>
                                              if c139_814 = true then
                                                some (([], []), ((0 : Int), (3 : Int)))
                                              else
                                                bindO (sum_Crc N r129_811.1) (fun r145_815 =>
                                                  if (!decide (r145_815 = r70_789)) = true then
                                                    some (([], []), ((0 : Int), (13 : Int)))
                                                  else
                                                    let t153_816 : Int := (IntKind.wrap .i64 ((IntKind.wrap .i64 (at1 + (11 : Int))) + (IntKind.wrap .i64 (t41_775))))
                                                    some ((t47_777, r129_811.1), ((IntKind.wrap .i64 (t153_816 + r63_785)), (0 : Int)))) none) none) none
                                        else
                                          bindO (sum_Crc N r119_805) (fun r145_817 =>
                                            if (!decide (r145_817 = r70_789)) = true then
                                              some (([], []), ((0 : Int), (13 : Int)))
                                            else
                                              let t153_818 : Int := (IntKind.wrap .i64 ((IntKind.wrap .i64 (at1 + (11 : Int))) + (IntKind.wrap .i64 (t41_775))))
                                              some ((t47_777, r119_805), ((IntKind.wrap .i64 (t153_818 + r63_785)), (0 : Int)))) none) none) none) none) none) none) none) none) none) none) none) none) none) none) none) none
def arch_Scan.s0 {R : Type} (N : Nat) (s : R) (kr : (List (List Int × List Int) × Int × Int × Unit) → R) (c833 : List Int × Unit) (again : (List (List Int × List Int) × Int × Unit) → R) (v834 : List (List Int × List Int) × Int × Unit) : R :=
  let b0_835 : List Int := c833.1
  let out5_836 : List (List Int × List Int) := v834.1
  let at6_837 : Int := v834.2.1
  bindO (arch_one N b0_835 at6_837) (fun r16_838 =>
    if (!decide (r16_838.2.2 = (0 : Int))) = true then
      kr (out5_836, at6_837, r16_838.2.2, ())
    else
      gate (bounds (out5_836.length : Int) (0 : Int) (out5_836.length : Int) && decide ((out5_836.length : Int) = (out5_836.length : Int))) (
        gate (roomFor ((cut out5_836 (0 : Int) (out5_836.length : Int)).length + [r16_838.1].length) 40 && (decide (0 < [r16_838.1].length) || decide ((0 : Int) = (out5_836.length : Int)))) (
          let b33_839 : List (List Int × List Int) := ((cut out5_836 (0 : Int) (out5_836.length : Int)) ++ [r16_838.1])
          bindO (arch_Check N b33_839) (fun r34_840 =>
            if (!decide (r34_840 = (0 : Int))) = true then
              kr (out5_836, at6_837, (7 : Int), ())
            else
              gate (roomFor (out5_836.length + [r16_838.1].length) 40) (
                again ((out5_836 ++ [r16_838.1]), r16_838.2.1, ())) s) s) s) s) s
def arch_Scan (N : Nat) (b0 : List Int) : Option (List (List Int × List Int) × Int × Int) :=
  if (decide ((b0.length : Int) > (65536 : Int))) = true then
    some ([], ((0 : Int), (2 : Int)))
  else
    iter (arch_Scan.s0 N none (fun (x841 : List (List Int × List Int) × Int × Int × Unit) =>
      let v2_842 : List (List Int × List Int) := x841.1
      let v3_843 : Int := x841.2.1
      let v4_844 : Int := x841.2.2.1
      some (v2_842, (v3_843, v4_844))) (b0, ())) none N ([], (0 : Int), ())
def wrackkeep2_sameItems_1 (N : Nat) (x0 : List Int × List Int) (y1 : List Int × List Int) : Option Bool :=
  bindO (
    if (decide (x0.1 = y1.1)) = true then
      bindO (slices_Equal_byte N x0.2 y1.2) (fun r15_851 =>
        some r15_851) none
    else
      some false) (fun (c4_852 : Bool) =>
    some c4_852) none
def wrackkeep2_sameItems_i0_slices_EqualFunc.s0 {R : Type} (N : Nat) (s : R) (k0 : Unit → R) (kr : (Bool × Unit) → R) (c859 : List (List Int × List Int) × List (List Int × List Int) × Int × Unit) (again : (Int × Unit) → R) (v860 : Int × Unit) : R :=
  let s21_861 : List (List Int × List Int) := c859.1
  let v15_862 : List (List Int × List Int) := c859.2.1
  let v16_863 : Int := c859.2.2.1
  let v17_864 : Int := v860.1
  if (decide (v17_864 < v16_863)) = true then
    gate (inR v17_864 (v15_862.length : Int)) (
      gate (inR v17_864 (s21_861.length : Int)) (
        bindO (wrackkeep2_sameItems_1 N (getI ([], []) v15_862 v17_864) (getI ([], []) s21_861 v17_864)) (fun r29_865 =>
          if (!r29_865) = true then
            kr (false, ())
          else
            again ((IntKind.wrap .i64 (v17_864 + (1 : Int))), ())) s) s) s
  else
    k0 ()
def wrackkeep2_sameItems (N : Nat) (a0 : List (List Int × List Int)) (b1 : List (List Int × List Int)) : Option Bool :=
  let t14_857 : Bool := (!decide ((a0.length : Int) = (b1.length : Int)))
  if t14_857 = true then
    some false
  else
    iter (wrackkeep2_sameItems_i0_slices_EqualFunc.s0 N none (fun (x866 : Unit) =>
      some true) (fun (x867 : Bool × Unit) =>
      let v6_868 : Bool := x867.1
      some v6_868) (b1, a0, (a0.length : Int), ())) none N ((0 : Int), ())
def wrackkeep2_ArchEnds.s0 {R : Type} (N : Nat) (s : R) (k0 : (List (List Int × List Int) × List Int × Int × Unit) → R) (c902 : Int × Int × Int × Unit) (again : (List (List Int × List Int) × List Int × List Int × Int × Int × Unit) → R) (v903 : List (List Int × List Int) × List Int × List Int × Int × Int × Unit) : R :=
  let cut1_904 : Int := c902.1
  let end9_905 : Int := c902.2.1
  let v52_906 : Int := c902.2.2.1
  let all5_907 : List (List Int × List Int) := v903.1
  let b6_908 : List Int := v903.2.1
  let at8_909 : List Int := v903.2.2.1
  let whole11_910 : Int := v903.2.2.2.1
  let v53_911 : Int := v903.2.2.2.2.1
  if (decide (v53_911 < v52_906)) = true then
    let t61_912 : Bool := (decide ((IntKind.wrap .i64 (v53_911 + (1 : Int))) < (at8_909.length : Int)))
    bindO ((
      if t61_912 = true then
        gate (inR (IntKind.wrap .i64 (v53_911 + (1 : Int))) (at8_909.length : Int)) (
          gate (inR (IntKind.wrap .i64 (v53_911 + (1 : Int))) (at8_909.length : Int)) (
            let t66_914 : Int := (getI (0 : Int) at8_909 (IntKind.wrap .i64 (v53_911 + (1 : Int))))
            some (all5_907, b6_908, at8_909, t66_914, ())) none) none
      else
        some (all5_907, b6_908, at8_909, end9_905, ()) : Option (List (List Int × List Int) × List Int × List Int × Int × Unit))) (fun j915 =>
      let all5_916 : List (List Int × List Int) := j915.1
      let b6_917 : List Int := j915.2.1
      let at8_918 : List Int := j915.2.2.1
      let next13_919 : Int := j915.2.2.2.1
      if (decide (next13_919 ≤ cut1_904)) = true then
        again (all5_916, b6_917, at8_918, (IntKind.wrap .i64 (v53_911 + (1 : Int))), (IntKind.wrap .i64 (v53_911 + (1 : Int))), ())
      else
        again (all5_916, b6_917, at8_918, whole11_910, (IntKind.wrap .i64 (v53_911 + (1 : Int))), ())) s
  else
    k0 (all5_907, b6_908, whole11_910, ())
def wrackkeep2_ArchEnds (N : Nat) (l0 : List Int) (cut1 : Int) : Option Bool :=
  bindO (wrackkeep2_items N l0) (fun r18_872 =>
    bindO (arch_Make N r18_872) (fun r21_873 =>
      bindO (arch_Places N r21_873.1) (fun r26_874 =>
        bindO (
          bindO (wrackkeep2_packs N) (fun r30_877 =>
            if (!r30_877) = true then
              some true
            else
              if (!decide (r21_873.2 = (0 : Int))) = true then
                some true
              else
                if (!decide (r26_874.2.2 = (0 : Int))) = true then
                  some true
                else
                  let t45_878 : Bool := (!decide ((r26_874.1.length : Int) = (r18_872.length : Int)))
                  some t45_878) none) (fun (c46_879 : Bool) =>
          if c46_879 = true then
            some false
          else
            let t49_880 : Int := (IntKind.wrap .i64 (r26_874.2.1 + (1 : Int)))
            bindO (wrackmake_Below N cut1 t49_880) (fun r50_881 =>
              iter (wrackkeep2_ArchEnds.s0 N none (fun (x920 : List (List Int × List Int) × List Int × Int × Unit) =>
                let all5_921 : List (List Int × List Int) := x920.1
                let b6_922 : List Int := x920.2.1
                let whole11_923 : Int := x920.2.2.1
                gate (bounds (b6_922.length : Int) (0 : Int) r50_881) (
                  bindO (arch_Scan N (cut b6_922 (0 : Int) r50_881)) (fun r77_924 =>
                    bindO (
                      if (decide (r77_924.2.2 = (15 : Int))) = true then
                        gate (bounds (all5_921.length : Int) (0 : Int) whole11_923) (
                          bindO (wrackkeep2_sameItems N r77_924.1 (cut all5_921 (0 : Int) whole11_923)) (fun r88_926 =>
                            some r88_926) none) none
                      else
                        some false) (fun (c4_927 : Bool) =>
                      some c4_927) none) none) none) (r50_881, r26_874.2.1, (r26_874.1.length : Int), ())) none N (r18_872, r21_873.1, r26_874.1, (0 : Int), (0 : Int), ())) none) none) none) none) none
end Go.Proofs.YteekijpcdcpjkaaDoor
