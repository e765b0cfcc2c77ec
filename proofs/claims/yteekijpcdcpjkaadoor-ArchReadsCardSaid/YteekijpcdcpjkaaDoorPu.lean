import Derived.Test.YteekijpcdcpjkaaDoorAbIterFn
import Derived.Test.YteekijpcdcpjkaaDoorAbStrFn
import Derived.Test.YteekijpcdcpjkaaDoorAbDen
set_option linter.unusedVariables false
namespace Go.Proofs.YteekijpcdcpjkaaDoor
open Go Go.Ab
def arch_number.r0 {R : Type} (N : Nat) (s : R) (c8 : Unit) (x10 : Int × Int) (again : (Int × Unit) → R) (v9 : Int × Unit) : R :=
  let m0_11 : Int := v9.1
  gate (decide (0 ≤ (8 : Int))) (
    let t14_12 : Int := (bitOr .i64 (shlI .i64 m0_11 (8 : Int)) (IntKind.wrap .i64 (x10.2)))
    again (t14_12, ())) s
def arch_number (N : Nat) (b0 : List Int) : Option Int :=
  bindO (backGo b0) (fun (l15 : List (Int × Int)) =>
    foldR (arch_number.r0 N none  ()) (fun (x13 : Int × Unit) =>
    let m0_14 : Int := x13.1
    some m0_14) l15 ((0 : Int), ())) none
def sum_Crc.s1 {R : Type} (N : Nat) (s : R) (k2 : (Int × Unit) → R) (c54 : List Int × Int × Int × Unit) (again : (Int × Int × Unit) → R) (v55 : Int × Int × Unit) : R :=
  let v6_56 : List Int := c54.1
  let v7_57 : Int := c54.2.1
  let v8_58 : Int := c54.2.2.1
  let c3_59 : Int := v55.1
  let v16_60 : Int := v55.2.1
  if (decide (v16_60 < (8 : Int))) = true then
    gate (decide (0 ≤ (1 : Int))) (
      let t22_61 : Int := (IntKind.wrap .u32 ((bitAnd .u32 c3_59 (1 : Int)) * (3988292384 : Int)))
      let t23_62 : Int := (bitXor .u32 (shrI .u32 c3_59 (1 : Int)) t22_61)
      again (t23_62, (IntKind.wrap .i64 (v16_60 + (1 : Int))), ())) s
  else
    k2 (c3_59, ())
def sum_Crc.s0 {R : Type} (N : Nat) (s : R) (k0 : (Int × Unit) → R) (c45 : List Int × Int × Unit) (again : (Int × Int × Unit) → R) (v46 : Int × Int × Unit) : R :=
  let v6_47 : List Int := c45.1
  let v7_48 : Int := c45.2.1
  let c3_49 : Int := v46.1
  let v8_50 : Int := v46.2.1
  if (decide (v8_50 < v7_48)) = true then
    gate (inR v8_50 (v6_47.length : Int)) (
      let t14_51 : Int := (IntKind.wrap .u32 ((getI (0 : Int) v6_47 v8_50)))
      iter (sum_Crc.s1 N s (fun (x63 : Int × Unit) =>
        let c3_64 : Int := x63.1
        again (c3_64, (IntKind.wrap .i64 (v8_50 + (1 : Int))), ())) (v6_47, v7_48, v8_50, ())) s N ((bitXor .u32 c3_49 t14_51), (0 : Int), ())) s
  else
    k0 (c3_49, ())
def sum_Crc (N : Nat) (b0 : List Int) : Option Int :=
  iter (sum_Crc.s0 N none (fun (x65 : Int × Unit) =>
    let c3_66 : Int := x65.1
    let t28_67 : Int := (IntKind.wrap .i64 ((bitXor .u32 4294967295 c3_66)))
    some t28_67) (b0, (b0.length : Int), ())) none N ((4294967295 : Int), (0 : Int), ())
def arch_Places.s0 {R : Type} (N : Nat) (s : R) (k0 : (List Int × Unit) → R) (c108 : Int × List Int × Int × Unit) (again : (List Int × Int × Unit) → R) (v109 : List Int × Int × Unit) : R :=
  let at6_110 : Int := c108.1
  let dir7_111 : List Int := c108.2.1
  let v65_112 : Int := c108.2.2.1
  let out8_113 : List Int := v109.1
  let v66_114 : Int := v109.2.1
  if (decide (v66_114 < v65_112)) = true then
    let t73_115 : Int := (IntKind.wrap .i64 ((2 : Int) + (IntKind.wrap .i64 ((3 : Int) * v66_114))))
    let t76_116 : Int := (IntKind.wrap .i64 ((5 : Int) + (IntKind.wrap .i64 ((3 : Int) * v66_114))))
    gate (bounds (dir7_111.length : Int) t73_115 t76_116) (
      bindO (arch_number N (cut dir7_111 t73_115 t76_116)) (fun r78_117 =>
        gate (roomFor (out8_113.length + [r78_117].length) 8) (
          again ((out8_113 ++ [r78_117]), (IntKind.wrap .i64 (v66_114 + (1 : Int))), ())) s) s) s
  else
    k0 (out8_113, ())
def arch_Places (N : Nat) (b0 : List Int) : Option (List Int × Int × Int) :=
  if (decide ((b0.length : Int) > (65536 : Int))) = true then
    some ([], ((0 : Int), (2 : Int)))
  else
    if (decide ((b0.length : Int) < (10 : Int))) = true then
      some ([], ((0 : Int), (15 : Int)))
    else
      let t19_80 : Int := (IntKind.wrap .i64 ((b0.length : Int) - (8 : Int)))
      gate (bounds (b0.length : Int) t19_80 (b0.length : Int)) (
        gate (bounds ((cut b0 t19_80 (b0.length : Int)).length : Int) (1 : Int) (4 : Int)) (
          let t22_81 : List Int := (cut (cut b0 t19_80 (b0.length : Int)) (1 : Int) (4 : Int))
          bindO (arch_number N t22_81) (fun r23_82 =>
            bindO (
              gate (inR (0 : Int) ((cut b0 t19_80 (b0.length : Int)).length : Int)) (
                let t25_85 : Int := (getI (0 : Int) (cut b0 t19_80 (b0.length : Int)) (0 : Int))
                if (!decide (t25_85 = (101 : Int))) = true then
                  some true
                else
                  let t32_86 : Int := (IntKind.wrap .i64 ((b0.length : Int) - (10 : Int)))
                  some (decide (r23_82 > t32_86))) none) (fun (c34_87 : Bool) =>
              if c34_87 = true then
                some ([], ((0 : Int), (3 : Int)))
              else
                let t39_88 : Int := (IntKind.wrap .i64 ((b0.length : Int) - (8 : Int)))
                gate (bounds (b0.length : Int) r23_82 t39_88) (
                  bindO (
                    gate (inR (0 : Int) ((cut b0 r23_82 t39_88).length : Int)) (
                      let t42_93 : Int := (getI (0 : Int) (cut b0 r23_82 t39_88) (0 : Int))
                      if (!decide (t42_93 = (100 : Int))) = true then
                        some true
                      else
                        gate (inR (1 : Int) ((cut b0 r23_82 t39_88).length : Int)) (
                          let t49_94 : Int := (getI (0 : Int) (cut b0 r23_82 t39_88) (1 : Int))
                          let t52_95 : Int := (IntKind.wrap .i64 ((3 : Int) * (IntKind.wrap .i64 (t49_94))))
                          let t54_96 : Bool := (!decide (((cut b0 r23_82 t39_88).length : Int) = (IntKind.wrap .i64 ((2 : Int) + t52_95))))
                          some t54_96) none) none) (fun (c55_97 : Bool) =>
                    if c55_97 = true then
                      some ([], ((0 : Int), (3 : Int)))
                    else
                      bindO (sum_Crc N (cut b0 r23_82 t39_88)) (fun r57_98 =>
                        gate (bounds ((cut b0 t19_80 (b0.length : Int)).length : Int) (4 : Int) ((cut b0 t19_80 (b0.length : Int)).length : Int)) (
                          let t59_99 : List Int := (cut (cut b0 t19_80 (b0.length : Int)) (4 : Int) ((cut b0 t19_80 (b0.length : Int)).length : Int))
                          bindO (arch_number N t59_99) (fun r60_100 =>
                            if (!decide (r57_98 = r60_100)) = true then
                              some ([], ((0 : Int), (13 : Int)))
                            else
                              gate (inR (1 : Int) ((cut b0 r23_82 t39_88).length : Int)) (
                                let t63_101 : Int := (getI (0 : Int) (cut b0 r23_82 t39_88) (1 : Int))
                                iter (arch_Places.s0 N none (fun (x118 : List Int × Unit) =>
                                  let out8_119 : List Int := x118.1
                                  some (out8_119, (r23_82, (0 : Int)))) (r23_82, (cut b0 r23_82 t39_88), (IntKind.wrap .i64 (t63_101)), ())) none N ([], (0 : Int), ())) none) none) none) none) none) none) none) none) none) none
def strings_Split (N : Nat) (s0 : List Int) (sep1 : List Int) : Option (List (List Int)) :=
  bindO (genSplitF s0 sep1 (0 : Int) (-1 : Int)) (fun r7_150 =>
    some r7_150) none
def fs_Named.s0 {R : Type} (N : Nat) (s : R) (k0 : Unit → R) (kr : (Bool × Unit) → R) (c167 : List Int × Int × Unit) (again : (Int × Unit) → R) (v168 : Int × Unit) : R :=
  let s0_169 : List Int := c167.1
  let v23_170 : Int := c167.2.1
  let v24_171 : Int := v168.1
  if (decide (v24_171 < v23_170)) = true then
    gate (inR v24_171 (s0_169.length : Int)) (
      bindO (
        let t31_182 : Bool := (decide ((getI 0 s0_169 v24_171) < (97 : Int)))
        if t31_182 = true then
          let t38_183 : Bool := (decide ((getI 0 s0_169 v24_171) < (48 : Int)))
          if t38_183 = true then
            let t46_184 : Bool := (!decide ((getI 0 s0_169 v24_171) = (45 : Int)))
            some t46_184
          else
            let t41_185 : Bool := (decide ((getI 0 s0_169 v24_171) > (57 : Int)))
            if t41_185 = true then
              let t46_186 : Bool := (!decide ((getI 0 s0_169 v24_171) = (45 : Int)))
              some t46_186
            else
              some false
        else
          let t34_187 : Bool := (decide ((getI 0 s0_169 v24_171) > (122 : Int)))
          if t34_187 = true then
            let t38_188 : Bool := (decide ((getI 0 s0_169 v24_171) < (48 : Int)))
            if t38_188 = true then
              let t46_189 : Bool := (!decide ((getI 0 s0_169 v24_171) = (45 : Int)))
              some t46_189
            else
              let t41_190 : Bool := (decide ((getI 0 s0_169 v24_171) > (57 : Int)))
              if t41_190 = true then
                let t46_191 : Bool := (!decide ((getI 0 s0_169 v24_171) = (45 : Int)))
                some t46_191
              else
                some false
          else
            some false) (fun (c47_192 : Bool) =>
        if c47_192 = true then
          kr (false, ())
        else
          again ((IntKind.wrap .i64 (v24_171 + (1 : Int))), ())) s) s
  else
    k0 ()
def fs_Named (N : Nat) (s0 : List Int) : Option Bool :=
  bindO (
    if (decide (s0 = [])) = true then
      some true
    else
      if (decide ((s0.length : Int) > (12 : Int))) = true then
        some true
      else
        gate (inR (0 : Int) (s0.length : Int)) (
          let t15_163 : Bool := (decide ((getI 0 s0 (0 : Int)) < (97 : Int)))
          if t15_163 = true then
            some true
          else
            gate (inR (0 : Int) (s0.length : Int)) (
              let t20_164 : Bool := (decide ((getI 0 s0 (0 : Int)) > (122 : Int)))
              some t20_164) none) none) (fun (c21_165 : Bool) =>
    if c21_165 = true then
      some false
    else
      iter (fs_Named.s0 N none (fun (x193 : Unit) =>
        some true) (fun (x194 : Bool × Unit) =>
        let v2_195 : Bool := x194.1
        some v2_195) (s0, (s0.length : Int), ())) none N ((0 : Int), ())) none
def fs_Path_1 (N : Nat) (x0 : List Int) : Option Bool :=
  bindO (fs_Named N x0) (fun r4_197 =>
    some (!r4_197)) none
def fs_Path_i0_slices_ContainsFunc_i0_slices_IndexFunc.s0 {R : Type} (N : Nat) (s : R) (k0 : Unit → R) (kr : (Int × Unit) → R) (c212 : List (List Int) × Int × Unit) (again : (Int × Unit) → R) (v213 : Int × Unit) : R :=
  let s0_214 : List (List Int) := c212.1
  let v7_215 : Int := c212.2.1
  let v8_216 : Int := v213.1
  if (decide (v8_216 < v7_215)) = true then
    gate (inR v8_216 (s0_214.length : Int)) (
      bindO (fs_Path_1 N (getI [] s0_214 v8_216)) (fun r16_217 =>
        if r16_217 = true then
          kr (v8_216, ())
        else
          again ((IntKind.wrap .i64 (v8_216 + (1 : Int))), ())) s) s
  else
    k0 ()
def fs_Path (N : Nat) (s0 : List Int) : Option Int :=
  bindO (strings_Split N s0 [47]) (fun r5_206 =>
    if (decide ((r5_206.length : Int) > (4 : Int))) = true then
      some (6 : Int)
    else
      iter (fs_Path_i0_slices_ContainsFunc_i0_slices_IndexFunc.s0 N none (fun (x218 : Unit) =>
        if (decide ((-1 : Int) ≥ (0 : Int))) = true then
          some (6 : Int)
        else
          some (0 : Int)) (fun (x219 : Int × Unit) =>
        let v4_220 : Int := x219.1
        if (decide (v4_220 ≥ (0 : Int))) = true then
          some (6 : Int)
        else
          some (0 : Int)) (r5_206, (r5_206.length : Int), ())) none N ((0 : Int), ())) none
def slices_Clone_byte (N : Nat) (s0 : List Int) : Option (List Int) :=
  gate (roomFor (([] : List Int).length + s0.length) 1) (
    some (([] : List Int) ++ s0)) none
def bits_Mul64 (N : Nat) (x0 : Int) (y1 : Int) : Option (Int × Int) :=
  gate (decide (0 ≤ (32 : Int))) (
    gate (decide (0 ≤ (32 : Int))) (
      let t24_247 : Int := (IntKind.wrap .u64 ((bitAnd .u64 x0 (4294967295 : Int)) * (bitAnd .u64 y1 (4294967295 : Int))))
      let t27_248 : Int := (IntKind.wrap .u64 ((shrI .u64 x0 (32 : Int)) * (bitAnd .u64 y1 (4294967295 : Int))))
      gate (decide (0 ≤ (32 : Int))) (
        let t30_249 : Int := (IntKind.wrap .u64 (t27_248 + (shrI .u64 t24_247 (32 : Int))))
        gate (decide (0 ≤ (32 : Int))) (
          let t38_250 : Int := (IntKind.wrap .u64 ((bitAnd .u64 x0 (4294967295 : Int)) * (shrI .u64 y1 (32 : Int))))
          let t39_251 : Int := (IntKind.wrap .u64 ((bitAnd .u64 t30_249 (4294967295 : Int)) + t38_250))
          let t42_252 : Int := (IntKind.wrap .u64 ((shrI .u64 x0 (32 : Int)) * (shrI .u64 y1 (32 : Int))))
          let t44_253 : Int := (IntKind.wrap .u64 (t42_252 + (shrI .u64 t30_249 (32 : Int))))
          gate (decide (0 ≤ (32 : Int))) (
            let t47_254 : Int := (IntKind.wrap .u64 (t44_253 + (shrI .u64 t39_251 (32 : Int))))
            some (t47_254, (IntKind.wrap .u64 (x0 * y1)))) none) none) none) none) none
def bits_Mul (N : Nat) (x0 : Int) (y1 : Int) : Option (Int × Int) :=
  bindO (bits_Mul64 N x0 y1) (fun r25_256 =>
    some r25_256) none
def slices_Repeat_byte.s0 {R : Type} (N : Nat) (s : R) (k0 : (List Int × Unit) → R) (c277 : Unit) (again : (List Int × Int × Unit) → R) (v278 : List Int × Int × Unit) : R :=
  let newslice7_279 : List Int := v278.1
  let n8_280 : Int := v278.2.1
  let t37_281 : Bool := (decide (n8_280 < (newslice7_279.length : Int)))
  if t37_281 = true then
    gate (bounds (newslice7_279.length : Int) n8_280 (newslice7_279.length : Int)) (
      gate (bounds (newslice7_279.length : Int) (0 : Int) n8_280) (
        let t45_282 : Int := (((min (cut newslice7_279 (0 : Int) n8_280).length ((newslice7_279.length : Int) - n8_280).toNat) : Nat) : Int)
        let b45_283 : List Int := (over newslice7_279 (cut newslice7_279 (0 : Int) n8_280) (n8_280).toNat (min (cut newslice7_279 (0 : Int) n8_280).length ((newslice7_279.length : Int) - n8_280).toNat))
        again (b45_283, (IntKind.wrap .i64 (n8_280 + t45_282)), ())) s) s
  else
    k0 (newslice7_279, ())
def slices_Repeat_byte (N : Nat) (x0 : List Int) (count1 : Int) : Option (List Int) :=
  if (decide (count1 < (0 : Int))) = true then
    none
  else
    bindO (bits_Mul N (IntKind.wrap .u64 ((x0.length : Int))) (IntKind.wrap .u64 (count1))) (fun r18_268 =>
      bindO (
        if (decide (r18_268.1 > (0 : Int))) = true then
          some true
        else
          let t25_270 : Bool := (decide (r18_268.2 > (9223372036854775807 : Int)))
          some t25_270) (fun (c26_271 : Bool) =>
        if c26_271 = true then
          none
        else
          gate (decide (0 ≤ (IntKind.wrap .i64 (r18_268.2)) ∧ (IntKind.wrap .i64 (r18_268.2)) ≤ (IntKind.wrap .i64 (r18_268.2))) && roomFor ((IntKind.wrap .i64 (r18_268.2))).toNat 1) (
            let b30_272 : List Int := (List.replicate ((IntKind.wrap .i64 (r18_268.2))).toNat (0 : Int))
            let t33_273 : Int := (((min x0.length b30_272.length) : Nat) : Int)
            let b33_274 : List Int := (over b30_272 x0 0 (min x0.length b30_272.length))
            iter (slices_Repeat_byte.s0 N none (fun (x284 : List Int × Unit) =>
              let newslice7_285 : List Int := x284.1
              some newslice7_285) ()) none N (b33_274, t33_273, ())) none) none) none
def arch_Unpack.s0 {R : Type} (N : Nat) (s : R) (k0 : (List Int × Unit) → R) (kr : (Int × Unit) → R) (c301 : List Int × Int × Unit) (again : (List Int × Int × Unit) → R) (v302 : List Int × Int × Unit) : R :=
  let b0_303 : List Int := c301.1
  let many1_304 : Int := c301.2.1
  let out6_305 : List Int := v302.1
  let i7_306 : Int := v302.2.1
  if (decide (i7_306 < (b0_303.length : Int))) = true then
    gate (inR i7_306 (b0_303.length : Int)) (
      let t22_307 : Bool := (decide ((getI (0 : Int) b0_303 i7_306) = (0 : Int)))
      if t22_307 = true then
        kr ((3 : Int), ())
      else
        gate (inR i7_306 (b0_303.length : Int)) (
          let t27_308 : Int := (IntKind.wrap .i64 ((getI (0 : Int) b0_303 i7_306)))
          let t31_309 : Int := (IntKind.wrap .i64 (many1_304 - (out6_305.length : Int)))
          if (decide (t27_308 > t31_309)) = true then
            kr ((2 : Int), ())
          else
            gate (inR (IntKind.wrap .i64 (i7_306 + (1 : Int))) (b0_303.length : Int)) (
              let t37_310 : Int := (getI (0 : Int) b0_303 (IntKind.wrap .i64 (i7_306 + (1 : Int))))
              gate (inR i7_306 (b0_303.length : Int)) (
                let t44_311 : Int := (IntKind.wrap .i64 ((getI (0 : Int) b0_303 i7_306)))
                bindO (slices_Repeat_byte N [t37_310] t44_311) (fun r45_312 =>
                  gate (roomFor (out6_305.length + r45_312.length) 1) (
                    again ((out6_305 ++ r45_312), (IntKind.wrap .i64 (i7_306 + (2 : Int))), ())) s) s) s) s) s) s
  else
    k0 (out6_305, ())
def arch_Unpack (N : Nat) (b0 : List Int) (many1 : Int) : Option (List Int × Int) :=
  gate (decide ((2 : Int) ≠ 0)) (
    let t11_294 : Bool := (!decide ((Int.tmod (b0.length : Int) (2 : Int)) = (0 : Int)))
    if t11_294 = true then
      some ([], (3 : Int))
    else
      iter (arch_Unpack.s0 N none (fun (x313 : List Int × Unit) =>
        let out6_314 : List Int := x313.1
        some (out6_314, (0 : Int))) (fun (x315 : Int × Unit) =>
        let v5_316 : Int := x315.1
        some ([], v5_316)) (b0, many1, ())) none N ([], (0 : Int), ())) none
def arch_one (N : Nat) (b0 : List Int) (at1 : Int) : Option ((List Int × List Int) × Int × Int) :=
  bindO (
    if (decide (at1 < (0 : Int))) = true then
      some true
    else
      some (decide (at1 > (b0.length : Int)))) (fun (c21_329 : Bool) =>
    if c21_329 = true then
      some (([], []), ((0 : Int), (3 : Int)))
    else
      gate (bounds (b0.length : Int) at1 (b0.length : Int)) (
        bindO (
          let t27_334 : Int := ((cut b0 at1 (b0.length : Int)).length : Int)
          if (decide (t27_334 < (3 : Int))) = true then
            some true
          else
            let t31_335 : Int := ((cut b0 at1 (b0.length : Int)).length : Int)
            gate (inR (2 : Int) ((cut b0 at1 (b0.length : Int)).length : Int)) (
              let t33_336 : Int := (getI (0 : Int) (cut b0 at1 (b0.length : Int)) (2 : Int))
              let t36_337 : Int := (IntKind.wrap .i64 ((11 : Int) + (IntKind.wrap .i64 (t33_336))))
              some (decide (t31_335 < t36_337))) none) (fun (c38_338 : Bool) =>
          if c38_338 = true then
            some (([], []), ((0 : Int), (15 : Int)))
          else
            gate (inR (2 : Int) ((cut b0 at1 (b0.length : Int)).length : Int)) (
              let t41_339 : Int := (getI (0 : Int) (cut b0 at1 (b0.length : Int)) (2 : Int))
              let t46_340 : Int := (IntKind.wrap .i64 ((3 : Int) + (IntKind.wrap .i64 (t41_339))))
              gate (bounds ((cut b0 at1 (b0.length : Int)).length : Int) (3 : Int) t46_340) (
                let t47_341 : List Int := (cut (cut b0 at1 (b0.length : Int)) (3 : Int) t46_340)
                let t52_342 : Int := (IntKind.wrap .i64 ((3 : Int) + (IntKind.wrap .i64 (t41_339))))
                let t54_343 : Int := (IntKind.wrap .i64 ((5 : Int) + (IntKind.wrap .i64 (t41_339))))
                gate (bounds ((cut b0 at1 (b0.length : Int)).length : Int) t52_342 t54_343) (
                  let t55_344 : List Int := (cut (cut b0 at1 (b0.length : Int)) t52_342 t54_343)
                  bindO (arch_number N t55_344) (fun r56_345 =>
                    let t59_346 : Int := (IntKind.wrap .i64 ((5 : Int) + (IntKind.wrap .i64 (t41_339))))
                    let t61_347 : Int := (IntKind.wrap .i64 ((7 : Int) + (IntKind.wrap .i64 (t41_339))))
                    gate (bounds ((cut b0 at1 (b0.length : Int)).length : Int) t59_346 t61_347) (
                      let t62_348 : List Int := (cut (cut b0 at1 (b0.length : Int)) t59_346 t61_347)
                      bindO (arch_number N t62_348) (fun r63_349 =>
                        let t66_350 : Int := (IntKind.wrap .i64 ((7 : Int) + (IntKind.wrap .i64 (t41_339))))
                        let t68_351 : Int := (IntKind.wrap .i64 ((11 : Int) + (IntKind.wrap .i64 (t41_339))))
                        gate (bounds ((cut b0 at1 (b0.length : Int)).length : Int) t66_350 t68_351) (
                          let t69_352 : List Int := (cut (cut b0 at1 (b0.length : Int)) t66_350 t68_351)
                          bindO (arch_number N t69_352) (fun r70_353 =>
                            bindO (
                              gate (inR (0 : Int) ((cut b0 at1 (b0.length : Int)).length : Int)) (
                                let t72_358 : Int := (getI (0 : Int) (cut b0 at1 (b0.length : Int)) (0 : Int))
                                if (!decide (t72_358 = (105 : Int))) = true then
                                  some true
                                else
                                  gate (inR (1 : Int) ((cut b0 at1 (b0.length : Int)).length : Int)) (
                                    let t77_359 : Int := (getI (0 : Int) (cut b0 at1 (b0.length : Int)) (1 : Int))
                                    if (decide (t77_359 > (1 : Int))) = true then
                                      some true
                                    else
                                      bindO (fs_Path N t47_341) (fun r84_360 =>
                                        if (!decide (r84_360 = (0 : Int))) = true then
                                          some true
                                        else
                                          if (decide (r56_345 > (2048 : Int))) = true then
                                            some true
                                          else
                                            gate (inR (1 : Int) ((cut b0 at1 (b0.length : Int)).length : Int)) (
                                              let t93_361 : Int := (getI (0 : Int) (cut b0 at1 (b0.length : Int)) (1 : Int))
                                              if (decide (t93_361 = (0 : Int))) = true then
                                                some (!decide (r56_345 = r63_349))
                                              else
                                                some false) none) none) none) none) (fun (c101_362 : Bool) =>
                              if c101_362 = true then
                                some (([], []), ((0 : Int), (3 : Int)))
                              else
                                let t104_363 : Int := ((cut b0 at1 (b0.length : Int)).length : Int)
                                let t106_364 : Int := (IntKind.wrap .i64 ((11 : Int) + (IntKind.wrap .i64 (t41_339))))
                                let t109_365 : Bool := (decide (t104_363 < (IntKind.wrap .i64 (t106_364 + r63_349))))
                                if t109_365 = true then
                                  some (([], []), ((0 : Int), (15 : Int)))
                                else
                                  let t113_366 : Int := (IntKind.wrap .i64 ((11 : Int) + (IntKind.wrap .i64 (t41_339))))
                                  let t115_367 : Int := (IntKind.wrap .i64 ((11 : Int) + (IntKind.wrap .i64 (t41_339))))
                                  gate (bounds ((cut b0 at1 (b0.length : Int)).length : Int) t113_366 (IntKind.wrap .i64 (t115_367 + r63_349))) (
                                    let t118_368 : List Int := (cut (cut b0 at1 (b0.length : Int)) t113_366 (IntKind.wrap .i64 (t115_367 + r63_349)))
                                    bindO (slices_Clone_byte N t118_368) (fun r119_369 =>
                                      gate (inR (1 : Int) ((cut b0 at1 (b0.length : Int)).length : Int)) (
                                        let t122_370 : Int := (getI (0 : Int) (cut b0 at1 (b0.length : Int)) (1 : Int))
                                        if (decide (t122_370 = (1 : Int))) = true then
                                          bindO (arch_Unpack N r119_369 r56_345) (fun r129_375 =>
                                            bindO (
                                              if (!decide (r129_375.2 = (0 : Int))) = true then
                                                some true
                                              else
                                                let t138_377 : Bool := (!decide ((r129_375.1.length : Int) = r56_345))
                                                some t138_377) (fun (c139_378 : Bool) =>
                                              if c139_378 = true then
                                                some (([], []), ((0 : Int), (3 : Int)))
                                              else
                                                bindO (sum_Crc N r129_375.1) (fun r145_379 =>
                                                  if (!decide (r145_379 = r70_353)) = true then
                                                    some (([], []), ((0 : Int), (13 : Int)))
                                                  else
                                                    let t153_380 : Int := (IntKind.wrap .i64 ((IntKind.wrap .i64 (at1 + (11 : Int))) + (IntKind.wrap .i64 (t41_339))))
                                                    some ((t47_341, r129_375.1), ((IntKind.wrap .i64 (t153_380 + r63_349)), (0 : Int)))) none) none) none
                                        else
                                          bindO (sum_Crc N r119_369) (fun r145_381 =>
                                            if (!decide (r145_381 = r70_353)) = true then
                                              some (([], []), ((0 : Int), (13 : Int)))
                                            else
                                              let t153_382 : Int := (IntKind.wrap .i64 ((IntKind.wrap .i64 (at1 + (11 : Int))) + (IntKind.wrap .i64 (t41_339))))
                                              some ((t47_341, r119_369), ((IntKind.wrap .i64 (t153_382 + r63_349)), (0 : Int)))) none) none) none) none) none) none) none) none) none) none) none) none) none) none) none) none
def arch_Check_i0_slices_ContainsFunc_i0_slices_IndexFunc.s0 {R : Type} (N : Nat) (s : R) (k0 : (List Int × List Int × Unit) → R) (kr : (List Int × List Int × Int × Unit) → R) (c425 : List (List Int × List Int) × Int × Unit) (again : (List Int × List Int × Int × Unit) → R) (v426 : List Int × List Int × Int × Unit) : R :=
  let s0_427 : List (List Int × List Int) := c425.1
  let v7_428 : Int := c425.2.1
  let h0_429 : List Int := v426.1
  let h0_430 : List Int := v426.2.1
  let v8_431 : Int := v426.2.2.1
  if (decide (v8_431 < v7_428)) = true then
    gate (inR v8_431 (s0_427.length : Int)) (
      let t8_432 : Bool := (decide ((getI ([], []) s0_427 v8_431).1 = h0_429))
      if t8_432 = true then
        kr (h0_429, h0_430, v8_431, ())
      else
        again (h0_429, h0_430, (IntKind.wrap .i64 (v8_431 + (1 : Int))), ())) s
  else
    k0 (h0_429, h0_430, ())
def arch_Check.s0 {R : Type} (N : Nat) (s : R) (k0 : Unit → R) (kr : (Int × Unit) → R) (c416 : List (List Int × List Int) × List (List Int × List Int) × Int × Unit) (again : (Int × Unit) → R) (v417 : Int × Unit) : R :=
  let l0_418 : List (List Int × List Int) := c416.1
  let v8_419 : List (List Int × List Int) := c416.2.1
  let v9_420 : Int := c416.2.2.1
  let v10_421 : Int := v417.1
  if (decide (v10_421 < v9_420)) = true then
    gate (inR v10_421 (v8_419.length : Int)) (
      bindO (fs_Path N ((getI ([], []) v8_419 v10_421).1)) (fun r18_422 =>
        if (!decide (r18_422 = (0 : Int))) = true then
          kr ((6 : Int), ())
        else
          let t23_423 : Int := (((getI ([], []) v8_419 v10_421).2).length : Int)
          if (decide (t23_423 > (2048 : Int))) = true then
            kr ((2 : Int), ())
          else
            gate (bounds (l0_418.length : Int) (0 : Int) v10_421) (
              let t7_424 : Int := ((cut l0_418 (0 : Int) v10_421).length : Int)
              iter (arch_Check_i0_slices_ContainsFunc_i0_slices_IndexFunc.s0 N s (fun (x433 : List Int × List Int × Unit) =>
                let h0_434 : List Int := x433.1
                let h0_435 : List Int := x433.2.1
                if (decide ((-1 : Int) ≥ (0 : Int))) = true then
                  kr ((7 : Int), ())
                else
                  again ((IntKind.wrap .i64 (v10_421 + (1 : Int))), ())) (fun (x436 : List Int × List Int × Int × Unit) =>
                let h0_437 : List Int := x436.1
                let h0_438 : List Int := x436.2.1
                let v4_439 : Int := x436.2.2.1
                if (decide (v4_439 ≥ (0 : Int))) = true then
                  kr ((7 : Int), ())
                else
                  again ((IntKind.wrap .i64 (v10_421 + (1 : Int))), ())) ((cut l0_418 (0 : Int) v10_421), t7_424, ())) s N ((getI ([], []) v8_419 v10_421).1, (getI ([], []) v8_419 v10_421).2, (0 : Int), ())) s) s) s
  else
    k0 ()
def arch_Check (N : Nat) (l0 : List (List Int × List Int)) : Option Int :=
  if (decide ((l0.length : Int) > (30 : Int))) = true then
    some (9 : Int)
  else
    iter (arch_Check.s0 N none (fun (x440 : Unit) =>
      some (0 : Int)) (fun (x441 : Int × Unit) =>
      let v2_442 : Int := x441.1
      some v2_442) (l0, l0, (l0.length : Int), ())) none N ((0 : Int), ())
def arch_Read.s0 {R : Type} (N : Nat) (s : R) (k0 : (List (List Int × List Int) × Int × Unit) → R) (kr : (Int × Unit) → R) (c458 : List Int × Int × Int × Unit) (again : (List (List Int × List Int) × Int × List Int × Int × Unit) → R) (v459 : List (List Int × List Int) × Int × List Int × Int × Unit) : R :=
  let b0_460 : List Int := c458.1
  let end5_461 : Int := c458.2.1
  let v24_462 : Int := c458.2.2.1
  let out7_463 : List (List Int × List Int) := v459.1
  let next8_464 : Int := v459.2.1
  let v23_465 : List Int := v459.2.2.1
  let v25_466 : Int := v459.2.2.2.1
  if (decide (v25_466 < v24_462)) = true then
    gate (inR v25_466 (v23_465.length : Int)) (
      gate (inR v25_466 (v23_465.length : Int)) (
        let t31_467 : Bool := (!decide ((getI (0 : Int) v23_465 v25_466) = next8_464))
        if t31_467 = true then
          kr ((3 : Int), ())
        else
          gate (bounds (b0_460.length : Int) (0 : Int) end5_461) (
            bindO (arch_one N (cut b0_460 (0 : Int) end5_461) (getI (0 : Int) v23_465 v25_466)) (fun r37_468 =>
              if (!decide (r37_468.2.2 = (0 : Int))) = true then
                kr (r37_468.2.2, ())
              else
                gate (roomFor (out7_463.length + [r37_468.1].length) 40) (
                  again ((out7_463 ++ [r37_468.1]), r37_468.2.1, v23_465, (IntKind.wrap .i64 (v25_466 + (1 : Int))), ())) s) s) s) s) s
  else
    k0 (out7_463, next8_464, ())
def arch_Read (N : Nat) (b0 : List Int) : Option (List (List Int × List Int) × Int) :=
  bindO (arch_Places N b0) (fun r16_448 =>
    if (!decide (r16_448.2.2 = (0 : Int))) = true then
      some ([], r16_448.2.2)
    else
      iter (arch_Read.s0 N none (fun (x469 : List (List Int × List Int) × Int × Unit) =>
        let out7_470 : List (List Int × List Int) := x469.1
        let next8_471 : Int := x469.2.1
        bindO (
          if (!decide (next8_471 = r16_448.2.1)) = true then
            some true
          else
            bindO (arch_Check N out7_470) (fun r55_473 =>
              some (!decide (r55_473 = (0 : Int)))) none) (fun (c57_474 : Bool) =>
          if c57_474 = true then
            some ([], (3 : Int))
          else
            some (out7_470, (0 : Int))) none) (fun (x475 : Int × Unit) =>
        let v3_476 : Int := x475.1
        some ([], v3_476)) (b0, r16_448.2.1, (r16_448.1.length : Int), ())) none N ([], (0 : Int), r16_448.1, (0 : Int), ())) none
def arch_Get.s0 {R : Type} (N : Nat) (s : R) (k0 : (List Int × Unit) → R) (kr : (Int × List Int × List Int × Unit) → R) (c488 : List Int × List Int × Int × Int × Unit) (again : (List Int × Int × List Int × Unit) → R) (v489 : List Int × Int × List Int × Unit) : R :=
  let b0_490 : List Int := c488.1
  let path1_491 : List Int := c488.2.1
  let end7_492 : Int := c488.2.2.1
  let v25_493 : Int := c488.2.2.2.1
  let v24_494 : List Int := v489.1
  let v26_495 : Int := v489.2.1
  let m0_496 : List Int := v489.2.2.1
  if (decide (v26_495 < v25_493)) = true then
    gate (inR v26_495 (v24_494.length : Int)) (
      gate (inR v26_495 (v24_494.length : Int)) (
        gate (bounds (b0_490.length : Int) (0 : Int) end7_492) (
          bindO (arch_one N (cut b0_490 (0 : Int) end7_492) (getI (0 : Int) v24_494 v26_495)) (fun r35_497 =>
            if (!decide (r35_497.2.2 = (0 : Int))) = true then
              kr (r35_497.2.2, [], [], ())
            else
              if (decide (r35_497.1.1 = path1_491)) = true then
                kr ((0 : Int), r35_497.1.1, r35_497.1.2, ())
              else
                again (v24_494, (IntKind.wrap .i64 (v26_495 + (1 : Int))), m0_496, ())) s) s) s) s
  else
    k0 (m0_496, ())
def arch_Get (N : Nat) (b0 : List Int) (path1 : List Int) : Option ((List Int × List Int) × Int) :=
  bindO (arch_Places N b0) (fun r16_486 =>
    if (!decide (r16_486.2.2 = (0 : Int))) = true then
      some (([], []), r16_486.2.2)
    else
      iter (arch_Get.s0 N none (fun (x498 : List Int × Unit) =>
        let m0_499 : List Int := x498.1
        some (([], []), (8 : Int))) (fun (x500 : Int × List Int × List Int × Unit) =>
        let v5_501 : Int := x500.1
        let m0_502 : List Int := x500.2.1
        let m0_503 : List Int := x500.2.2.1
        some ((m0_502, m0_503), v5_501)) (b0, path1, r16_486.2.1, (r16_486.1.length : Int), ())) none N (r16_486.1, (0 : Int), [], ())) none
def wrackref2_le.s0 {R : Type} (N : Nat) (s : R) (k0 : (Int × Unit) → R) (c511 : List Int × Int × Unit) (again : (Int × Int × Int × Unit) → R) (v512 : Int × Int × Int × Unit) : R :=
  let v7_513 : List Int := c511.1
  let v8_514 : Int := c511.2.1
  let n3_515 : Int := v512.1
  let w4_516 : Int := v512.2.1
  let v9_517 : Int := v512.2.2.1
  if (decide (v9_517 < v8_514)) = true then
    gate (inR v9_517 (v7_513.length : Int)) (
      let t15_518 : Int := (IntKind.wrap .i64 ((getI (0 : Int) v7_513 v9_517)))
      let t18_519 : Int := (IntKind.wrap .i64 (n3_515 + (IntKind.wrap .i64 (t15_518 * w4_516))))
      again (t18_519, (IntKind.wrap .i64 (w4_516 * (256 : Int))), (IntKind.wrap .i64 (v9_517 + (1 : Int))), ())) s
  else
    k0 (n3_515, ())
def wrackref2_le (N : Nat) (b0 : List Int) : Option Int :=
  iter (wrackref2_le.s0 N none (fun (x520 : Int × Unit) =>
    let n3_521 : Int := x520.1
    some n3_521) (b0, (b0.length : Int), ())) none N ((0 : Int), (1 : Int), (0 : Int), ())
def wrackref2_Crc.s1 {R : Type} (N : Nat) (s : R) (k2 : (Int × Unit) → R) (c563 : List Int × Int × Int × Unit) (again : (Int × Int × Unit) → R) (v564 : Int × Int × Unit) : R :=
  let v6_565 : List Int := c563.1
  let v7_566 : Int := c563.2.1
  let v8_567 : Int := c563.2.2.1
  let c3_568 : Int := v564.1
  let v16_569 : Int := v564.2.1
  if (decide (v16_569 < (8 : Int))) = true then
    gate (decide ((2 : Int) ≠ 0)) (
      let t20_570 : Bool := (decide ((Int.tmod c3_568 (2 : Int)) = (1 : Int)))
      if t20_570 = true then
        gate (decide ((2 : Int) ≠ 0)) (
          let t22_571 : Int := (IntKind.wrap .u32 (Int.tdiv c3_568 (2 : Int)))
          again ((bitXor .u32 t22_571 (3988292384 : Int)), (IntKind.wrap .i64 (v16_569 + (1 : Int))), ())) s
      else
        gate (decide ((2 : Int) ≠ 0)) (
          let t25_572 : Int := (IntKind.wrap .u32 (Int.tdiv c3_568 (2 : Int)))
          again (t25_572, (IntKind.wrap .i64 (v16_569 + (1 : Int))), ())) s) s
  else
    k2 (c3_568, ())
def wrackref2_Crc.s0 {R : Type} (N : Nat) (s : R) (k0 : (Int × Unit) → R) (c554 : List Int × Int × Unit) (again : (Int × Int × Unit) → R) (v555 : Int × Int × Unit) : R :=
  let v6_556 : List Int := c554.1
  let v7_557 : Int := c554.2.1
  let c3_558 : Int := v555.1
  let v8_559 : Int := v555.2.1
  if (decide (v8_559 < v7_557)) = true then
    gate (inR v8_559 (v6_556.length : Int)) (
      let t14_560 : Int := (IntKind.wrap .u32 ((getI (0 : Int) v6_556 v8_559)))
      iter (wrackref2_Crc.s1 N s (fun (x573 : Int × Unit) =>
        let c3_574 : Int := x573.1
        again (c3_574, (IntKind.wrap .i64 (v8_559 + (1 : Int))), ())) (v6_556, v7_557, v8_559, ())) s N ((bitXor .u32 c3_558 t14_560), (0 : Int), ())) s
  else
    k0 (c3_558, ())
def wrackref2_Crc (N : Nat) (b0 : List Int) : Option Int :=
  iter (wrackref2_Crc.s0 N none (fun (x575 : Int × Unit) =>
    let c3_576 : Int := x575.1
    let t30_577 : Int := (IntKind.wrap .i64 ((bitXor .u32 4294967295 c3_576)))
    some t30_577) (b0, (b0.length : Int), ())) none N ((4294967295 : Int), (0 : Int), ())
def wrackref2_ArchPlaces.s0 {R : Type} (N : Nat) (s : R) (k1 : (List Int × Unit) → R) (c619 : List Int × Int × Int × Unit) (again : (List Int × Int × Unit) → R) (v620 : List Int × Int × Unit) : R :=
  let b0_621 : List Int := c619.1
  let n5_622 : Int := c619.2.1
  let at6_623 : Int := c619.2.2.1
  let out7_624 : List Int := v620.1
  let k8_625 : Int := v620.2.1
  let t75_626 : Bool := (decide (k8_625 < (IntKind.wrap .i64 (n5_622 - (8 : Int)))))
  if t75_626 = true then
    gate (bounds (b0_621.length : Int) k8_625 (IntKind.wrap .i64 (k8_625 + (3 : Int)))) (
      let t83_627 : List Int := (cut b0_621 k8_625 (IntKind.wrap .i64 (k8_625 + (3 : Int))))
      bindO (wrackref2_le N t83_627) (fun r84_628 =>
        gate (roomFor (out7_624.length + [r84_628].length) 8) (
          again ((out7_624 ++ [r84_628]), (IntKind.wrap .i64 (k8_625 + (3 : Int))), ())) s) s) s
  else
    k1 (out7_624, ())
def wrackref2_ArchPlaces (N : Nat) (b0 : List Int) : Option (List Int × Int × Int) :=
  if (decide ((b0.length : Int) > (65536 : Int))) = true then
    some ([], ((0 : Int), (2 : Int)))
  else
    if (decide ((b0.length : Int) < (10 : Int))) = true then
      some ([], ((0 : Int), (15 : Int)))
    else
      let t19_589 : Int := (IntKind.wrap .i64 ((b0.length : Int) - (7 : Int)))
      let t21_590 : Int := (IntKind.wrap .i64 ((b0.length : Int) - (4 : Int)))
      gate (bounds (b0.length : Int) t19_589 t21_590) (
        bindO (wrackref2_le N (cut b0 t19_589 t21_590)) (fun r23_591 =>
          bindO (
            let t26_600 : Int := (IntKind.wrap .i64 ((b0.length : Int) - (8 : Int)))
            gate (inR t26_600 (b0.length : Int)) (
              let t29_601 : Bool := (!decide ((getI (0 : Int) b0 t26_600) = (101 : Int)))
              if t29_601 = true then
                some true
              else
                let t34_602 : Bool := (decide ((IntKind.wrap .i64 (r23_591 + (10 : Int))) > (b0.length : Int)))
                if t34_602 = true then
                  some true
                else
                  gate (inR r23_591 (b0.length : Int)) (
                    let t41_603 : Bool := (!decide ((getI (0 : Int) b0 r23_591) = (100 : Int)))
                    if t41_603 = true then
                      some true
                    else
                      gate (inR (IntKind.wrap .i64 (r23_591 + (1 : Int))) (b0.length : Int)) (
                        let t49_604 : Int := (getI (0 : Int) b0 (IntKind.wrap .i64 (r23_591 + (1 : Int))))
                        let t52_605 : Int := (IntKind.wrap .i64 ((3 : Int) * (IntKind.wrap .i64 (t49_604))))
                        let t53_606 : Int := (IntKind.wrap .i64 ((IntKind.wrap .i64 (r23_591 + (2 : Int))) + t52_605))
                        let t55_607 : Int := (IntKind.wrap .i64 ((b0.length : Int) - (8 : Int)))
                        some (!decide (t53_606 = t55_607))) none) none) none) (fun (c57_608 : Bool) =>
            if c57_608 = true then
              some ([], ((0 : Int), (3 : Int)))
            else
              let t61_609 : Int := (IntKind.wrap .i64 ((b0.length : Int) - (8 : Int)))
              gate (bounds (b0.length : Int) r23_591 t61_609) (
                bindO (wrackref2_Crc N (cut b0 r23_591 t61_609)) (fun r63_610 =>
                  let t66_611 : Int := (IntKind.wrap .i64 ((b0.length : Int) - (4 : Int)))
                  gate (bounds (b0.length : Int) t66_611 (b0.length : Int)) (
                    bindO (wrackref2_le N (cut b0 t66_611 (b0.length : Int))) (fun r68_612 =>
                      if (!decide (r63_610 = r68_612)) = true then
                        some ([], ((0 : Int), (13 : Int)))
                      else
                        iter (wrackref2_ArchPlaces.s0 N none (fun (x629 : List Int × Unit) =>
                          let out7_630 : List Int := x629.1
                          some (out7_630, (r23_591, (0 : Int)))) (b0, (b0.length : Int), r23_591, ())) none N ([], (IntKind.wrap .i64 (r23_591 + (2 : Int))), ())) none) none) none) none) none) none) none
def arch_Pack.s1 {R : Type} (N : Nat) (s : R) (k2 : (List Int × Int × Unit) → R) (c716 : List Int × Int × Unit) (again : (List Int × Int × Unit) → R) (v717 : List Int × Int × Unit) : R :=
  let b0_718 : List Int := c716.1
  let i4_719 : Int := c716.2.1
  let out3_720 : List Int := v717.1
  let n5_721 : Int := v717.2.1
  bindO (
    if (decide (n5_721 < (255 : Int))) = true then
      let t18_725 : Bool := (decide ((IntKind.wrap .i64 (i4_719 + n5_721)) < (b0_718.length : Int)))
      if t18_725 = true then
        gate (inR (IntKind.wrap .i64 (i4_719 + n5_721)) (b0_718.length : Int)) (
          let t25_726 : Int := (getI (0 : Int) b0_718 (IntKind.wrap .i64 (i4_719 + n5_721)))
          gate (inR i4_719 (b0_718.length : Int)) (
            let t31_727 : Bool := (decide (t25_726 = (getI (0 : Int) b0_718 i4_719)))
            some t31_727) none) none
      else
        some false
    else
      some false) (fun (c32_728 : Bool) =>
    if c32_728 = true then
      again (out3_720, (IntKind.wrap .i64 (n5_721 + (1 : Int))), ())
    else
      k2 (out3_720, n5_721, ())) s
def arch_Pack.s0 {R : Type} (N : Nat) (s : R) (k0 : (List Int × Unit) → R) (c698 : List Int × Unit) (again : (List Int × Int × Unit) → R) (v699 : List Int × Int × Unit) : R :=
  let b0_700 : List Int := c698.1
  let out3_701 : List Int := v699.1
  let i4_702 : Int := v699.2.1
  if (decide (i4_702 < (b0_700.length : Int))) = true then
    iter (arch_Pack.s1 N s (fun (x729 : List Int × Int × Unit) =>
      let out3_730 : List Int := x729.1
      let n5_731 : Int := x729.2.1
      gate (inR i4_702 (b0_700.length : Int)) (
        let b42_732 : List Int := [(IntKind.wrap .u8 (n5_731)), (getI (0 : Int) b0_700 i4_702)]
        gate (roomFor (out3_730.length + b42_732.length) 1) (
          again ((out3_730 ++ b42_732), (IntKind.wrap .i64 (i4_702 + n5_731)), ())) s) s) (b0_700, i4_702, ())) s N (out3_701, (1 : Int), ())
  else
    k0 (out3_701, ())
def arch_Pack (N : Nat) (b0 : List Int) : Option (List Int) :=
  iter (arch_Pack.s0 N none (fun (x733 : List Int × Unit) =>
    let out3_734 : List Int := x733.1
    some out3_734) (b0, ())) none N ([], (0 : Int), ())
def slices_Equal_byte.s0 {R : Type} (N : Nat) (s : R) (k0 : Unit → R) (kr : (Bool × Unit) → R) (c743 : List Int × List Int × Int × Unit) (again : (Int × Unit) → R) (v744 : Int × Unit) : R :=
  let s10_745 : List Int := c743.1
  let s21_746 : List Int := c743.2.1
  let v12_747 : Int := c743.2.2.1
  let v13_748 : Int := v744.1
  if (decide (v13_748 < v12_747)) = true then
    gate (inR v13_748 (s10_745.length : Int)) (
      gate (inR v13_748 (s21_746.length : Int)) (
        let t24_749 : Bool := (!decide ((getI (0 : Int) s10_745 v13_748) = (getI (0 : Int) s21_746 v13_748)))
        if t24_749 = true then
          kr (false, ())
        else
          again ((IntKind.wrap .i64 (v13_748 + (1 : Int))), ())) s) s
  else
    k0 ()
def slices_Equal_byte (N : Nat) (s10 : List Int) (s21 : List Int) : Option Bool :=
  let t10_741 : Bool := (!decide ((s10.length : Int) = (s21.length : Int)))
  if t10_741 = true then
    some false
  else
    iter (slices_Equal_byte.s0 N none (fun (x750 : Unit) =>
      some true) (fun (x751 : Bool × Unit) =>
      let v4_752 : Bool := x751.1
      some v4_752) (s10, s21, (s10.length : Int), ())) none N ((0 : Int), ())
def wracklaw2_archives (N : Nat) : Option Bool :=
  bindO (arch_Pack N [(7 : Int), (7 : Int), (7 : Int)]) (fun r2_754 =>
    bindO (slices_Equal_byte N r2_754 [(3 : Int), (7 : Int)]) (fun r4_755 =>
      some r4_755) none) none
def slices_Equal_int.s0 {R : Type} (N : Nat) (s : R) (k0 : Unit → R) (kr : (Bool × Unit) → R) (c764 : List Int × List Int × Int × Unit) (again : (Int × Unit) → R) (v765 : Int × Unit) : R :=
  let s10_766 : List Int := c764.1
  let s21_767 : List Int := c764.2.1
  let v12_768 : Int := c764.2.2.1
  let v13_769 : Int := v765.1
  if (decide (v13_769 < v12_768)) = true then
    gate (inR v13_769 (s10_766.length : Int)) (
      gate (inR v13_769 (s21_767.length : Int)) (
        let t24_770 : Bool := (!decide ((getI (0 : Int) s10_766 v13_769) = (getI (0 : Int) s21_767 v13_769)))
        if t24_770 = true then
          kr (false, ())
        else
          again ((IntKind.wrap .i64 (v13_769 + (1 : Int))), ())) s) s
  else
    k0 ()
def slices_Equal_int (N : Nat) (s10 : List Int) (s21 : List Int) : Option Bool :=
  let t10_762 : Bool := (!decide ((s10.length : Int) = (s21.length : Int)))
  if t10_762 = true then
    some false
  else
    iter (slices_Equal_int.s0 N none (fun (x771 : Unit) =>
      some true) (fun (x772 : Bool × Unit) =>
      let v4_773 : Bool := x772.1
      some v4_773) (s10, s21, (s10.length : Int), ())) none N ((0 : Int), ())
def strings_Contains (N : Nat) (s0 : List Int) (substr1 : List Int) : Option Bool :=
  bindO (indexF s0 substr1) (fun r7_812 =>
    some (decide (r7_812 ≥ (0 : Int)))) none
def wrackref2_Word (N : Nat) (s0 : List Int) : Option Bool :=
  bindO (
    if (decide ((s0.length : Int) > (0 : Int))) = true then
      if (decide ((s0.length : Int) ≤ (12 : Int))) = true then
        gate (bounds (s0.length : Int) (0 : Int) (1 : Int)) (
          bindO (strings_Contains N [97, 98, 99, 100, 101, 102, 103, 104, 105, 106, 107, 108, 109, 110, 111, 112, 113, 114, 115, 116, 117, 118, 119, 120, 121, 122] (cut s0 (0 : Int) (1 : Int))) (fun r14_820 =>
            if r14_820 = true then
              bindO (trimF s0 [97, 98, 99, 100, 101, 102, 103, 104, 105, 106, 107, 108, 109, 110, 111, 112, 113, 114, 115, 116, 117, 118, 119, 120, 121, 122, 48, 49, 50, 51, 52, 53, 54, 55, 56, 57, 45]) (fun r18_821 =>
                some (decide (r18_821 = []))) none
            else
              some false) none) none
      else
        some false
    else
      some false) (fun (c2_822 : Bool) =>
    some c2_822) none
def wrackref2_Way.s0 {R : Type} (N : Nat) (s : R) (k0 : (List (List Int) × Unit) → R) (kr : (Bool × Unit) → R) (c830 : Int × Unit) (again : (List (List Int) × List (List Int) × Int × Unit) → R) (v831 : List (List Int) × List (List Int) × Int × Unit) : R :=
  let v9_832 : Int := c830.1
  let l3_833 : List (List Int) := v831.1
  let v8_834 : List (List Int) := v831.2.1
  let v10_835 : Int := v831.2.2.1
  if (decide (v10_835 < v9_832)) = true then
    gate (inR v10_835 (v8_834.length : Int)) (
      bindO (wrackref2_Word N (getI [] v8_834 v10_835)) (fun r15_836 =>
        if (!r15_836) = true then
          kr (false, ())
        else
          again (l3_833, v8_834, (IntKind.wrap .i64 (v10_835 + (1 : Int))), ())) s) s
  else
    k0 (l3_833, ())
def wrackref2_Way (N : Nat) (s0 : List Int) : Option Bool :=
  bindO (strings_Split N s0 [47]) (fun r7_828 =>
    iter (wrackref2_Way.s0 N none (fun (x837 : List (List Int) × Unit) =>
      let l3_838 : List (List Int) := x837.1
      some (decide ((l3_838.length : Int) ≤ (4 : Int)))) (fun (x839 : Bool × Unit) =>
      let v2_840 : Bool := x839.1
      some v2_840) ((r7_828.length : Int), ())) none N (r7_828, r7_828, (0 : Int), ())) none
def wrackref2_Unran.s1 {R : Type} (N : Nat) (s : R) (k2 : (List Int × Unit) → R) (kr : (Int × Unit) → R) (c891 : List Int × Int × Int × Int × Unit) (again : (List Int × Int × Unit) → R) (v892 : List Int × Int × Unit) : R :=
  let b0_893 : List Int := c891.1
  let many1_894 : Int := c891.2.1
  let i7_895 : Int := c891.2.2.1
  let v26_896 : Int := c891.2.2.2.1
  let out6_897 : List Int := v892.1
  let v27_898 : Int := v892.2.1
  if (decide (v27_898 < v26_896)) = true then
    let t32_899 : Bool := (decide ((out6_897.length : Int) ≥ many1_894))
    if t32_899 = true then
      kr ((2 : Int), ())
    else
      gate (inR (IntKind.wrap .i64 (i7_895 + (1 : Int))) (b0_893.length : Int)) (
        let t37_900 : Int := (getI (0 : Int) b0_893 (IntKind.wrap .i64 (i7_895 + (1 : Int))))
        gate (roomFor (out6_897.length + [t37_900].length) 1) (
          again ((out6_897 ++ [t37_900]), (IntKind.wrap .u8 (v27_898 + (1 : Int))), ())) s) s
  else
    k2 (out6_897, ())
def wrackref2_Unran.s0 {R : Type} (N : Nat) (s : R) (k0 : (List Int × Unit) → R) (kr : (Int × Unit) → R) (c883 : List Int × Int × Unit) (again : (List Int × Int × Unit) → R) (v884 : List Int × Int × Unit) : R :=
  let b0_885 : List Int := c883.1
  let many1_886 : Int := c883.2.1
  let out6_887 : List Int := v884.1
  let i7_888 : Int := v884.2.1
  if (decide (i7_888 < (b0_885.length : Int))) = true then
    gate (inR i7_888 (b0_885.length : Int)) (
      let t22_889 : Bool := (decide ((getI (0 : Int) b0_885 i7_888) = (0 : Int)))
      if t22_889 = true then
        kr ((3 : Int), ())
      else
        gate (inR i7_888 (b0_885.length : Int)) (
          iter (wrackref2_Unran.s1 N s (fun (x901 : List Int × Unit) =>
            let out6_902 : List Int := x901.1
            again (out6_902, (IntKind.wrap .i64 (i7_888 + (2 : Int))), ())) (fun (x903 : Int × Unit) =>
            let v5_904 : Int := x903.1
            kr (v5_904, ())) (b0_885, many1_886, i7_888, (getI (0 : Int) b0_885 i7_888), ())) s N (out6_887, (0 : Int), ())) s) s
  else
    k0 (out6_887, ())
def wrackref2_Unran (N : Nat) (b0 : List Int) (many1 : Int) : Option (List Int × Int) :=
  gate (decide ((2 : Int) ≠ 0)) (
    let t11_871 : Bool := (decide ((Int.tmod (b0.length : Int) (2 : Int)) = (1 : Int)))
    if t11_871 = true then
      some ([], (3 : Int))
    else
      iter (wrackref2_Unran.s0 N none (fun (x905 : List Int × Unit) =>
        let out6_906 : List Int := x905.1
        some (out6_906, (0 : Int))) (fun (x907 : Int × Unit) =>
        let v5_908 : Int := x907.1
        some ([], v5_908)) (b0, many1, ())) none N ([], (0 : Int), ())) none
def wrackref2_ItemAt (N : Nat) (b0 : List Int) (at1 : Int) : Option ((List Int × List Int) × Int × Int) :=
  if (decide (at1 > (b0.length : Int))) = true then
    some (([], []), ((0 : Int), (3 : Int)))
  else
    gate (bounds (b0.length : Int) at1 (b0.length : Int)) (
      bindO (
        let t25_933 : Int := ((cut b0 at1 (b0.length : Int)).length : Int)
        if (decide (t25_933 < (3 : Int))) = true then
          some true
        else
          let t29_934 : Int := ((cut b0 at1 (b0.length : Int)).length : Int)
          gate (inR (2 : Int) ((cut b0 at1 (b0.length : Int)).length : Int)) (
            let t32_935 : Int := (getI (0 : Int) (cut b0 at1 (b0.length : Int)) (2 : Int))
            let t35_936 : Bool := (decide ((IntKind.wrap .i64 (t29_934 - (11 : Int))) < (IntKind.wrap .i64 (t32_935))))
            some t35_936) none) (fun (c36_937 : Bool) =>
        if c36_937 = true then
          some (([], []), ((0 : Int), (15 : Int)))
        else
          gate (inR (2 : Int) ((cut b0 at1 (b0.length : Int)).length : Int)) (
            let t39_938 : Int := (getI (0 : Int) (cut b0 at1 (b0.length : Int)) (2 : Int))
            let t44_939 : Int := (IntKind.wrap .i64 ((3 : Int) + (IntKind.wrap .i64 (t39_938))))
            gate (bounds ((cut b0 at1 (b0.length : Int)).length : Int) (3 : Int) t44_939) (
              let t45_940 : List Int := (cut (cut b0 at1 (b0.length : Int)) (3 : Int) t44_939)
              let t49_941 : Int := (IntKind.wrap .i64 ((3 : Int) + (IntKind.wrap .i64 (t39_938))))
              let t51_942 : Int := (IntKind.wrap .i64 ((5 : Int) + (IntKind.wrap .i64 (t39_938))))
              gate (bounds ((cut b0 at1 (b0.length : Int)).length : Int) t49_941 t51_942) (
                let t52_943 : List Int := (cut (cut b0 at1 (b0.length : Int)) t49_941 t51_942)
                bindO (wrackref2_le N t52_943) (fun r53_944 =>
                  let t56_945 : Int := (IntKind.wrap .i64 ((5 : Int) + (IntKind.wrap .i64 (t39_938))))
                  let t58_946 : Int := (IntKind.wrap .i64 ((7 : Int) + (IntKind.wrap .i64 (t39_938))))
                  gate (bounds ((cut b0 at1 (b0.length : Int)).length : Int) t56_945 t58_946) (
                    let t59_947 : List Int := (cut (cut b0 at1 (b0.length : Int)) t56_945 t58_946)
                    bindO (wrackref2_le N t59_947) (fun r60_948 =>
                      bindO (
                        gate (inR (0 : Int) ((cut b0 at1 (b0.length : Int)).length : Int)) (
                          let t62_953 : Int := (getI (0 : Int) (cut b0 at1 (b0.length : Int)) (0 : Int))
                          if (!decide (t62_953 = (105 : Int))) = true then
                            some true
                          else
                            gate (inR (1 : Int) ((cut b0 at1 (b0.length : Int)).length : Int)) (
                              let t67_954 : Int := (getI (0 : Int) (cut b0 at1 (b0.length : Int)) (1 : Int))
                              if (decide (t67_954 > (1 : Int))) = true then
                                some true
                              else
                                bindO (wrackref2_Way N t45_940) (fun r73_955 =>
                                  if (!r73_955) = true then
                                    some true
                                  else
                                    if (decide (r53_944 > (2048 : Int))) = true then
                                      some true
                                    else
                                      gate (inR (1 : Int) ((cut b0 at1 (b0.length : Int)).length : Int)) (
                                        let t82_956 : Int := (getI (0 : Int) (cut b0 at1 (b0.length : Int)) (1 : Int))
                                        if (decide (t82_956 = (0 : Int))) = true then
                                          some (!decide (r60_948 = r53_944))
                                        else
                                          some false) none) none) none) none) (fun (c90_957 : Bool) =>
                        if c90_957 = true then
                          some (([], []), ((0 : Int), (3 : Int)))
                        else
                          let t93_958 : Int := ((cut b0 at1 (b0.length : Int)).length : Int)
                          let t96_959 : Int := (IntKind.wrap .i64 ((IntKind.wrap .i64 (t93_958 - (11 : Int))) - (IntKind.wrap .i64 (t39_938))))
                          if (decide (t96_959 < r60_948)) = true then
                            some (([], []), ((0 : Int), (15 : Int)))
                          else
                            let t102_960 : Int := (IntKind.wrap .i64 ((11 : Int) + (IntKind.wrap .i64 (t39_938))))
                            let t104_961 : Int := (IntKind.wrap .i64 ((11 : Int) + (IntKind.wrap .i64 (t39_938))))
                            gate (bounds ((cut b0 at1 (b0.length : Int)).length : Int) t102_960 (IntKind.wrap .i64 (t104_961 + r60_948))) (
                              let t107_962 : List Int := (cut (cut b0 at1 (b0.length : Int)) t102_960 (IntKind.wrap .i64 (t104_961 + r60_948)))
                              bindO (slices_Clone_byte N t107_962) (fun r108_963 =>
                                gate (inR (1 : Int) ((cut b0 at1 (b0.length : Int)).length : Int)) (
                                  let t110_964 : Int := (getI (0 : Int) (cut b0 at1 (b0.length : Int)) (1 : Int))
                                  if (decide (t110_964 = (1 : Int))) = true then
                                    bindO (wrackref2_Unran N r108_963 r53_944) (fun r116_969 =>
                                      bindO (
                                        if (!decide (r116_969.2 = (0 : Int))) = true then
                                          some true
                                        else
                                          let t125_971 : Bool := (!decide ((r116_969.1.length : Int) = r53_944))
                                          some t125_971) (fun (c126_972 : Bool) =>
                                        if c126_972 = true then
                                          some (([], []), ((0 : Int), (3 : Int)))
                                        else
                                          bindO (wrackref2_Crc N r116_969.1) (fun r129_973 =>
                                            let t132_974 : Int := (IntKind.wrap .i64 ((7 : Int) + (IntKind.wrap .i64 (t39_938))))
                                            let t134_975 : Int := (IntKind.wrap .i64 ((11 : Int) + (IntKind.wrap .i64 (t39_938))))
                                            gate (bounds ((cut b0 at1 (b0.length : Int)).length : Int) t132_974 t134_975) (
                                              let t135_976 : List Int := (cut (cut b0 at1 (b0.length : Int)) t132_974 t134_975)
                                              bindO (wrackref2_le N t135_976) (fun r136_977 =>
                                                if (!decide (r129_973 = r136_977)) = true then
                                                  some (([], []), ((0 : Int), (13 : Int)))
                                                else
                                                  let t145_978 : Int := (IntKind.wrap .i64 ((IntKind.wrap .i64 (at1 + (11 : Int))) + (IntKind.wrap .i64 (t39_938))))
                                                  some ((t45_940, r116_969.1), ((IntKind.wrap .i64 (t145_978 + r60_948)), (0 : Int)))) none) none) none) none) none
                                  else
                                    bindO (wrackref2_Crc N r108_963) (fun r129_979 =>
                                      let t132_980 : Int := (IntKind.wrap .i64 ((7 : Int) + (IntKind.wrap .i64 (t39_938))))
                                      let t134_981 : Int := (IntKind.wrap .i64 ((11 : Int) + (IntKind.wrap .i64 (t39_938))))
                                      gate (bounds ((cut b0 at1 (b0.length : Int)).length : Int) t132_980 t134_981) (
                                        let t135_982 : List Int := (cut (cut b0 at1 (b0.length : Int)) t132_980 t134_981)
                                        bindO (wrackref2_le N t135_982) (fun r136_983 =>
                                          if (!decide (r129_979 = r136_983)) = true then
                                            some (([], []), ((0 : Int), (13 : Int)))
                                          else
                                            let t145_984 : Int := (IntKind.wrap .i64 ((IntKind.wrap .i64 (at1 + (11 : Int))) + (IntKind.wrap .i64 (t39_938))))
                                            some ((t45_940, r108_963), ((IntKind.wrap .i64 (t145_984 + r60_948)), (0 : Int)))) none) none) none) none) none) none) none) none) none) none) none) none) none) none) none
def wrackref2_ItemsErr.s0 {R : Type} (N : Nat) (s : R) (k0 : Unit → R) (kr : (Int × Unit) → R) (c1421 : List (List Int × List Int) × Int × Unit) (again : (List (List Int × Bool) × Int × Unit) → R) (v1422 : List (List Int × Bool) × Int × Unit) : R :=
  let v10_1423 : List (List Int × List Int) := c1421.1
  let v11_1424 : Int := c1421.2.1
  let seen3_1425 : List (List Int × Bool) := v1422.1
  let v12_1426 : Int := v1422.2.1
  if (decide (v12_1426 < v11_1424)) = true then
    gate (inR v12_1426 (v10_1423.length : Int)) (
      bindO (wrackref2_Way N ((getI ([], []) v10_1423 v12_1426).1)) (fun r19_1427 =>
        if (!r19_1427) = true then
          kr ((6 : Int), ())
        else
          let t24_1431 : Int := (((getI ([], []) v10_1423 v12_1426).2).length : Int)
          if (decide (t24_1431 > (2048 : Int))) = true then
            kr ((2 : Int), ())
          else
            let t30_1433 : Bool := ((mapGet (k := .str) (v := .bool) seen3_1425 ((getI ([], []) v10_1423 v12_1426).1)).getD false)
            if t30_1433 = true then
              kr ((7 : Int), ())
            else
              let bx_1434 : List (List Int × Bool) := (mapPut (k := .str) (v := .bool) seen3_1425 ((getI ([], []) v10_1423 v12_1426).1) true)
              again (bx_1434, (IntKind.wrap .i64 (v12_1426 + (1 : Int))), ())) s) s
  else
    k0 ()
def wrackref2_ItemsErr (N : Nat) (l0 : List (List Int × List Int)) : Option Int :=
  if (decide ((l0.length : Int) > (30 : Int))) = true then
    some (9 : Int)
  else
    iter (wrackref2_ItemsErr.s0 N none (fun (x1435 : Unit) =>
      some (0 : Int)) (fun (x1436 : Int × Unit) =>
      let v2_1437 : Int := x1436.1
      some v2_1437) (l0, (l0.length : Int), ())) none N (([] : List (List Int × Bool)), (0 : Int), ())
def wrackref2_SameItems_1 (N : Nat) (x0 : List Int × List Int) (y1 : List Int × List Int) : Option Bool :=
  bindO (
    if (decide (x0.1 = y1.1)) = true then
      some (decide (x0.2 = y1.2))
    else
      some false) (fun (c4_1458 : Bool) =>
    some c4_1458) none
def wrackref2_SameItems_i0_slices_EqualFunc.s0 {R : Type} (N : Nat) (s : R) (k0 : Unit → R) (kr : (Bool × Unit) → R) (c1465 : List (List Int × List Int) × List (List Int × List Int) × Int × Unit) (again : (Int × Unit) → R) (v1466 : Int × Unit) : R :=
  let s21_1467 : List (List Int × List Int) := c1465.1
  let v15_1468 : List (List Int × List Int) := c1465.2.1
  let v16_1469 : Int := c1465.2.2.1
  let v17_1470 : Int := v1466.1
  if (decide (v17_1470 < v16_1469)) = true then
    gate (inR v17_1470 (v15_1468.length : Int)) (
      gate (inR v17_1470 (s21_1467.length : Int)) (
        bindO (wrackref2_SameItems_1 N (getI ([], []) v15_1468 v17_1470) (getI ([], []) s21_1467 v17_1470)) (fun r29_1471 =>
          if (!r29_1471) = true then
            kr (false, ())
          else
            again ((IntKind.wrap .i64 (v17_1470 + (1 : Int))), ())) s) s) s
  else
    k0 ()
def wrackref2_SameItems (N : Nat) (a0 : List (List Int × List Int)) (b1 : List (List Int × List Int)) : Option Bool :=
  let t14_1463 : Bool := (!decide ((a0.length : Int) = (b1.length : Int)))
  if t14_1463 = true then
    some false
  else
    iter (wrackref2_SameItems_i0_slices_EqualFunc.s0 N none (fun (x1472 : Unit) =>
      some true) (fun (x1473 : Bool × Unit) =>
      let v6_1474 : Bool := x1473.1
      some v6_1474) (b1, a0, (a0.length : Int), ())) none N ((0 : Int), ())
def wracklaw2_ArchReads.s0 {R : Type} (N : Nat) (s : R) (k0 : (List (List Int × List Int) × List (List Int × List Int) × Int × Int × Int × List Int × List Int × List Int × List Int × Unit) → R) (c1898 : List Int × List Int × Int × Int × Int × Int × Unit) (again : (List (List Int × List Int) × List (List Int × List Int) × Int × Int × Int × List Int × Int × List Int × List Int × List Int × List Int × Unit) → R) (v1899 : List (List Int × List Int) × List (List Int × List Int) × Int × Int × Int × List Int × Int × List Int × List Int × List Int × List Int × Unit) : R :=
  let b0_1900 : List Int := c1898.1
  let path1_1901 : List Int := c1898.2.1
  let f9_1902 : Int := c1898.2.2.1
  let g11_1903 : Int := c1898.2.2.2.1
  let dir13_1904 : Int := c1898.2.2.2.2.1
  let v94_1905 : Int := c1898.2.2.2.2.2.1
  let l8_1906 : List (List Int × List Int) := v1899.1
  let all15_1907 : List (List Int × List Int) := v1899.2.1
  let h17_1908 : Int := v1899.2.2.1
  let next18_1909 : Int := v1899.2.2.2.1
  let i19_1910 : Int := v1899.2.2.2.2.1
  let v93_1911 : List Int := v1899.2.2.2.2.2.1
  let v95_1912 : Int := v1899.2.2.2.2.2.2.1
  let m1_1913 : List Int := v1899.2.2.2.2.2.2.2.1
  let m1_1914 : List Int := v1899.2.2.2.2.2.2.2.2.1
  let m3_1915 : List Int := v1899.2.2.2.2.2.2.2.2.2.1
  let m3_1916 : List Int := v1899.2.2.2.2.2.2.2.2.2.2.1
  if (decide (v95_1912 < v94_1905)) = true then
    gate (inR v95_1912 (v93_1911.length : Int)) (
      gate (inR v95_1912 (v93_1911.length : Int)) (
        gate (bounds (b0_1900.length : Int) (0 : Int) dir13_1904) (
          bindO (wrackref2_ItemAt N (cut b0_1900 (0 : Int) dir13_1904) (getI (0 : Int) v93_1911 v95_1912)) (fun r104_1917 =>
            bindO (
              if (decide (h17_1908 = (8 : Int))) = true then
                some (decide (m3_1915 = []))
              else
                some false) (fun (c114_1918 : Bool) =>
              bindO ((
                if c114_1918 = true then
                  bindO ((
                    if (!decide (r104_1917.2.2 = (0 : Int))) = true then
                      some (l8_1906, all15_1907, r104_1917.2.2, v93_1911, m1_1913, m1_1914, [47], [], r104_1917.1.1, r104_1917.1.2, ())
                    else
                      bindO ((
                        if (decide (r104_1917.1.1 = path1_1901)) = true then
                          some (l8_1906, all15_1907, (0 : Int), v93_1911, m1_1913, m1_1914, r104_1917.1.1, r104_1917.1.2, r104_1917.1.1, r104_1917.1.2, ())
                        else
                          some (l8_1906, all15_1907, h17_1908, v93_1911, m1_1913, m1_1914, m3_1915, m3_1916, r104_1917.1.1, r104_1917.1.2, ()) : Option (List (List Int × List Int) × List (List Int × List Int) × Int × List Int × List Int × List Int × List Int × List Int × List Int × List Int × Unit))) (fun j1963 =>
                        let l8_1964 : List (List Int × List Int) := j1963.1
                        let all15_1965 : List (List Int × List Int) := j1963.2.1
                        let h17_1966 : Int := j1963.2.2.1
                        let v93_1967 : List Int := j1963.2.2.2.1
                        let m1_1968 : List Int := j1963.2.2.2.2.1
                        let m1_1969 : List Int := j1963.2.2.2.2.2.1
                        let m3_1970 : List Int := j1963.2.2.2.2.2.2.1
                        let m3_1971 : List Int := j1963.2.2.2.2.2.2.2.1
                        let m4_1972 : List Int := j1963.2.2.2.2.2.2.2.2.1
                        let m4_1973 : List Int := j1963.2.2.2.2.2.2.2.2.2.1
                        some (l8_1964, all15_1965, h17_1966, v93_1967, m1_1968, m1_1969, m3_1970, m3_1971, m4_1972, m4_1973, ())) none : Option (List (List Int × List Int) × List (List Int × List Int) × Int × List Int × List Int × List Int × List Int × List Int × List Int × List Int × Unit))) (fun j1974 =>
                    let l8_1975 : List (List Int × List Int) := j1974.1
                    let all15_1976 : List (List Int × List Int) := j1974.2.1
                    let h17_1977 : Int := j1974.2.2.1
                    let v93_1978 : List Int := j1974.2.2.2.1
                    let m1_1979 : List Int := j1974.2.2.2.2.1
                    let m1_1980 : List Int := j1974.2.2.2.2.2.1
                    let m3_1981 : List Int := j1974.2.2.2.2.2.2.1
                    let m3_1982 : List Int := j1974.2.2.2.2.2.2.2.1
                    let m4_1983 : List Int := j1974.2.2.2.2.2.2.2.2.1
                    let m4_1984 : List Int := j1974.2.2.2.2.2.2.2.2.2.1
                    some (l8_1975, all15_1976, h17_1977, v93_1978, m1_1979, m1_1980, m3_1981, m3_1982, m4_1983, m4_1984, ())) none
                else
                  some (l8_1906, all15_1907, h17_1908, v93_1911, m1_1913, m1_1914, m3_1915, m3_1916, r104_1917.1.1, r104_1917.1.2, ()) : Option (List (List Int × List Int) × List (List Int × List Int) × Int × List Int × List Int × List Int × List Int × List Int × List Int × List Int × Unit))) (fun j1985 =>
                let l8_1986 : List (List Int × List Int) := j1985.1
                let all15_1987 : List (List Int × List Int) := j1985.2.1
                let h17_1988 : Int := j1985.2.2.1
                let v93_1989 : List Int := j1985.2.2.2.1
                let m1_1990 : List Int := j1985.2.2.2.2.1
                let m1_1991 : List Int := j1985.2.2.2.2.2.1
                let m3_1992 : List Int := j1985.2.2.2.2.2.2.1
                let m3_1993 : List Int := j1985.2.2.2.2.2.2.2.1
                let m4_1994 : List Int := j1985.2.2.2.2.2.2.2.2.1
                let m4_1995 : List Int := j1985.2.2.2.2.2.2.2.2.2.1
                bindO (
                  if (decide (i19_1910 = (0 : Int))) = true then
                    let t129_1997 : Bool := (!decide ((getI (0 : Int) v93_1911 v95_1912) = next18_1909))
                    some t129_1997
                  else
                    some false) (fun (c130_1998 : Bool) =>
                  bindO ((
                    if c130_1998 = true then
                      some (l8_1986, all15_1987, (3 : Int), v93_1989, m1_1990, m1_1991, m3_1992, m3_1993, m4_1994, m4_1995, ())
                    else
                      some (l8_1986, all15_1987, i19_1910, v93_1989, m1_1990, m1_1991, m3_1992, m3_1993, m4_1994, m4_1995, ()) : Option (List (List Int × List Int) × List (List Int × List Int) × Int × List Int × List Int × List Int × List Int × List Int × List Int × List Int × Unit))) (fun j1999 =>
                    let l8_2000 : List (List Int × List Int) := j1999.1
                    let all15_2001 : List (List Int × List Int) := j1999.2.1
                    let i19_2002 : Int := j1999.2.2.1
                    let v93_2003 : List Int := j1999.2.2.2.1
                    let m1_2004 : List Int := j1999.2.2.2.2.1
                    let m1_2005 : List Int := j1999.2.2.2.2.2.1
                    let m3_2006 : List Int := j1999.2.2.2.2.2.2.1
                    let m3_2007 : List Int := j1999.2.2.2.2.2.2.2.1
                    let m4_2008 : List Int := j1999.2.2.2.2.2.2.2.2.1
                    let m4_2009 : List Int := j1999.2.2.2.2.2.2.2.2.2.1
                    bindO ((
                      if (decide (i19_2002 = (0 : Int))) = true then
                        some (l8_2000, all15_2001, r104_1917.2.2, v93_2003, m1_2004, m1_2005, m3_2006, m3_2007, m4_2008, m4_2009, ())
                      else
                        some (l8_2000, all15_2001, i19_2002, v93_2003, m1_2004, m1_2005, m3_2006, m3_2007, m4_2008, m4_2009, ()) : Option (List (List Int × List Int) × List (List Int × List Int) × Int × List Int × List Int × List Int × List Int × List Int × List Int × List Int × Unit))) (fun j2010 =>
                      let l8_2011 : List (List Int × List Int) := j2010.1
                      let all15_2012 : List (List Int × List Int) := j2010.2.1
                      let i19_2013 : Int := j2010.2.2.1
                      let v93_2014 : List Int := j2010.2.2.2.1
                      let m1_2015 : List Int := j2010.2.2.2.2.1
                      let m1_2016 : List Int := j2010.2.2.2.2.2.1
                      let m3_2017 : List Int := j2010.2.2.2.2.2.2.1
                      let m3_2018 : List Int := j2010.2.2.2.2.2.2.2.1
                      let m4_2019 : List Int := j2010.2.2.2.2.2.2.2.2.1
                      let m4_2020 : List Int := j2010.2.2.2.2.2.2.2.2.2.1
                      gate (roomFor (all15_2012.length + [(m4_2019, m4_2020)].length) 40) (
                        again (l8_2011, (all15_2012 ++ [(m4_2019, m4_2020)]), h17_1988, r104_1917.2.1, i19_2013, v93_2014, (IntKind.wrap .i64 (v95_1912 + (1 : Int))), m1_2015, m1_2016, m3_2017, m3_2018, ())) s) s) s) s) s) s) s) s) s) s
  else
    k0 (l8_1906, all15_1907, h17_1908, next18_1909, i19_1910, m1_1913, m1_1914, m3_1915, m3_1916, ())
def wracklaw2_ArchReads (N : Nat) (b0 : List Int) (path1 : List Int) : Option Bool :=
  bindO (arch_Places N b0) (fun r27_1479 =>
    bindO (arch_Read N b0) (fun r33_1480 =>
      bindO (arch_Get N b0 path1) (fun r39_1481 =>
        bindO (wrackref2_ArchPlaces N b0) (fun r44_1482 =>
          bindO (
            bindO (wracklaw2_archives N) (fun r48_1485 =>
              if (!r48_1485) = true then
                some true
              else
                if (!decide (r27_1479.2.2 = r44_1482.2.2)) = true then
                  some true
                else
                  if (!decide (r27_1479.2.1 = r44_1482.2.1)) = true then
                    some true
                  else
                    bindO (slices_Equal_int N r27_1479.1 r44_1482.1) (fun r63_1486 =>
                      some (!r63_1486)) none) none) (fun (c65_1487 : Bool) =>
            if c65_1487 = true then
              some false
            else
              if (!decide (r44_1482.2.2 = (0 : Int))) = true then
                bindO (
                  if (decide (r33_1480.2 = r44_1482.2.2)) = true then
                    if (decide (r39_1481.2 = r44_1482.2.2)) = true then
                      let t79_1495 : Bool := (decide ((r33_1480.1.length : Int) = (0 : Int)))
                      if t79_1495 = true then
                        if (decide (r39_1481.1.1 = [])) = true then
                          let t90_1496 : Bool := (decide ((r39_1481.1.2.length : Int) = (0 : Int)))
                          some t90_1496
                        else
                          some false
                      else
                        some false
                    else
                      some false
                  else
                    some false) (fun (c4_1497 : Bool) =>
                  some c4_1497) none
              else
                iter (wracklaw2_ArchReads.s0 N none (fun (x2021 : List (List Int × List Int) × List (List Int × List Int) × Int × Int × Int × List Int × List Int × List Int × List Int × Unit) =>
                  let l8_2022 : List (List Int × List Int) := x2021.1
                  let all15_2023 : List (List Int × List Int) := x2021.2.1
                  let h17_2024 : Int := x2021.2.2.1
                  let next18_2025 : Int := x2021.2.2.2.1
                  let i19_2026 : Int := x2021.2.2.2.2.1
                  let m1_2027 : List Int := x2021.2.2.2.2.2.1
                  let m1_2028 : List Int := x2021.2.2.2.2.2.2.1
                  let m3_2029 : List Int := x2021.2.2.2.2.2.2.2.1
                  let m3_2030 : List Int := x2021.2.2.2.2.2.2.2.2.1
                  bindO ((
                    if (!decide (h17_2024 = (0 : Int))) = true then
                      some (l8_2022, all15_2023, m1_2027, m1_2028, [], [], ())
                    else
                      some (l8_2022, all15_2023, m1_2027, m1_2028, m3_2029, m3_2030, ()) : Option (List (List Int × List Int) × List (List Int × List Int) × List Int × List Int × List Int × List Int × Unit))) (fun j2031 =>
                    let l8_2032 : List (List Int × List Int) := j2031.1
                    let all15_2033 : List (List Int × List Int) := j2031.2.1
                    let m1_2034 : List Int := j2031.2.2.1
                    let m1_2035 : List Int := j2031.2.2.2.1
                    let m3_2036 : List Int := j2031.2.2.2.2.1
                    let m3_2037 : List Int := j2031.2.2.2.2.2.1
                    bindO (
                      if (decide (i19_2026 = (0 : Int))) = true then
                        if (!decide (next18_2025 = r44_1482.2.1)) = true then
                          some true
                        else
                          bindO (wrackref2_ItemsErr N all15_2033) (fun r151_2039 =>
                            some (!decide (r151_2039 = (0 : Int)))) none
                      else
                        some false) (fun (c154_2040 : Bool) =>
                      bindO ((
                        if c154_2040 = true then
                          some (l8_2032, all15_2033, (3 : Int), m1_2034, m1_2035, m3_2036, m3_2037, ())
                        else
                          some (l8_2032, all15_2033, i19_2026, m1_2034, m1_2035, m3_2036, m3_2037, ()) : Option (List (List Int × List Int) × List (List Int × List Int) × Int × List Int × List Int × List Int × List Int × Unit))) (fun j2041 =>
                        let l8_2042 : List (List Int × List Int) := j2041.1
                        let all15_2043 : List (List Int × List Int) := j2041.2.1
                        let i19_2044 : Int := j2041.2.2.1
                        let m1_2045 : List Int := j2041.2.2.2.1
                        let m1_2046 : List Int := j2041.2.2.2.2.1
                        let m3_2047 : List Int := j2041.2.2.2.2.2.1
                        let m3_2048 : List Int := j2041.2.2.2.2.2.2.1
                        bindO ((
                          if (!decide (i19_2044 = (0 : Int))) = true then
                            some (l8_2042, [], m1_2045, m1_2046, m3_2047, m3_2048, ())
                          else
                            some (l8_2042, all15_2043, m1_2045, m1_2046, m3_2047, m3_2048, ()) : Option (List (List Int × List Int) × List (List Int × List Int) × List Int × List Int × List Int × List Int × Unit))) (fun j2049 =>
                          let l8_2050 : List (List Int × List Int) := j2049.1
                          let all15_2051 : List (List Int × List Int) := j2049.2.1
                          let m1_2052 : List Int := j2049.2.2.1
                          let m1_2053 : List Int := j2049.2.2.2.1
                          let m3_2054 : List Int := j2049.2.2.2.2.1
                          let m3_2055 : List Int := j2049.2.2.2.2.2.1
                          if (decide (r33_1480.2 = i19_2044)) = true then
                            bindO (wrackref2_SameItems N l8_2050 all15_2051) (fun r163_2058 =>
                              if r163_2058 = true then
                                if (decide (r39_1481.2 = h17_2024)) = true then
                                  bindO (wrackref2_SameItems N [(m1_2052, m1_2053)] [(m3_2054, m3_2055)]) (fun r175_2059 =>
                                    some r175_2059) none
                                else
                                  some false
                              else
                                some false) none
                          else
                            some false) none) none) none) none) (b0, path1, r33_1480.2, r39_1481.2, r44_1482.2.1, (r44_1482.1.length : Int), ())) none N (r33_1480.1, [], (8 : Int), (0 : Int), (0 : Int), r44_1482.1, (0 : Int), r39_1481.1.1, r39_1481.1.2, [], [], ())) none) none) none) none) none
end Go.Proofs.YteekijpcdcpjkaaDoor
