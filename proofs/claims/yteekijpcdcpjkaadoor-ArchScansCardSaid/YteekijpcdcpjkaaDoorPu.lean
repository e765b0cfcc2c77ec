import Derived.Test.YteekijpcdcpjkaaDoorAbIterFn
import Derived.Test.YteekijpcdcpjkaaDoorAbCloneFn
import Derived.Test.YteekijpcdcpjkaaDoorAbStrFn
import Derived.Test.YteekijpcdcpjkaaDoorAbDen
set_option linter.unusedVariables false
namespace Go.Proofs.YteekijpcdcpjkaaDoor
open Go Go.Ab
def arch_number.r0 {R : Type} (N : Nat) (s : R) (c22 : Unit) (x24 : Int × Int) (again : (Int × Unit) → R) (v23 : Int × Unit) : R :=
  let m0_25 : Int := v23.1
  gate (decide (0 ≤ (8 : Int))) (
    let t14_26 : Int := (bitOr .i64 (shlI .i64 m0_25 (8 : Int)) (IntKind.wrap .i64 (x24.2)))
    again (t14_26, ())) s
def arch_number (N : Nat) (b0 : List Int) : Option Int :=
  bindO (backGo b0) (fun (l29 : List (Int × Int)) =>
    foldR (arch_number.r0 N none  ()) (fun (x27 : Int × Unit) =>
    let m0_28 : Int := x27.1
    some m0_28) l29 ((0 : Int), ())) none
def strings_Split (N : Nat) (s0 : List Int) (sep1 : List Int) : Option (List (List Int)) :=
  bindO (genSplitF s0 sep1 (0 : Int) (-1 : Int)) (fun r7_42 =>
    some r7_42) none
def fs_Named.s0 {R : Type} (N : Nat) (s : R) (k0 : Unit → R) (kr : (Bool × Unit) → R) (c59 : List Int × Int × Unit) (again : (Int × Unit) → R) (v60 : Int × Unit) : R :=
  let s0_61 : List Int := c59.1
  let v23_62 : Int := c59.2.1
  let v24_63 : Int := v60.1
  if (decide (v24_63 < v23_62)) = true then
    gate (inR v24_63 (s0_61.length : Int)) (
      bindO (
        let t31_74 : Bool := (decide ((getI 0 s0_61 v24_63) < (97 : Int)))
        if t31_74 = true then
          let t38_75 : Bool := (decide ((getI 0 s0_61 v24_63) < (48 : Int)))
          if t38_75 = true then
            let t46_76 : Bool := (!decide ((getI 0 s0_61 v24_63) = (45 : Int)))
            some t46_76
          else
            let t41_77 : Bool := (decide ((getI 0 s0_61 v24_63) > (57 : Int)))
            if t41_77 = true then
              let t46_78 : Bool := (!decide ((getI 0 s0_61 v24_63) = (45 : Int)))
              some t46_78
            else
              some false
        else
          let t34_79 : Bool := (decide ((getI 0 s0_61 v24_63) > (122 : Int)))
          if t34_79 = true then
            let t38_80 : Bool := (decide ((getI 0 s0_61 v24_63) < (48 : Int)))
            if t38_80 = true then
              let t46_81 : Bool := (!decide ((getI 0 s0_61 v24_63) = (45 : Int)))
              some t46_81
            else
              let t41_82 : Bool := (decide ((getI 0 s0_61 v24_63) > (57 : Int)))
              if t41_82 = true then
                let t46_83 : Bool := (!decide ((getI 0 s0_61 v24_63) = (45 : Int)))
                some t46_83
              else
                some false
          else
            some false) (fun (c47_84 : Bool) =>
        if c47_84 = true then
          kr (false, ())
        else
          again ((IntKind.wrap .i64 (v24_63 + (1 : Int))), ())) s) s
  else
    k0 ()
def fs_Named (N : Nat) (s0 : List Int) : Option Bool :=
  bindO (
    if (decide (s0 = [])) = true then
      some true
    else
      if (decide ((s0.length : Int) > (12 : Int))) = true then
        some true
      else
        gate (inR (0 : Int) (s0.length : Int)) (
          let t15_55 : Bool := (decide ((getI 0 s0 (0 : Int)) < (97 : Int)))
          if t15_55 = true then
            some true
          else
            gate (inR (0 : Int) (s0.length : Int)) (
              let t20_56 : Bool := (decide ((getI 0 s0 (0 : Int)) > (122 : Int)))
              some t20_56) none) none) (fun (c21_57 : Bool) =>
    if c21_57 = true then
      some false
    else
      iter (fs_Named.s0 N none (fun (x85 : Unit) =>
        some true) (fun (x86 : Bool × Unit) =>
        let v2_87 : Bool := x86.1
        some v2_87) (s0, (s0.length : Int), ())) none N ((0 : Int), ())) none
def fs_Path_1 (N : Nat) (x0 : List Int) : Option Bool :=
  bindO (fs_Named N x0) (fun r4_89 =>
    some (!r4_89)) none
def fs_Path_i0_slices_ContainsFunc_i0_slices_IndexFunc.s0 {R : Type} (N : Nat) (s : R) (k0 : Unit → R) (kr : (Int × Unit) → R) (c104 : List (List Int) × Int × Unit) (again : (Int × Unit) → R) (v105 : Int × Unit) : R :=
  let s0_106 : List (List Int) := c104.1
  let v7_107 : Int := c104.2.1
  let v8_108 : Int := v105.1
  if (decide (v8_108 < v7_107)) = true then
    gate (inR v8_108 (s0_106.length : Int)) (
      bindO (fs_Path_1 N (getI [] s0_106 v8_108)) (fun r16_109 =>
        if r16_109 = true then
          kr (v8_108, ())
        else
          again ((IntKind.wrap .i64 (v8_108 + (1 : Int))), ())) s) s
  else
    k0 ()
def fs_Path (N : Nat) (s0 : List Int) : Option Int :=
  bindO (strings_Split N s0 [47]) (fun r5_98 =>
    if (decide ((r5_98.length : Int) > (4 : Int))) = true then
      some (6 : Int)
    else
      iter (fs_Path_i0_slices_ContainsFunc_i0_slices_IndexFunc.s0 N none (fun (x110 : Unit) =>
        if (decide ((-1 : Int) ≥ (0 : Int))) = true then
          some (6 : Int)
        else
          some (0 : Int)) (fun (x111 : Int × Unit) =>
        let v4_112 : Int := x111.1
        if (decide (v4_112 ≥ (0 : Int))) = true then
          some (6 : Int)
        else
          some (0 : Int)) (r5_98, (r5_98.length : Int), ())) none N ((0 : Int), ())) none
def slices_Clone_byte (N : Nat) (s0 : List Int) : Option (List Int) :=
  gate (roomFor (([] : List Int).length + s0.length) 1) (
    some (([] : List Int) ++ s0)) none
def bits_Mul64 (N : Nat) (x0 : Int) (y1 : Int) : Option (Int × Int) :=
  gate (decide (0 ≤ (32 : Int))) (
    gate (decide (0 ≤ (32 : Int))) (
      let t24_139 : Int := (IntKind.wrap .u64 ((bitAnd .u64 x0 (4294967295 : Int)) * (bitAnd .u64 y1 (4294967295 : Int))))
      let t27_140 : Int := (IntKind.wrap .u64 ((shrI .u64 x0 (32 : Int)) * (bitAnd .u64 y1 (4294967295 : Int))))
      gate (decide (0 ≤ (32 : Int))) (
        let t30_141 : Int := (IntKind.wrap .u64 (t27_140 + (shrI .u64 t24_139 (32 : Int))))
        gate (decide (0 ≤ (32 : Int))) (
          let t38_142 : Int := (IntKind.wrap .u64 ((bitAnd .u64 x0 (4294967295 : Int)) * (shrI .u64 y1 (32 : Int))))
          let t39_143 : Int := (IntKind.wrap .u64 ((bitAnd .u64 t30_141 (4294967295 : Int)) + t38_142))
          let t42_144 : Int := (IntKind.wrap .u64 ((shrI .u64 x0 (32 : Int)) * (shrI .u64 y1 (32 : Int))))
          let t44_145 : Int := (IntKind.wrap .u64 (t42_144 + (shrI .u64 t30_141 (32 : Int))))
          gate (decide (0 ≤ (32 : Int))) (
            let t47_146 : Int := (IntKind.wrap .u64 (t44_145 + (shrI .u64 t39_143 (32 : Int))))
            some (t47_146, (IntKind.wrap .u64 (x0 * y1)))) none) none) none) none) none
def bits_Mul (N : Nat) (x0 : Int) (y1 : Int) : Option (Int × Int) :=
  bindO (bits_Mul64 N x0 y1) (fun r25_148 =>
    some r25_148) none
def slices_Repeat_byte.s0 {R : Type} (N : Nat) (s : R) (k0 : (List Int × Unit) → R) (c169 : Unit) (again : (List Int × Int × Unit) → R) (v170 : List Int × Int × Unit) : R :=
  let newslice7_171 : List Int := v170.1
  let n8_172 : Int := v170.2.1
  let t37_173 : Bool := (decide (n8_172 < (newslice7_171.length : Int)))
  if t37_173 = true then
    gate (bounds (newslice7_171.length : Int) n8_172 (newslice7_171.length : Int)) (
      gate (bounds (newslice7_171.length : Int) (0 : Int) n8_172) (
        let t45_174 : Int := (((min (cut newslice7_171 (0 : Int) n8_172).length ((newslice7_171.length : Int) - n8_172).toNat) : Nat) : Int)
        let b45_175 : List Int := (over newslice7_171 (cut newslice7_171 (0 : Int) n8_172) (n8_172).toNat (min (cut newslice7_171 (0 : Int) n8_172).length ((newslice7_171.length : Int) - n8_172).toNat))
        again (b45_175, (IntKind.wrap .i64 (n8_172 + t45_174)), ())) s) s
  else
    k0 (newslice7_171, ())
def slices_Repeat_byte (N : Nat) (x0 : List Int) (count1 : Int) : Option (List Int) :=
  if (decide (count1 < (0 : Int))) = true then
    none
  else
    bindO (bits_Mul N (IntKind.wrap .u64 ((x0.length : Int))) (IntKind.wrap .u64 (count1))) (fun r18_160 =>
      bindO (
        if (decide (r18_160.1 > (0 : Int))) = true then
          some true
        else
          let t25_162 : Bool := (decide (r18_160.2 > (9223372036854775807 : Int)))
          some t25_162) (fun (c26_163 : Bool) =>
        if c26_163 = true then
          none
        else
          gate (decide (0 ≤ (IntKind.wrap .i64 (r18_160.2)) ∧ (IntKind.wrap .i64 (r18_160.2)) ≤ (IntKind.wrap .i64 (r18_160.2))) && roomFor ((IntKind.wrap .i64 (r18_160.2))).toNat 1) (
            let b30_164 : List Int := (List.replicate ((IntKind.wrap .i64 (r18_160.2))).toNat (0 : Int))
            let t33_165 : Int := (((min x0.length b30_164.length) : Nat) : Int)
            let b33_166 : List Int := (over b30_164 x0 0 (min x0.length b30_164.length))
            iter (slices_Repeat_byte.s0 N none (fun (x176 : List Int × Unit) =>
              let newslice7_177 : List Int := x176.1
              some newslice7_177) ()) none N (b33_166, t33_165, ())) none) none) none
def arch_Unpack.s0 {R : Type} (N : Nat) (s : R) (k0 : (List Int × Unit) → R) (kr : (Int × Unit) → R) (c193 : List Int × Int × Unit) (again : (List Int × Int × Unit) → R) (v194 : List Int × Int × Unit) : R :=
  let b0_195 : List Int := c193.1
  let many1_196 : Int := c193.2.1
  let out6_197 : List Int := v194.1
  let i7_198 : Int := v194.2.1
  if (decide (i7_198 < (b0_195.length : Int))) = true then
    gate (inR i7_198 (b0_195.length : Int)) (
      let t22_199 : Bool := (decide ((getI (0 : Int) b0_195 i7_198) = (0 : Int)))
      if t22_199 = true then
        kr ((3 : Int), ())
      else
        gate (inR i7_198 (b0_195.length : Int)) (
          let t27_200 : Int := (IntKind.wrap .i64 ((getI (0 : Int) b0_195 i7_198)))
          let t31_201 : Int := (IntKind.wrap .i64 (many1_196 - (out6_197.length : Int)))
          if (decide (t27_200 > t31_201)) = true then
            kr ((2 : Int), ())
          else
            gate (inR (IntKind.wrap .i64 (i7_198 + (1 : Int))) (b0_195.length : Int)) (
              let t37_202 : Int := (getI (0 : Int) b0_195 (IntKind.wrap .i64 (i7_198 + (1 : Int))))
              gate (inR i7_198 (b0_195.length : Int)) (
                let t44_203 : Int := (IntKind.wrap .i64 ((getI (0 : Int) b0_195 i7_198)))
                bindO (slices_Repeat_byte N [t37_202] t44_203) (fun r45_204 =>
                  gate (roomFor (out6_197.length + r45_204.length) 1) (
                    again ((out6_197 ++ r45_204), (IntKind.wrap .i64 (i7_198 + (2 : Int))), ())) s) s) s) s) s) s
  else
    k0 (out6_197, ())
def arch_Unpack (N : Nat) (b0 : List Int) (many1 : Int) : Option (List Int × Int) :=
  gate (decide ((2 : Int) ≠ 0)) (
    let t11_186 : Bool := (!decide ((Int.tmod (b0.length : Int) (2 : Int)) = (0 : Int)))
    if t11_186 = true then
      some ([], (3 : Int))
    else
      iter (arch_Unpack.s0 N none (fun (x205 : List Int × Unit) =>
        let out6_206 : List Int := x205.1
        some (out6_206, (0 : Int))) (fun (x207 : Int × Unit) =>
        let v5_208 : Int := x207.1
        some ([], v5_208)) (b0, many1, ())) none N ([], (0 : Int), ())) none
def sum_Crc.s1 {R : Type} (N : Nat) (s : R) (k2 : (Int × Unit) → R) (c239 : List Int × Int × Int × Unit) (again : (Int × Int × Unit) → R) (v240 : Int × Int × Unit) : R :=
  let v6_241 : List Int := c239.1
  let v7_242 : Int := c239.2.1
  let v8_243 : Int := c239.2.2.1
  let c3_244 : Int := v240.1
  let v16_245 : Int := v240.2.1
  if (decide (v16_245 < (8 : Int))) = true then
    gate (decide (0 ≤ (1 : Int))) (
      let t22_246 : Int := (IntKind.wrap .u32 ((bitAnd .u32 c3_244 (1 : Int)) * (3988292384 : Int)))
      let t23_247 : Int := (bitXor .u32 (shrI .u32 c3_244 (1 : Int)) t22_246)
      again (t23_247, (IntKind.wrap .i64 (v16_245 + (1 : Int))), ())) s
  else
    k2 (c3_244, ())
def sum_Crc.s0 {R : Type} (N : Nat) (s : R) (k0 : (Int × Unit) → R) (c230 : List Int × Int × Unit) (again : (Int × Int × Unit) → R) (v231 : Int × Int × Unit) : R :=
  let v6_232 : List Int := c230.1
  let v7_233 : Int := c230.2.1
  let c3_234 : Int := v231.1
  let v8_235 : Int := v231.2.1
  if (decide (v8_235 < v7_233)) = true then
    gate (inR v8_235 (v6_232.length : Int)) (
      let t14_236 : Int := (IntKind.wrap .u32 ((getI (0 : Int) v6_232 v8_235)))
      iter (sum_Crc.s1 N s (fun (x248 : Int × Unit) =>
        let c3_249 : Int := x248.1
        again (c3_249, (IntKind.wrap .i64 (v8_235 + (1 : Int))), ())) (v6_232, v7_233, v8_235, ())) s N ((bitXor .u32 c3_234 t14_236), (0 : Int), ())) s
  else
    k0 (c3_234, ())
def sum_Crc (N : Nat) (b0 : List Int) : Option Int :=
  iter (sum_Crc.s0 N none (fun (x250 : Int × Unit) =>
    let c3_251 : Int := x250.1
    let t28_252 : Int := (IntKind.wrap .i64 ((bitXor .u32 4294967295 c3_251)))
    some t28_252) (b0, (b0.length : Int), ())) none N ((4294967295 : Int), (0 : Int), ())
def arch_one (N : Nat) (b0 : List Int) (at1 : Int) : Option ((List Int × List Int) × Int × Int) :=
  bindO (
    if (decide (at1 < (0 : Int))) = true then
      some true
    else
      some (decide (at1 > (b0.length : Int)))) (fun (c21_257 : Bool) =>
    if c21_257 = true then
      some (([], []), ((0 : Int), (3 : Int)))
    else
      gate (bounds (b0.length : Int) at1 (b0.length : Int)) (
        bindO (
          let t27_262 : Int := ((cut b0 at1 (b0.length : Int)).length : Int)
          if (decide (t27_262 < (3 : Int))) = true then
            some true
          else
            let t31_263 : Int := ((cut b0 at1 (b0.length : Int)).length : Int)
            gate (inR (2 : Int) ((cut b0 at1 (b0.length : Int)).length : Int)) (
              let t33_264 : Int := (getI (0 : Int) (cut b0 at1 (b0.length : Int)) (2 : Int))
              let t36_265 : Int := (IntKind.wrap .i64 ((11 : Int) + (IntKind.wrap .i64 (t33_264))))
              some (decide (t31_263 < t36_265))) none) (fun (c38_266 : Bool) =>
          if c38_266 = true then
            some (([], []), ((0 : Int), (15 : Int)))
          else
            gate (inR (2 : Int) ((cut b0 at1 (b0.length : Int)).length : Int)) (
              let t41_267 : Int := (getI (0 : Int) (cut b0 at1 (b0.length : Int)) (2 : Int))
              let t46_268 : Int := (IntKind.wrap .i64 ((3 : Int) + (IntKind.wrap .i64 (t41_267))))
              gate (bounds ((cut b0 at1 (b0.length : Int)).length : Int) (3 : Int) t46_268) (
                let t47_269 : List Int := (cut (cut b0 at1 (b0.length : Int)) (3 : Int) t46_268)
                let t52_270 : Int := (IntKind.wrap .i64 ((3 : Int) + (IntKind.wrap .i64 (t41_267))))
                let t54_271 : Int := (IntKind.wrap .i64 ((5 : Int) + (IntKind.wrap .i64 (t41_267))))
                gate (bounds ((cut b0 at1 (b0.length : Int)).length : Int) t52_270 t54_271) (
                  let t55_272 : List Int := (cut (cut b0 at1 (b0.length : Int)) t52_270 t54_271)
                  bindO (arch_number N t55_272) (fun r56_273 =>
                    let t59_274 : Int := (IntKind.wrap .i64 ((5 : Int) + (IntKind.wrap .i64 (t41_267))))
                    let t61_275 : Int := (IntKind.wrap .i64 ((7 : Int) + (IntKind.wrap .i64 (t41_267))))
                    gate (bounds ((cut b0 at1 (b0.length : Int)).length : Int) t59_274 t61_275) (
                      let t62_276 : List Int := (cut (cut b0 at1 (b0.length : Int)) t59_274 t61_275)
                      bindO (arch_number N t62_276) (fun r63_277 =>
                        let t66_278 : Int := (IntKind.wrap .i64 ((7 : Int) + (IntKind.wrap .i64 (t41_267))))
                        let t68_279 : Int := (IntKind.wrap .i64 ((11 : Int) + (IntKind.wrap .i64 (t41_267))))
                        gate (bounds ((cut b0 at1 (b0.length : Int)).length : Int) t66_278 t68_279) (
                          let t69_280 : List Int := (cut (cut b0 at1 (b0.length : Int)) t66_278 t68_279)
                          bindO (arch_number N t69_280) (fun r70_281 =>
                            bindO (
                              gate (inR (0 : Int) ((cut b0 at1 (b0.length : Int)).length : Int)) (
                                let t72_286 : Int := (getI (0 : Int) (cut b0 at1 (b0.length : Int)) (0 : Int))
                                if (!decide (t72_286 = (105 : Int))) = true then
                                  some true
                                else
                                  gate (inR (1 : Int) ((cut b0 at1 (b0.length : Int)).length : Int)) (
                                    let t77_287 : Int := (getI (0 : Int) (cut b0 at1 (b0.length : Int)) (1 : Int))
                                    if (decide (t77_287 > (1 : Int))) = true then
                                      some true
                                    else
                                      bindO (fs_Path N t47_269) (fun r84_288 =>
                                        if (!decide (r84_288 = (0 : Int))) = true then
                                          some true
                                        else
                                          if (decide (r56_273 > (2048 : Int))) = true then
                                            some true
                                          else
                                            gate (inR (1 : Int) ((cut b0 at1 (b0.length : Int)).length : Int)) (
                                              let t93_289 : Int := (getI (0 : Int) (cut b0 at1 (b0.length : Int)) (1 : Int))
                                              if (decide (t93_289 = (0 : Int))) = true then
                                                some (!decide (r56_273 = r63_277))
                                              else
                                                some false) none) none) none) none) (fun (c101_290 : Bool) =>
                              if c101_290 = true then
                                some (([], []), ((0 : Int), (3 : Int)))
                              else
                                let t104_291 : Int := ((cut b0 at1 (b0.length : Int)).length : Int)
                                let t106_292 : Int := (IntKind.wrap .i64 ((11 : Int) + (IntKind.wrap .i64 (t41_267))))
                                let t109_293 : Bool := (decide (t104_291 < (IntKind.wrap .i64 (t106_292 + r63_277))))
                                if t109_293 = true then
                                  some (([], []), ((0 : Int), (15 : Int)))
                                else
                                  let t113_294 : Int := (IntKind.wrap .i64 ((11 : Int) + (IntKind.wrap .i64 (t41_267))))
                                  let t115_295 : Int := (IntKind.wrap .i64 ((11 : Int) + (IntKind.wrap .i64 (t41_267))))
                                  gate (bounds ((cut b0 at1 (b0.length : Int)).length : Int) t113_294 (IntKind.wrap .i64 (t115_295 + r63_277))) (
                                    let t118_296 : List Int := (cut (cut b0 at1 (b0.length : Int)) t113_294 (IntKind.wrap .i64 (t115_295 + r63_277)))
                                    bindO (slices_Clone_byte N t118_296) (fun r119_297 =>
                                      gate (inR (1 : Int) ((cut b0 at1 (b0.length : Int)).length : Int)) (
                                        let t122_298 : Int := (getI (0 : Int) (cut b0 at1 (b0.length : Int)) (1 : Int))
                                        if (decide (t122_298 = (1 : Int))) = true then
                                          bindO (arch_Unpack N r119_297 r56_273) (fun r129_303 =>
                                            bindO (
                                              if (!decide (r129_303.2 = (0 : Int))) = true then
                                                some true
                                              else
                                                let t138_305 : Bool := (!decide ((r129_303.1.length : Int) = r56_273))
                                                some t138_305) (fun (c139_306 : Bool) =>
                                              if c139_306 = true then
                                                some (([], []), ((0 : Int), (3 : Int)))
                                              else
                                                bindO (sum_Crc N r129_303.1) (fun r145_307 =>
                                                  if (!decide (r145_307 = r70_281)) = true then
                                                    some (([], []), ((0 : Int), (13 : Int)))
                                                  else
                                                    let t153_308 : Int := (IntKind.wrap .i64 ((IntKind.wrap .i64 (at1 + (11 : Int))) + (IntKind.wrap .i64 (t41_267))))
                                                    some ((t47_269, r129_303.1), ((IntKind.wrap .i64 (t153_308 + r63_277)), (0 : Int)))) none) none) none
                                        else
                                          bindO (sum_Crc N r119_297) (fun r145_309 =>
                                            if (!decide (r145_309 = r70_281)) = true then
                                              some (([], []), ((0 : Int), (13 : Int)))
                                            else
                                              let t153_310 : Int := (IntKind.wrap .i64 ((IntKind.wrap .i64 (at1 + (11 : Int))) + (IntKind.wrap .i64 (t41_267))))
                                              some ((t47_269, r119_297), ((IntKind.wrap .i64 (t153_310 + r63_277)), (0 : Int)))) none) none) none) none) none) none) none) none) none) none) none) none) none) none) none) none
def arch_Check_i0_slices_ContainsFunc_i0_slices_IndexFunc.s0 {R : Type} (N : Nat) (s : R) (k0 : (List Int × List Int × Unit) → R) (kr : (List Int × List Int × Int × Unit) → R) (c342 : List (List Int × List Int) × Int × Unit) (again : (List Int × List Int × Int × Unit) → R) (v343 : List Int × List Int × Int × Unit) : R :=
  let s0_344 : List (List Int × List Int) := c342.1
  let v7_345 : Int := c342.2.1
  let h0_346 : List Int := v343.1
  let h0_347 : List Int := v343.2.1
  let v8_348 : Int := v343.2.2.1
  if (decide (v8_348 < v7_345)) = true then
    gate (inR v8_348 (s0_344.length : Int)) (
      let t8_349 : Bool := (decide ((getI ([], []) s0_344 v8_348).1 = h0_346))
      if t8_349 = true then
        kr (h0_346, h0_347, v8_348, ())
      else
        again (h0_346, h0_347, (IntKind.wrap .i64 (v8_348 + (1 : Int))), ())) s
  else
    k0 (h0_346, h0_347, ())
def arch_Check.s0 {R : Type} (N : Nat) (s : R) (k0 : Unit → R) (kr : (Int × Unit) → R) (c333 : List (List Int × List Int) × List (List Int × List Int) × Int × Unit) (again : (Int × Unit) → R) (v334 : Int × Unit) : R :=
  let l0_335 : List (List Int × List Int) := c333.1
  let v8_336 : List (List Int × List Int) := c333.2.1
  let v9_337 : Int := c333.2.2.1
  let v10_338 : Int := v334.1
  if (decide (v10_338 < v9_337)) = true then
    gate (inR v10_338 (v8_336.length : Int)) (
      bindO (fs_Path N ((getI ([], []) v8_336 v10_338).1)) (fun r18_339 =>
        if (!decide (r18_339 = (0 : Int))) = true then
          kr ((6 : Int), ())
        else
          let t23_340 : Int := (((getI ([], []) v8_336 v10_338).2).length : Int)
          if (decide (t23_340 > (2048 : Int))) = true then
            kr ((2 : Int), ())
          else
            gate (bounds (l0_335.length : Int) (0 : Int) v10_338) (
              let t7_341 : Int := ((cut l0_335 (0 : Int) v10_338).length : Int)
              iter (arch_Check_i0_slices_ContainsFunc_i0_slices_IndexFunc.s0 N s (fun (x350 : List Int × List Int × Unit) =>
                let h0_351 : List Int := x350.1
                let h0_352 : List Int := x350.2.1
                if (decide ((-1 : Int) ≥ (0 : Int))) = true then
                  kr ((7 : Int), ())
                else
                  again ((IntKind.wrap .i64 (v10_338 + (1 : Int))), ())) (fun (x353 : List Int × List Int × Int × Unit) =>
                let h0_354 : List Int := x353.1
                let h0_355 : List Int := x353.2.1
                let v4_356 : Int := x353.2.2.1
                if (decide (v4_356 ≥ (0 : Int))) = true then
                  kr ((7 : Int), ())
                else
                  again ((IntKind.wrap .i64 (v10_338 + (1 : Int))), ())) ((cut l0_335 (0 : Int) v10_338), t7_341, ())) s N ((getI ([], []) v8_336 v10_338).1, (getI ([], []) v8_336 v10_338).2, (0 : Int), ())) s) s) s
  else
    k0 ()
def arch_Check (N : Nat) (l0 : List (List Int × List Int)) : Option Int :=
  if (decide ((l0.length : Int) > (30 : Int))) = true then
    some (9 : Int)
  else
    iter (arch_Check.s0 N none (fun (x357 : Unit) =>
      some (0 : Int)) (fun (x358 : Int × Unit) =>
      let v2_359 : Int := x358.1
      some v2_359) (l0, l0, (l0.length : Int), ())) none N ((0 : Int), ())
def arch_Scan.s0 {R : Type} (N : Nat) (s : R) (kr : (List (List Int × List Int) × Int × Int × Unit) → R) (c373 : List Int × Unit) (again : (List (List Int × List Int) × Int × Unit) → R) (v374 : List (List Int × List Int) × Int × Unit) : R :=
  let b0_375 : List Int := c373.1
  let out5_376 : List (List Int × List Int) := v374.1
  let at6_377 : Int := v374.2.1
  bindO (arch_one N b0_375 at6_377) (fun r16_378 =>
    if (!decide (r16_378.2.2 = (0 : Int))) = true then
      kr (out5_376, at6_377, r16_378.2.2, ())
    else
      gate (bounds (out5_376.length : Int) (0 : Int) (out5_376.length : Int) && decide ((out5_376.length : Int) = (out5_376.length : Int))) (
        gate (roomFor ((cut out5_376 (0 : Int) (out5_376.length : Int)).length + [r16_378.1].length) 40 && (decide (0 < [r16_378.1].length) || decide ((0 : Int) = (out5_376.length : Int)))) (
          let b33_379 : List (List Int × List Int) := ((cut out5_376 (0 : Int) (out5_376.length : Int)) ++ [r16_378.1])
          bindO (arch_Check N b33_379) (fun r34_380 =>
            if (!decide (r34_380 = (0 : Int))) = true then
              kr (out5_376, at6_377, (7 : Int), ())
            else
              gate (roomFor (out5_376.length + [r16_378.1].length) 40) (
                again ((out5_376 ++ [r16_378.1]), r16_378.2.1, ())) s) s) s) s) s
def arch_Scan (N : Nat) (b0 : List Int) : Option (List (List Int × List Int) × Int × Int) :=
  if (decide ((b0.length : Int) > (65536 : Int))) = true then
    some ([], ((0 : Int), (2 : Int)))
  else
    iter (arch_Scan.s0 N none (fun (x381 : List (List Int × List Int) × Int × Int × Unit) =>
      let v2_382 : List (List Int × List Int) := x381.1
      let v3_383 : Int := x381.2.1
      let v4_384 : Int := x381.2.2.1
      some (v2_382, (v3_383, v4_384))) (b0, ())) none N ([], (0 : Int), ())
def arch_Pack.s1 {R : Type} (N : Nat) (s : R) (k2 : (List Int × Int × Unit) → R) (c470 : List Int × Int × Unit) (again : (List Int × Int × Unit) → R) (v471 : List Int × Int × Unit) : R :=
  let b0_472 : List Int := c470.1
  let i4_473 : Int := c470.2.1
  let out3_474 : List Int := v471.1
  let n5_475 : Int := v471.2.1
  bindO (
    if (decide (n5_475 < (255 : Int))) = true then
      let t18_479 : Bool := (decide ((IntKind.wrap .i64 (i4_473 + n5_475)) < (b0_472.length : Int)))
      if t18_479 = true then
        gate (inR (IntKind.wrap .i64 (i4_473 + n5_475)) (b0_472.length : Int)) (
          let t25_480 : Int := (getI (0 : Int) b0_472 (IntKind.wrap .i64 (i4_473 + n5_475)))
          gate (inR i4_473 (b0_472.length : Int)) (
            let t31_481 : Bool := (decide (t25_480 = (getI (0 : Int) b0_472 i4_473)))
            some t31_481) none) none
      else
        some false
    else
      some false) (fun (c32_482 : Bool) =>
    if c32_482 = true then
      again (out3_474, (IntKind.wrap .i64 (n5_475 + (1 : Int))), ())
    else
      k2 (out3_474, n5_475, ())) s
def arch_Pack.s0 {R : Type} (N : Nat) (s : R) (k0 : (List Int × Unit) → R) (c452 : List Int × Unit) (again : (List Int × Int × Unit) → R) (v453 : List Int × Int × Unit) : R :=
  let b0_454 : List Int := c452.1
  let out3_455 : List Int := v453.1
  let i4_456 : Int := v453.2.1
  if (decide (i4_456 < (b0_454.length : Int))) = true then
    iter (arch_Pack.s1 N s (fun (x483 : List Int × Int × Unit) =>
      let out3_484 : List Int := x483.1
      let n5_485 : Int := x483.2.1
      gate (inR i4_456 (b0_454.length : Int)) (
        let b42_486 : List Int := [(IntKind.wrap .u8 (n5_485)), (getI (0 : Int) b0_454 i4_456)]
        gate (roomFor (out3_484.length + b42_486.length) 1) (
          again ((out3_484 ++ b42_486), (IntKind.wrap .i64 (i4_456 + n5_485)), ())) s) s) (b0_454, i4_456, ())) s N (out3_455, (1 : Int), ())
  else
    k0 (out3_455, ())
def arch_Pack (N : Nat) (b0 : List Int) : Option (List Int) :=
  iter (arch_Pack.s0 N none (fun (x487 : List Int × Unit) =>
    let out3_488 : List Int := x487.1
    some out3_488) (b0, ())) none N ([], (0 : Int), ())
def slices_Equal_byte.s0 {R : Type} (N : Nat) (s : R) (k0 : Unit → R) (kr : (Bool × Unit) → R) (c497 : List Int × List Int × Int × Unit) (again : (Int × Unit) → R) (v498 : Int × Unit) : R :=
  let s10_499 : List Int := c497.1
  let s21_500 : List Int := c497.2.1
  let v12_501 : Int := c497.2.2.1
  let v13_502 : Int := v498.1
  if (decide (v13_502 < v12_501)) = true then
    gate (inR v13_502 (s10_499.length : Int)) (
      gate (inR v13_502 (s21_500.length : Int)) (
        let t24_503 : Bool := (!decide ((getI (0 : Int) s10_499 v13_502) = (getI (0 : Int) s21_500 v13_502)))
        if t24_503 = true then
          kr (false, ())
        else
          again ((IntKind.wrap .i64 (v13_502 + (1 : Int))), ())) s) s
  else
    k0 ()
def slices_Equal_byte (N : Nat) (s10 : List Int) (s21 : List Int) : Option Bool :=
  let t10_495 : Bool := (!decide ((s10.length : Int) = (s21.length : Int)))
  if t10_495 = true then
    some false
  else
    iter (slices_Equal_byte.s0 N none (fun (x504 : Unit) =>
      some true) (fun (x505 : Bool × Unit) =>
      let v4_506 : Bool := x505.1
      some v4_506) (s10, s21, (s10.length : Int), ())) none N ((0 : Int), ())
def wracklaw2_archives (N : Nat) : Option Bool :=
  bindO (arch_Pack N [(7 : Int), (7 : Int), (7 : Int)]) (fun r2_508 =>
    bindO (slices_Equal_byte N r2_508 [(3 : Int), (7 : Int)]) (fun r4_509 =>
      some r4_509) none) none
def wrackref2_le.s0 {R : Type} (N : Nat) (s : R) (k0 : (Int × Unit) → R) (c539 : List Int × Int × Unit) (again : (Int × Int × Int × Unit) → R) (v540 : Int × Int × Int × Unit) : R :=
  let v7_541 : List Int := c539.1
  let v8_542 : Int := c539.2.1
  let n3_543 : Int := v540.1
  let w4_544 : Int := v540.2.1
  let v9_545 : Int := v540.2.2.1
  if (decide (v9_545 < v8_542)) = true then
    gate (inR v9_545 (v7_541.length : Int)) (
      let t15_546 : Int := (IntKind.wrap .i64 ((getI (0 : Int) v7_541 v9_545)))
      let t18_547 : Int := (IntKind.wrap .i64 (n3_543 + (IntKind.wrap .i64 (t15_546 * w4_544))))
      again (t18_547, (IntKind.wrap .i64 (w4_544 * (256 : Int))), (IntKind.wrap .i64 (v9_545 + (1 : Int))), ())) s
  else
    k0 (n3_543, ())
def wrackref2_le (N : Nat) (b0 : List Int) : Option Int :=
  iter (wrackref2_le.s0 N none (fun (x548 : Int × Unit) =>
    let n3_549 : Int := x548.1
    some n3_549) (b0, (b0.length : Int), ())) none N ((0 : Int), (1 : Int), (0 : Int), ())
def strings_Contains (N : Nat) (s0 : List Int) (substr1 : List Int) : Option Bool :=
  bindO (indexF s0 substr1) (fun r7_559 =>
    some (decide (r7_559 ≥ (0 : Int)))) none
def wrackref2_Word (N : Nat) (s0 : List Int) : Option Bool :=
  bindO (
    if (decide ((s0.length : Int) > (0 : Int))) = true then
      if (decide ((s0.length : Int) ≤ (12 : Int))) = true then
        gate (bounds (s0.length : Int) (0 : Int) (1 : Int)) (
          bindO (strings_Contains N [97, 98, 99, 100, 101, 102, 103, 104, 105, 106, 107, 108, 109, 110, 111, 112, 113, 114, 115, 116, 117, 118, 119, 120, 121, 122] (cut s0 (0 : Int) (1 : Int))) (fun r14_567 =>
            if r14_567 = true then
              bindO (trimF s0 [97, 98, 99, 100, 101, 102, 103, 104, 105, 106, 107, 108, 109, 110, 111, 112, 113, 114, 115, 116, 117, 118, 119, 120, 121, 122, 48, 49, 50, 51, 52, 53, 54, 55, 56, 57, 45]) (fun r18_568 =>
                some (decide (r18_568 = []))) none
            else
              some false) none) none
      else
        some false
    else
      some false) (fun (c2_569 : Bool) =>
    some c2_569) none
def wrackref2_Way.s0 {R : Type} (N : Nat) (s : R) (k0 : (List (List Int) × Unit) → R) (kr : (Bool × Unit) → R) (c577 : Int × Unit) (again : (List (List Int) × List (List Int) × Int × Unit) → R) (v578 : List (List Int) × List (List Int) × Int × Unit) : R :=
  let v9_579 : Int := c577.1
  let l3_580 : List (List Int) := v578.1
  let v8_581 : List (List Int) := v578.2.1
  let v10_582 : Int := v578.2.2.1
  if (decide (v10_582 < v9_579)) = true then
    gate (inR v10_582 (v8_581.length : Int)) (
      bindO (wrackref2_Word N (getI [] v8_581 v10_582)) (fun r15_583 =>
        if (!r15_583) = true then
          kr (false, ())
        else
          again (l3_580, v8_581, (IntKind.wrap .i64 (v10_582 + (1 : Int))), ())) s) s
  else
    k0 (l3_580, ())
def wrackref2_Way (N : Nat) (s0 : List Int) : Option Bool :=
  bindO (strings_Split N s0 [47]) (fun r7_575 =>
    iter (wrackref2_Way.s0 N none (fun (x584 : List (List Int) × Unit) =>
      let l3_585 : List (List Int) := x584.1
      some (decide ((l3_585.length : Int) ≤ (4 : Int)))) (fun (x586 : Bool × Unit) =>
      let v2_587 : Bool := x586.1
      some v2_587) ((r7_575.length : Int), ())) none N (r7_575, r7_575, (0 : Int), ())) none
def wrackref2_Unran.s1 {R : Type} (N : Nat) (s : R) (k2 : (List Int × Unit) → R) (kr : (Int × Unit) → R) (c638 : List Int × Int × Int × Int × Unit) (again : (List Int × Int × Unit) → R) (v639 : List Int × Int × Unit) : R :=
  let b0_640 : List Int := c638.1
  let many1_641 : Int := c638.2.1
  let i7_642 : Int := c638.2.2.1
  let v26_643 : Int := c638.2.2.2.1
  let out6_644 : List Int := v639.1
  let v27_645 : Int := v639.2.1
  if (decide (v27_645 < v26_643)) = true then
    let t32_646 : Bool := (decide ((out6_644.length : Int) ≥ many1_641))
    if t32_646 = true then
      kr ((2 : Int), ())
    else
      gate (inR (IntKind.wrap .i64 (i7_642 + (1 : Int))) (b0_640.length : Int)) (
        let t37_647 : Int := (getI (0 : Int) b0_640 (IntKind.wrap .i64 (i7_642 + (1 : Int))))
        gate (roomFor (out6_644.length + [t37_647].length) 1) (
          again ((out6_644 ++ [t37_647]), (IntKind.wrap .u8 (v27_645 + (1 : Int))), ())) s) s
  else
    k2 (out6_644, ())
def wrackref2_Unran.s0 {R : Type} (N : Nat) (s : R) (k0 : (List Int × Unit) → R) (kr : (Int × Unit) → R) (c630 : List Int × Int × Unit) (again : (List Int × Int × Unit) → R) (v631 : List Int × Int × Unit) : R :=
  let b0_632 : List Int := c630.1
  let many1_633 : Int := c630.2.1
  let out6_634 : List Int := v631.1
  let i7_635 : Int := v631.2.1
  if (decide (i7_635 < (b0_632.length : Int))) = true then
    gate (inR i7_635 (b0_632.length : Int)) (
      let t22_636 : Bool := (decide ((getI (0 : Int) b0_632 i7_635) = (0 : Int)))
      if t22_636 = true then
        kr ((3 : Int), ())
      else
        gate (inR i7_635 (b0_632.length : Int)) (
          iter (wrackref2_Unran.s1 N s (fun (x648 : List Int × Unit) =>
            let out6_649 : List Int := x648.1
            again (out6_649, (IntKind.wrap .i64 (i7_635 + (2 : Int))), ())) (fun (x650 : Int × Unit) =>
            let v5_651 : Int := x650.1
            kr (v5_651, ())) (b0_632, many1_633, i7_635, (getI (0 : Int) b0_632 i7_635), ())) s N (out6_634, (0 : Int), ())) s) s
  else
    k0 (out6_634, ())
def wrackref2_Unran (N : Nat) (b0 : List Int) (many1 : Int) : Option (List Int × Int) :=
  gate (decide ((2 : Int) ≠ 0)) (
    let t11_618 : Bool := (decide ((Int.tmod (b0.length : Int) (2 : Int)) = (1 : Int)))
    if t11_618 = true then
      some ([], (3 : Int))
    else
      iter (wrackref2_Unran.s0 N none (fun (x652 : List Int × Unit) =>
        let out6_653 : List Int := x652.1
        some (out6_653, (0 : Int))) (fun (x654 : Int × Unit) =>
        let v5_655 : Int := x654.1
        some ([], v5_655)) (b0, many1, ())) none N ([], (0 : Int), ())) none
def wrackref2_Crc.s1 {R : Type} (N : Nat) (s : R) (k2 : (Int × Unit) → R) (c686 : List Int × Int × Int × Unit) (again : (Int × Int × Unit) → R) (v687 : Int × Int × Unit) : R :=
  let v6_688 : List Int := c686.1
  let v7_689 : Int := c686.2.1
  let v8_690 : Int := c686.2.2.1
  let c3_691 : Int := v687.1
  let v16_692 : Int := v687.2.1
  if (decide (v16_692 < (8 : Int))) = true then
    gate (decide ((2 : Int) ≠ 0)) (
      let t20_693 : Bool := (decide ((Int.tmod c3_691 (2 : Int)) = (1 : Int)))
      if t20_693 = true then
        gate (decide ((2 : Int) ≠ 0)) (
          let t22_694 : Int := (IntKind.wrap .u32 (Int.tdiv c3_691 (2 : Int)))
          again ((bitXor .u32 t22_694 (3988292384 : Int)), (IntKind.wrap .i64 (v16_692 + (1 : Int))), ())) s
      else
        gate (decide ((2 : Int) ≠ 0)) (
          let t25_695 : Int := (IntKind.wrap .u32 (Int.tdiv c3_691 (2 : Int)))
          again (t25_695, (IntKind.wrap .i64 (v16_692 + (1 : Int))), ())) s) s
  else
    k2 (c3_691, ())
def wrackref2_Crc.s0 {R : Type} (N : Nat) (s : R) (k0 : (Int × Unit) → R) (c677 : List Int × Int × Unit) (again : (Int × Int × Unit) → R) (v678 : Int × Int × Unit) : R :=
  let v6_679 : List Int := c677.1
  let v7_680 : Int := c677.2.1
  let c3_681 : Int := v678.1
  let v8_682 : Int := v678.2.1
  if (decide (v8_682 < v7_680)) = true then
    gate (inR v8_682 (v6_679.length : Int)) (
      let t14_683 : Int := (IntKind.wrap .u32 ((getI (0 : Int) v6_679 v8_682)))
      iter (wrackref2_Crc.s1 N s (fun (x696 : Int × Unit) =>
        let c3_697 : Int := x696.1
        again (c3_697, (IntKind.wrap .i64 (v8_682 + (1 : Int))), ())) (v6_679, v7_680, v8_682, ())) s N ((bitXor .u32 c3_681 t14_683), (0 : Int), ())) s
  else
    k0 (c3_681, ())
def wrackref2_Crc (N : Nat) (b0 : List Int) : Option Int :=
  iter (wrackref2_Crc.s0 N none (fun (x698 : Int × Unit) =>
    let c3_699 : Int := x698.1
    let t30_700 : Int := (IntKind.wrap .i64 ((bitXor .u32 4294967295 c3_699)))
    some t30_700) (b0, (b0.length : Int), ())) none N ((4294967295 : Int), (0 : Int), ())
def wrackref2_ItemAt (N : Nat) (b0 : List Int) (at1 : Int) : Option ((List Int × List Int) × Int × Int) :=
  if (decide (at1 > (b0.length : Int))) = true then
    some (([], []), ((0 : Int), (3 : Int)))
  else
    gate (bounds (b0.length : Int) at1 (b0.length : Int)) (
      bindO (
        let t25_717 : Int := ((cut b0 at1 (b0.length : Int)).length : Int)
        if (decide (t25_717 < (3 : Int))) = true then
          some true
        else
          let t29_718 : Int := ((cut b0 at1 (b0.length : Int)).length : Int)
          gate (inR (2 : Int) ((cut b0 at1 (b0.length : Int)).length : Int)) (
            let t32_719 : Int := (getI (0 : Int) (cut b0 at1 (b0.length : Int)) (2 : Int))
            let t35_720 : Bool := (decide ((IntKind.wrap .i64 (t29_718 - (11 : Int))) < (IntKind.wrap .i64 (t32_719))))
            some t35_720) none) (fun (c36_721 : Bool) =>
        if c36_721 = true then
          some (([], []), ((0 : Int), (15 : Int)))
        else
          gate (inR (2 : Int) ((cut b0 at1 (b0.length : Int)).length : Int)) (
            let t39_722 : Int := (getI (0 : Int) (cut b0 at1 (b0.length : Int)) (2 : Int))
            let t44_723 : Int := (IntKind.wrap .i64 ((3 : Int) + (IntKind.wrap .i64 (t39_722))))
            gate (bounds ((cut b0 at1 (b0.length : Int)).length : Int) (3 : Int) t44_723) (
              let t45_724 : List Int := (cut (cut b0 at1 (b0.length : Int)) (3 : Int) t44_723)
              let t49_725 : Int := (IntKind.wrap .i64 ((3 : Int) + (IntKind.wrap .i64 (t39_722))))
              let t51_726 : Int := (IntKind.wrap .i64 ((5 : Int) + (IntKind.wrap .i64 (t39_722))))
              gate (bounds ((cut b0 at1 (b0.length : Int)).length : Int) t49_725 t51_726) (
                let t52_727 : List Int := (cut (cut b0 at1 (b0.length : Int)) t49_725 t51_726)
                bindO (wrackref2_le N t52_727) (fun r53_728 =>
                  let t56_729 : Int := (IntKind.wrap .i64 ((5 : Int) + (IntKind.wrap .i64 (t39_722))))
                  let t58_730 : Int := (IntKind.wrap .i64 ((7 : Int) + (IntKind.wrap .i64 (t39_722))))
                  gate (bounds ((cut b0 at1 (b0.length : Int)).length : Int) t56_729 t58_730) (
                    let t59_731 : List Int := (cut (cut b0 at1 (b0.length : Int)) t56_729 t58_730)
                    bindO (wrackref2_le N t59_731) (fun r60_732 =>
                      bindO (
                        gate (inR (0 : Int) ((cut b0 at1 (b0.length : Int)).length : Int)) (
                          let t62_737 : Int := (getI (0 : Int) (cut b0 at1 (b0.length : Int)) (0 : Int))
                          if (!decide (t62_737 = (105 : Int))) = true then
                            some true
                          else
                            gate (inR (1 : Int) ((cut b0 at1 (b0.length : Int)).length : Int)) (
                              let t67_738 : Int := (getI (0 : Int) (cut b0 at1 (b0.length : Int)) (1 : Int))
                              if (decide (t67_738 > (1 : Int))) = true then
                                some true
                              else
                                bindO (wrackref2_Way N t45_724) (fun r73_739 =>
                                  if (!r73_739) = true then
                                    some true
                                  else
                                    if (decide (r53_728 > (2048 : Int))) = true then
                                      some true
                                    else
                                      gate (inR (1 : Int) ((cut b0 at1 (b0.length : Int)).length : Int)) (
                                        let t82_740 : Int := (getI (0 : Int) (cut b0 at1 (b0.length : Int)) (1 : Int))
                                        if (decide (t82_740 = (0 : Int))) = true then
                                          some (!decide (r60_732 = r53_728))
                                        else
                                          some false) none) none) none) none) (fun (c90_741 : Bool) =>
                        if c90_741 = true then
                          some (([], []), ((0 : Int), (3 : Int)))
                        else
                          let t93_742 : Int := ((cut b0 at1 (b0.length : Int)).length : Int)
                          let t96_743 : Int := (IntKind.wrap .i64 ((IntKind.wrap .i64 (t93_742 - (11 : Int))) - (IntKind.wrap .i64 (t39_722))))
                          if (decide (t96_743 < r60_732)) = true then
                            some (([], []), ((0 : Int), (15 : Int)))
                          else
                            let t102_744 : Int := (IntKind.wrap .i64 ((11 : Int) + (IntKind.wrap .i64 (t39_722))))
                            let t104_745 : Int := (IntKind.wrap .i64 ((11 : Int) + (IntKind.wrap .i64 (t39_722))))
                            gate (bounds ((cut b0 at1 (b0.length : Int)).length : Int) t102_744 (IntKind.wrap .i64 (t104_745 + r60_732))) (
                              let t107_746 : List Int := (cut (cut b0 at1 (b0.length : Int)) t102_744 (IntKind.wrap .i64 (t104_745 + r60_732)))
                              bindO (slices_Clone_byte N t107_746) (fun r108_747 =>
                                gate (inR (1 : Int) ((cut b0 at1 (b0.length : Int)).length : Int)) (
                                  let t110_748 : Int := (getI (0 : Int) (cut b0 at1 (b0.length : Int)) (1 : Int))
                                  if (decide (t110_748 = (1 : Int))) = true then
                                    bindO (wrackref2_Unran N r108_747 r53_728) (fun r116_753 =>
                                      bindO (
                                        if (!decide (r116_753.2 = (0 : Int))) = true then
                                          some true
                                        else
                                          let t125_755 : Bool := (!decide ((r116_753.1.length : Int) = r53_728))
                                          some t125_755) (fun (c126_756 : Bool) =>
                                        if c126_756 = true then
                                          some (([], []), ((0 : Int), (3 : Int)))
                                        else
                                          bindO (wrackref2_Crc N r116_753.1) (fun r129_757 =>
                                            let t132_758 : Int := (IntKind.wrap .i64 ((7 : Int) + (IntKind.wrap .i64 (t39_722))))
                                            let t134_759 : Int := (IntKind.wrap .i64 ((11 : Int) + (IntKind.wrap .i64 (t39_722))))
                                            gate (bounds ((cut b0 at1 (b0.length : Int)).length : Int) t132_758 t134_759) (
                                              let t135_760 : List Int := (cut (cut b0 at1 (b0.length : Int)) t132_758 t134_759)
                                              bindO (wrackref2_le N t135_760) (fun r136_761 =>
                                                if (!decide (r129_757 = r136_761)) = true then
                                                  some (([], []), ((0 : Int), (13 : Int)))
                                                else
                                                  let t145_762 : Int := (IntKind.wrap .i64 ((IntKind.wrap .i64 (at1 + (11 : Int))) + (IntKind.wrap .i64 (t39_722))))
                                                  some ((t45_724, r116_753.1), ((IntKind.wrap .i64 (t145_762 + r60_732)), (0 : Int)))) none) none) none) none) none
                                  else
                                    bindO (wrackref2_Crc N r108_747) (fun r129_763 =>
                                      let t132_764 : Int := (IntKind.wrap .i64 ((7 : Int) + (IntKind.wrap .i64 (t39_722))))
                                      let t134_765 : Int := (IntKind.wrap .i64 ((11 : Int) + (IntKind.wrap .i64 (t39_722))))
                                      gate (bounds ((cut b0 at1 (b0.length : Int)).length : Int) t132_764 t134_765) (
                                        let t135_766 : List Int := (cut (cut b0 at1 (b0.length : Int)) t132_764 t134_765)
                                        bindO (wrackref2_le N t135_766) (fun r136_767 =>
                                          if (!decide (r129_763 = r136_767)) = true then
                                            some (([], []), ((0 : Int), (13 : Int)))
                                          else
                                            let t145_768 : Int := (IntKind.wrap .i64 ((IntKind.wrap .i64 (at1 + (11 : Int))) + (IntKind.wrap .i64 (t39_722))))
                                            some ((t45_724, r108_747), ((IntKind.wrap .i64 (t145_768 + r60_732)), (0 : Int)))) none) none) none) none) none) none) none) none) none) none) none) none) none) none) none
def wrackref2_ItemsErr.s0 {R : Type} (N : Nat) (s : R) (k0 : Unit → R) (kr : (Int × Unit) → R) (c790 : List (List Int × List Int) × Int × Unit) (again : (List (List Int × Bool) × Int × Unit) → R) (v791 : List (List Int × Bool) × Int × Unit) : R :=
  let v10_792 : List (List Int × List Int) := c790.1
  let v11_793 : Int := c790.2.1
  let seen3_794 : List (List Int × Bool) := v791.1
  let v12_795 : Int := v791.2.1
  if (decide (v12_795 < v11_793)) = true then
    gate (inR v12_795 (v10_792.length : Int)) (
      bindO (wrackref2_Way N ((getI ([], []) v10_792 v12_795).1)) (fun r19_796 =>
        if (!r19_796) = true then
          kr ((6 : Int), ())
        else
          let t24_800 : Int := (((getI ([], []) v10_792 v12_795).2).length : Int)
          if (decide (t24_800 > (2048 : Int))) = true then
            kr ((2 : Int), ())
          else
            let t30_802 : Bool := ((mapGet (k := .str) (v := .bool) seen3_794 ((getI ([], []) v10_792 v12_795).1)).getD false)
            if t30_802 = true then
              kr ((7 : Int), ())
            else
              let bx_803 : List (List Int × Bool) := (mapPut (k := .str) (v := .bool) seen3_794 ((getI ([], []) v10_792 v12_795).1) true)
              again (bx_803, (IntKind.wrap .i64 (v12_795 + (1 : Int))), ())) s) s
  else
    k0 ()
def wrackref2_ItemsErr (N : Nat) (l0 : List (List Int × List Int)) : Option Int :=
  if (decide ((l0.length : Int) > (30 : Int))) = true then
    some (9 : Int)
  else
    iter (wrackref2_ItemsErr.s0 N none (fun (x804 : Unit) =>
      some (0 : Int)) (fun (x805 : Int × Unit) =>
      let v2_806 : Int := x805.1
      some v2_806) (l0, (l0.length : Int), ())) none N (([] : List (List Int × Bool)), (0 : Int), ())
def wrackref2_SameItems_1 (N : Nat) (x0 : List Int × List Int) (y1 : List Int × List Int) : Option Bool :=
  bindO (
    if (decide (x0.1 = y1.1)) = true then
      some (decide (x0.2 = y1.2))
    else
      some false) (fun (c4_818 : Bool) =>
    some c4_818) none
def wrackref2_SameItems_i0_slices_EqualFunc.s0 {R : Type} (N : Nat) (s : R) (k0 : Unit → R) (kr : (Bool × Unit) → R) (c825 : List (List Int × List Int) × List (List Int × List Int) × Int × Unit) (again : (Int × Unit) → R) (v826 : Int × Unit) : R :=
  let s21_827 : List (List Int × List Int) := c825.1
  let v15_828 : List (List Int × List Int) := c825.2.1
  let v16_829 : Int := c825.2.2.1
  let v17_830 : Int := v826.1
  if (decide (v17_830 < v16_829)) = true then
    gate (inR v17_830 (v15_828.length : Int)) (
      gate (inR v17_830 (s21_827.length : Int)) (
        bindO (wrackref2_SameItems_1 N (getI ([], []) v15_828 v17_830) (getI ([], []) s21_827 v17_830)) (fun r29_831 =>
          if (!r29_831) = true then
            kr (false, ())
          else
            again ((IntKind.wrap .i64 (v17_830 + (1 : Int))), ())) s) s) s
  else
    k0 ()
def wrackref2_SameItems (N : Nat) (a0 : List (List Int × List Int)) (b1 : List (List Int × List Int)) : Option Bool :=
  let t14_823 : Bool := (!decide ((a0.length : Int) = (b1.length : Int)))
  if t14_823 = true then
    some false
  else
    iter (wrackref2_SameItems_i0_slices_EqualFunc.s0 N none (fun (x832 : Unit) =>
      some true) (fun (x833 : Bool × Unit) =>
      let v6_834 : Bool := x833.1
      some v6_834) (b1, a0, (a0.length : Int), ())) none N ((0 : Int), ())
def wracklaw2_ArchScans.s0 {R : Type} (N : Nat) (s : R) (kr : (Bool × Unit) → R) (c943 : List Int × Int × Int × Unit) (again : (List (List Int × List Int) × List (List Int × List Int) × Int × Unit) → R) (v944 : List (List Int × List Int) × List (List Int × List Int) × Int × Unit) : R :=
  let b0_945 : List Int := c943.1
  let at4_946 : Int := c943.2.1
  let e5_947 : Int := c943.2.2.1
  let l3_948 : List (List Int × List Int) := v944.1
  let want6_949 : List (List Int × List Int) := v944.2.1
  let k7_950 : Int := v944.2.2.1
  bindO (wrackref2_ItemAt N b0_945 k7_950) (fun r37_951 =>
    if (decide (r37_951.2.2 = (0 : Int))) = true then
      bindO (cloneF 40 want6_949) (fun r45_954 =>
        gate (roomFor (r45_954.length + [r37_951.1].length) 40) (
          bindO (wrackref2_ItemsErr N (r45_954 ++ [r37_951.1])) (fun r49_955 =>
            bindO ((
              if (!decide (r49_955 = (0 : Int))) = true then
                some (l3_948, want6_949, (7 : Int), r37_951.1.1, r37_951.1.2, ())
              else
                some (l3_948, want6_949, r37_951.2.2, r37_951.1.1, r37_951.1.2, ()) : Option (List (List Int × List Int) × List (List Int × List Int) × Int × List Int × List Int × Unit))) (fun j956 =>
              let l3_957 : List (List Int × List Int) := j956.1
              let want6_958 : List (List Int × List Int) := j956.2.1
              let f10_959 : Int := j956.2.2.1
              let m2_960 : List Int := j956.2.2.2.1
              let m2_961 : List Int := j956.2.2.2.2.1
              if (!decide (f10_959 = (0 : Int))) = true then
                bindO (
                  bindO (wracklaw2_archives N) (fun r54_969 =>
                    if r54_969 = true then
                      if (decide (e5_947 = f10_959)) = true then
                        if (decide (at4_946 = k7_950)) = true then
                          bindO (wrackref2_SameItems N l3_957 want6_958) (fun r68_970 =>
                            some r68_970) none
                        else
                          some false
                      else
                        some false
                    else
                      some false) none) (fun (c2_971 : Bool) =>
                  kr (c2_971, ())) s
              else
                gate (roomFor (want6_958.length + [(m2_960, m2_961)].length) 40) (
                  again (l3_957, (want6_958 ++ [(m2_960, m2_961)]), r37_951.2.1, ())) s) s) s) s) s
    else
      if (!decide (r37_951.2.2 = (0 : Int))) = true then
        bindO (
          bindO (wracklaw2_archives N) (fun r54_975 =>
            if r54_975 = true then
              if (decide (e5_947 = r37_951.2.2)) = true then
                if (decide (at4_946 = k7_950)) = true then
                  bindO (wrackref2_SameItems N l3_948 want6_949) (fun r68_976 =>
                    some r68_976) none
                else
                  some false
              else
                some false
            else
              some false) none) (fun (c2_977 : Bool) =>
          kr (c2_977, ())) s
      else
        gate (roomFor (want6_949.length + [r37_951.1].length) 40) (
          again (l3_948, (want6_949 ++ [r37_951.1]), r37_951.2.1, ())) s) s
def wracklaw2_ArchScans (N : Nat) (b0 : List Int) : Option Bool :=
  bindO (arch_Scan N b0) (fun r13_879 =>
    if (decide ((b0.length : Int) > (65536 : Int))) = true then
      bindO (
        bindO (wracklaw2_archives N) (fun r20_887 =>
          if r20_887 = true then
            if (decide (r13_879.2.2 = (2 : Int))) = true then
              if (decide (r13_879.2.1 = (0 : Int))) = true then
                let t32_888 : Bool := (decide ((r13_879.1.length : Int) = (0 : Int)))
                some t32_888
              else
                some false
            else
              some false
          else
            some false) none) (fun (c2_889 : Bool) =>
        some c2_889) none
    else
      iter (wracklaw2_ArchScans.s0 N none (fun (x978 : Bool × Unit) =>
        let v2_979 : Bool := x978.1
        some v2_979) (b0, r13_879.2.1, r13_879.2.2, ())) none N (r13_879.1, [], (0 : Int), ())) none
end Go.Proofs.YteekijpcdcpjkaaDoor
