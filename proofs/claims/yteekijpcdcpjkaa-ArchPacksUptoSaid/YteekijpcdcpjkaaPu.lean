import Derived.Test.YteekijpcdcpjkaaAbDen
set_option linter.unusedVariables false
namespace Go.Proofs.Yteekijpcdcpjkaa
open Go Go.Ab
def bits_Mul64 (N : Nat) (x0 : Int) (y1 : Int) : Option (Int × Int) :=
  gate (decide (0 ≤ (32 : Int))) (
    gate (decide (0 ≤ (32 : Int))) (
      let t24_12 : Int := (IntKind.wrap .u64 ((bitAnd .u64 x0 (4294967295 : Int)) * (bitAnd .u64 y1 (4294967295 : Int))))
      let t27_13 : Int := (IntKind.wrap .u64 ((shrI .u64 x0 (32 : Int)) * (bitAnd .u64 y1 (4294967295 : Int))))
      gate (decide (0 ≤ (32 : Int))) (
        let t30_14 : Int := (IntKind.wrap .u64 (t27_13 + (shrI .u64 t24_12 (32 : Int))))
        gate (decide (0 ≤ (32 : Int))) (
          let t38_15 : Int := (IntKind.wrap .u64 ((bitAnd .u64 x0 (4294967295 : Int)) * (shrI .u64 y1 (32 : Int))))
          let t39_16 : Int := (IntKind.wrap .u64 ((bitAnd .u64 t30_14 (4294967295 : Int)) + t38_15))
          let t42_17 : Int := (IntKind.wrap .u64 ((shrI .u64 x0 (32 : Int)) * (shrI .u64 y1 (32 : Int))))
          let t44_18 : Int := (IntKind.wrap .u64 (t42_17 + (shrI .u64 t30_14 (32 : Int))))
          gate (decide (0 ≤ (32 : Int))) (
            let t47_19 : Int := (IntKind.wrap .u64 (t44_18 + (shrI .u64 t39_16 (32 : Int))))
            some (t47_19, (IntKind.wrap .u64 (x0 * y1)))) none) none) none) none) none
def bits_Mul (N : Nat) (x0 : Int) (y1 : Int) : Option (Int × Int) :=
  bindO (bits_Mul64 N x0 y1) (fun r25_21 =>
    some r25_21) none
def slices_Repeat_byte.s0 {R : Type} (N : Nat) (s : R) (k0 : (List Int × Unit) → R) (c42 : Unit) (again : (List Int × Int × Unit) → R) (v43 : List Int × Int × Unit) : R :=
  let newslice7_44 : List Int := v43.1
  let n8_45 : Int := v43.2.1
  let t37_46 : Bool := (decide (n8_45 < (newslice7_44.length : Int)))
  if t37_46 = true then
    gate (bounds (newslice7_44.length : Int) n8_45 (newslice7_44.length : Int)) (
      gate (bounds (newslice7_44.length : Int) (0 : Int) n8_45) (
        let t45_47 : Int := (((min (cut newslice7_44 (0 : Int) n8_45).length ((newslice7_44.length : Int) - n8_45).toNat) : Nat) : Int)
        let b45_48 : List Int := (over newslice7_44 (cut newslice7_44 (0 : Int) n8_45) (n8_45).toNat (min (cut newslice7_44 (0 : Int) n8_45).length ((newslice7_44.length : Int) - n8_45).toNat))
        again (b45_48, (IntKind.wrap .i64 (n8_45 + t45_47)), ())) s) s
  else
    k0 (newslice7_44, ())
def slices_Repeat_byte (N : Nat) (x0 : List Int) (count1 : Int) : Option (List Int) :=
  if (decide (count1 < (0 : Int))) = true then
    none
  else
    bindO (bits_Mul N (IntKind.wrap .u64 ((x0.length : Int))) (IntKind.wrap .u64 (count1))) (fun r18_33 =>
      bindO (
        if (decide (r18_33.1 > (0 : Int))) = true then
          some true
        else
          let t25_35 : Bool := (decide (r18_33.2 > (9223372036854775807 : Int)))
          some t25_35) (fun (c26_36 : Bool) =>
        if c26_36 = true then
          none
        else
          gate (decide (0 ≤ (IntKind.wrap .i64 (r18_33.2)) ∧ (IntKind.wrap .i64 (r18_33.2)) ≤ (IntKind.wrap .i64 (r18_33.2))) && roomFor ((IntKind.wrap .i64 (r18_33.2))).toNat 1) (
            let b30_37 : List Int := (List.replicate ((IntKind.wrap .i64 (r18_33.2))).toNat (0 : Int))
            let t33_38 : Int := (((min x0.length b30_37.length) : Nat) : Int)
            let b33_39 : List Int := (over b30_37 x0 0 (min x0.length b30_37.length))
            iter (slices_Repeat_byte.s0 N none (fun (x49 : List Int × Unit) =>
              let newslice7_50 : List Int := x49.1
              some newslice7_50) ()) none N (b33_39, t33_38, ())) none) none) none
def arch_Unpack.s0 {R : Type} (N : Nat) (s : R) (k0 : (List Int × Unit) → R) (kr : (Int × Unit) → R) (c66 : List Int × Int × Unit) (again : (List Int × Int × Unit) → R) (v67 : List Int × Int × Unit) : R :=
  let b0_68 : List Int := c66.1
  let many1_69 : Int := c66.2.1
  let out6_70 : List Int := v67.1
  let i7_71 : Int := v67.2.1
  if (decide (i7_71 < (b0_68.length : Int))) = true then
    gate (inR i7_71 (b0_68.length : Int)) (
      let t22_72 : Bool := (decide ((getI (0 : Int) b0_68 i7_71) = (0 : Int)))
      if t22_72 = true then
        kr ((3 : Int), ())
      else
        gate (inR i7_71 (b0_68.length : Int)) (
          let t27_73 : Int := (IntKind.wrap .i64 ((getI (0 : Int) b0_68 i7_71)))
          let t31_74 : Int := (IntKind.wrap .i64 (many1_69 - (out6_70.length : Int)))
          if (decide (t27_73 > t31_74)) = true then
            kr ((2 : Int), ())
          else
            gate (inR (IntKind.wrap .i64 (i7_71 + (1 : Int))) (b0_68.length : Int)) (
              let t37_75 : Int := (getI (0 : Int) b0_68 (IntKind.wrap .i64 (i7_71 + (1 : Int))))
              gate (inR i7_71 (b0_68.length : Int)) (
                let t44_76 : Int := (IntKind.wrap .i64 ((getI (0 : Int) b0_68 i7_71)))
                bindO (slices_Repeat_byte N [t37_75] t44_76) (fun r45_77 =>
                  gate (roomFor (out6_70.length + r45_77.length) 1) (
                    again ((out6_70 ++ r45_77), (IntKind.wrap .i64 (i7_71 + (2 : Int))), ())) s) s) s) s) s) s
  else
    k0 (out6_70, ())
def arch_Unpack (N : Nat) (b0 : List Int) (many1 : Int) : Option (List Int × Int) :=
  gate (decide ((2 : Int) ≠ 0)) (
    let t11_59 : Bool := (!decide ((Int.tmod (b0.length : Int) (2 : Int)) = (0 : Int)))
    if t11_59 = true then
      some ([], (3 : Int))
    else
      iter (arch_Unpack.s0 N none (fun (x78 : List Int × Unit) =>
        let out6_79 : List Int := x78.1
        some (out6_79, (0 : Int))) (fun (x80 : Int × Unit) =>
        let v5_81 : Int := x80.1
        some ([], v5_81)) (b0, many1, ())) none N ([], (0 : Int), ())) none
def wrackref2_Unran.s1 {R : Type} (N : Nat) (s : R) (k2 : (List Int × Unit) → R) (kr : (Int × Unit) → R) (c119 : List Int × Int × Int × Int × Unit) (again : (List Int × Int × Unit) → R) (v120 : List Int × Int × Unit) : R :=
  let b0_121 : List Int := c119.1
  let many1_122 : Int := c119.2.1
  let i7_123 : Int := c119.2.2.1
  let v26_124 : Int := c119.2.2.2.1
  let out6_125 : List Int := v120.1
  let v27_126 : Int := v120.2.1
  if (decide (v27_126 < v26_124)) = true then
    let t32_127 : Bool := (decide ((out6_125.length : Int) ≥ many1_122))
    if t32_127 = true then
      kr ((2 : Int), ())
    else
      gate (inR (IntKind.wrap .i64 (i7_123 + (1 : Int))) (b0_121.length : Int)) (
        let t37_128 : Int := (getI (0 : Int) b0_121 (IntKind.wrap .i64 (i7_123 + (1 : Int))))
        gate (roomFor (out6_125.length + [t37_128].length) 1) (
          again ((out6_125 ++ [t37_128]), (IntKind.wrap .u8 (v27_126 + (1 : Int))), ())) s) s
  else
    k2 (out6_125, ())
def wrackref2_Unran.s0 {R : Type} (N : Nat) (s : R) (k0 : (List Int × Unit) → R) (kr : (Int × Unit) → R) (c111 : List Int × Int × Unit) (again : (List Int × Int × Unit) → R) (v112 : List Int × Int × Unit) : R :=
  let b0_113 : List Int := c111.1
  let many1_114 : Int := c111.2.1
  let out6_115 : List Int := v112.1
  let i7_116 : Int := v112.2.1
  if (decide (i7_116 < (b0_113.length : Int))) = true then
    gate (inR i7_116 (b0_113.length : Int)) (
      let t22_117 : Bool := (decide ((getI (0 : Int) b0_113 i7_116) = (0 : Int)))
      if t22_117 = true then
        kr ((3 : Int), ())
      else
        gate (inR i7_116 (b0_113.length : Int)) (
          iter (wrackref2_Unran.s1 N s (fun (x129 : List Int × Unit) =>
            let out6_130 : List Int := x129.1
            again (out6_130, (IntKind.wrap .i64 (i7_116 + (2 : Int))), ())) (fun (x131 : Int × Unit) =>
            let v5_132 : Int := x131.1
            kr (v5_132, ())) (b0_113, many1_114, i7_116, (getI (0 : Int) b0_113 i7_116), ())) s N (out6_115, (0 : Int), ())) s) s
  else
    k0 (out6_115, ())
def wrackref2_Unran (N : Nat) (b0 : List Int) (many1 : Int) : Option (List Int × Int) :=
  gate (decide ((2 : Int) ≠ 0)) (
    let t11_99 : Bool := (decide ((Int.tmod (b0.length : Int) (2 : Int)) = (1 : Int)))
    if t11_99 = true then
      some ([], (3 : Int))
    else
      iter (wrackref2_Unran.s0 N none (fun (x133 : List Int × Unit) =>
        let out6_134 : List Int := x133.1
        some (out6_134, (0 : Int))) (fun (x135 : Int × Unit) =>
        let v5_136 : Int := x135.1
        some ([], v5_136)) (b0, many1, ())) none N ([], (0 : Int), ())) none
def arch_Pack.s1 {R : Type} (N : Nat) (s : R) (k2 : (List Int × Int × Unit) → R) (c222 : List Int × Int × Unit) (again : (List Int × Int × Unit) → R) (v223 : List Int × Int × Unit) : R :=
  let b0_224 : List Int := c222.1
  let i4_225 : Int := c222.2.1
  let out3_226 : List Int := v223.1
  let n5_227 : Int := v223.2.1
  bindO (
    if (decide (n5_227 < (255 : Int))) = true then
      let t18_231 : Bool := (decide ((IntKind.wrap .i64 (i4_225 + n5_227)) < (b0_224.length : Int)))
      if t18_231 = true then
        gate (inR (IntKind.wrap .i64 (i4_225 + n5_227)) (b0_224.length : Int)) (
          let t25_232 : Int := (getI (0 : Int) b0_224 (IntKind.wrap .i64 (i4_225 + n5_227)))
          gate (inR i4_225 (b0_224.length : Int)) (
            let t31_233 : Bool := (decide (t25_232 = (getI (0 : Int) b0_224 i4_225)))
            some t31_233) none) none
      else
        some false
    else
      some false) (fun (c32_234 : Bool) =>
    if c32_234 = true then
      again (out3_226, (IntKind.wrap .i64 (n5_227 + (1 : Int))), ())
    else
      k2 (out3_226, n5_227, ())) s
def arch_Pack.s0 {R : Type} (N : Nat) (s : R) (k0 : (List Int × Unit) → R) (c204 : List Int × Unit) (again : (List Int × Int × Unit) → R) (v205 : List Int × Int × Unit) : R :=
  let b0_206 : List Int := c204.1
  let out3_207 : List Int := v205.1
  let i4_208 : Int := v205.2.1
  if (decide (i4_208 < (b0_206.length : Int))) = true then
    iter (arch_Pack.s1 N s (fun (x235 : List Int × Int × Unit) =>
      let out3_236 : List Int := x235.1
      let n5_237 : Int := x235.2.1
      gate (inR i4_208 (b0_206.length : Int)) (
        let b42_238 : List Int := [(IntKind.wrap .u8 (n5_237)), (getI (0 : Int) b0_206 i4_208)]
        gate (roomFor (out3_236.length + b42_238.length) 1) (
          again ((out3_236 ++ b42_238), (IntKind.wrap .i64 (i4_208 + n5_237)), ())) s) s) (b0_206, i4_208, ())) s N (out3_207, (1 : Int), ())
  else
    k0 (out3_207, ())
def arch_Pack (N : Nat) (b0 : List Int) : Option (List Int) :=
  iter (arch_Pack.s0 N none (fun (x239 : List Int × Unit) =>
    let out3_240 : List Int := x239.1
    some out3_240) (b0, ())) none N ([], (0 : Int), ())
def slices_Equal_byte.s0 {R : Type} (N : Nat) (s : R) (k0 : Unit → R) (kr : (Bool × Unit) → R) (c249 : List Int × List Int × Int × Unit) (again : (Int × Unit) → R) (v250 : Int × Unit) : R :=
  let s10_251 : List Int := c249.1
  let s21_252 : List Int := c249.2.1
  let v12_253 : Int := c249.2.2.1
  let v13_254 : Int := v250.1
  if (decide (v13_254 < v12_253)) = true then
    gate (inR v13_254 (s10_251.length : Int)) (
      gate (inR v13_254 (s21_252.length : Int)) (
        let t24_255 : Bool := (!decide ((getI (0 : Int) s10_251 v13_254) = (getI (0 : Int) s21_252 v13_254)))
        if t24_255 = true then
          kr (false, ())
        else
          again ((IntKind.wrap .i64 (v13_254 + (1 : Int))), ())) s) s
  else
    k0 ()
def slices_Equal_byte (N : Nat) (s10 : List Int) (s21 : List Int) : Option Bool :=
  let t10_247 : Bool := (!decide ((s10.length : Int) = (s21.length : Int)))
  if t10_247 = true then
    some false
  else
    iter (slices_Equal_byte.s0 N none (fun (x256 : Unit) =>
      some true) (fun (x257 : Bool × Unit) =>
      let v4_258 : Bool := x257.1
      some v4_258) (s10, s21, (s10.length : Int), ())) none N ((0 : Int), ())
def wracklaw2_archives (N : Nat) : Option Bool :=
  bindO (arch_Pack N [(7 : Int), (7 : Int), (7 : Int)]) (fun r2_260 =>
    bindO (slices_Equal_byte N r2_260 [(3 : Int), (7 : Int)]) (fun r4_261 =>
      some r4_261) none) none
def wrackref2_Ran.s0 {R : Type} (N : Nat) (s : R) (k0 : (List Int × Unit) → R) (c290 : List Int × List Int × Int × Unit) (again : (List Int × Int × Unit) → R) (v291 : List Int × Int × Unit) : R :=
  let b0_292 : List Int := c290.1
  let v7_293 : List Int := c290.2.1
  let v8_294 : Int := c290.2.2.1
  let out3_295 : List Int := v291.1
  let v9_296 : Int := v291.2.1
  if (decide (v9_296 < v8_294)) = true then
    gate (inR v9_296 (v7_293.length : Int)) (
      bindO (
        if (decide (v9_296 > (0 : Int))) = true then
          gate (inR (IntKind.wrap .i64 (v9_296 - (1 : Int))) (b0_292.length : Int)) (
            let t22_301 : Int := (getI (0 : Int) b0_292 (IntKind.wrap .i64 (v9_296 - (1 : Int))))
            let t25_302 : Bool := (decide (t22_301 = (getI (0 : Int) v7_293 v9_296)))
            if t25_302 = true then
              let t30_303 : Int := (IntKind.wrap .i64 ((out3_295.length : Int) - (2 : Int)))
              gate (inR t30_303 (out3_295.length : Int)) (
                gate (inR t30_303 (out3_295.length : Int)) (
                  let t33_304 : Bool := (decide ((getI (0 : Int) out3_295 t30_303) < (255 : Int)))
                  some t33_304) none) none
            else
              some false) none
        else
          some false) (fun (c34_305 : Bool) =>
        if c34_305 = true then
          let t37_306 : Int := (IntKind.wrap .i64 ((out3_295.length : Int) - (2 : Int)))
          gate (inR t37_306 (out3_295.length : Int)) (
            gate (inR t37_306 (out3_295.length : Int)) (
              let t40_307 : Int := (IntKind.wrap .u8 ((getI (0 : Int) out3_295 t37_306) + (1 : Int)))
              gate (inR t37_306 (out3_295.length : Int)) (
                gate (inR t37_306 (out3_295.length : Int)) (
                  again ((out3_295.set (t37_306).toNat t40_307), (IntKind.wrap .i64 (v9_296 + (1 : Int))), ())) s) s) s) s
        else
          gate (roomFor (out3_295.length + [(1 : Int), (getI (0 : Int) v7_293 v9_296)].length) 1) (
            let b45_308 : List Int := (out3_295 ++ [(1 : Int), (getI (0 : Int) v7_293 v9_296)])
            again (b45_308, (IntKind.wrap .i64 (v9_296 + (1 : Int))), ())) s) s) s
  else
    k0 (out3_295, ())
def wrackref2_Ran (N : Nat) (b0 : List Int) : Option (List Int) :=
  iter (wrackref2_Ran.s0 N none (fun (x309 : List Int × Unit) =>
    let out3_310 : List Int := x309.1
    some out3_310) (b0, b0, (b0.length : Int), ())) none N ([], (0 : Int), ())
def wracklaw2_ArchPacks (N : Nat) (b0 : List Int) (many1 : Int) : Option Bool :=
  bindO (arch_Unpack N b0 many1) (fun r12_319 =>
    bindO (wrackref2_Unran N b0 many1) (fun r18_320 =>
      bindO (wracklaw2_archives N) (fun r21_326 =>
        if r21_326 = true then
          bindO (arch_Pack N b0) (fun r24_327 =>
            bindO (wrackref2_Ran N b0) (fun r26_328 =>
              bindO (slices_Equal_byte N r24_327 r26_328) (fun r27_329 =>
                if r27_329 = true then
                  if (decide (r12_319.2 = r18_320.2)) = true then
                    bindO (slices_Equal_byte N r12_319.1 r18_320.1) (fun r37_330 =>
                      some r37_330) none
                  else
                    some false
                else
                  some false) none) none) none
        else
          some false) none) none) none
end Go.Proofs.Yteekijpcdcpjkaa
