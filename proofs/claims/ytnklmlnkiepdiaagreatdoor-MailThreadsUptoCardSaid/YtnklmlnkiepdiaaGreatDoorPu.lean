import Derived.Test.YtnklmlnkiepdiaaGreatDoorAbIterFn
import Derived.Test.YtnklmlnkiepdiaaGreatDoorAbSortFn
import Derived.Test.YtnklmlnkiepdiaaGreatDoorAbStrFn
import Derived.Test.YtnklmlnkiepdiaaGreatDoorAbItoaFn
import Derived.Test.YtnklmlnkiepdiaaGreatDoorAbDen
set_option linter.unusedVariables false
namespace Go.Proofs.YtnklmlnkiepdiaaGreatDoor
open Go Go.Ab
def fs_Named.s0 {R : Type} (N : Nat) (s : R) (k0 : Unit → R) (kr : (Bool × Unit) → R) (c17 : List Int × Int × Unit) (again : (Int × Unit) → R) (v18 : Int × Unit) : R :=
  let s0_19 : List Int := c17.1
  let v23_20 : Int := c17.2.1
  let v24_21 : Int := v18.1
  if (decide (v24_21 < v23_20)) = true then
    gate (inR v24_21 (s0_19.length : Int)) (
      bindO (
        let t31_32 : Bool := (decide ((getI 0 s0_19 v24_21) < (97 : Int)))
        if t31_32 = true then
          let t38_33 : Bool := (decide ((getI 0 s0_19 v24_21) < (48 : Int)))
          if t38_33 = true then
            let t46_34 : Bool := (!decide ((getI 0 s0_19 v24_21) = (45 : Int)))
            some t46_34
          else
            let t41_35 : Bool := (decide ((getI 0 s0_19 v24_21) > (57 : Int)))
            if t41_35 = true then
              let t46_36 : Bool := (!decide ((getI 0 s0_19 v24_21) = (45 : Int)))
              some t46_36
            else
              some false
        else
          let t34_37 : Bool := (decide ((getI 0 s0_19 v24_21) > (122 : Int)))
          if t34_37 = true then
            let t38_38 : Bool := (decide ((getI 0 s0_19 v24_21) < (48 : Int)))
            if t38_38 = true then
              let t46_39 : Bool := (!decide ((getI 0 s0_19 v24_21) = (45 : Int)))
              some t46_39
            else
              let t41_40 : Bool := (decide ((getI 0 s0_19 v24_21) > (57 : Int)))
              if t41_40 = true then
                let t46_41 : Bool := (!decide ((getI 0 s0_19 v24_21) = (45 : Int)))
                some t46_41
              else
                some false
          else
            some false) (fun (c47_42 : Bool) =>
        if c47_42 = true then
          kr (false, ())
        else
          again ((IntKind.wrap .i64 (v24_21 + (1 : Int))), ())) s) s
  else
    k0 ()
def fs_Named (N : Nat) (s0 : List Int) : Option Bool :=
  bindO (
    if (decide (s0 = [])) = true then
      some true
    else
      if (decide ((s0.length : Int) > (12 : Int))) = true then
        some true
      else
        gate (inR (0 : Int) (s0.length : Int)) (
          let t15_13 : Bool := (decide ((getI 0 s0 (0 : Int)) < (97 : Int)))
          if t15_13 = true then
            some true
          else
            gate (inR (0 : Int) (s0.length : Int)) (
              let t20_14 : Bool := (decide ((getI 0 s0 (0 : Int)) > (122 : Int)))
              some t20_14) none) none) (fun (c21_15 : Bool) =>
    if c21_15 = true then
      some false
    else
      iter (fs_Named.s0 N none (fun (x43 : Unit) =>
        some true) (fun (x44 : Bool × Unit) =>
        let v2_45 : Bool := x44.1
        some v2_45) (s0, (s0.length : Int), ())) none N ((0 : Int), ())) none
def mail_plain_1 (N : Nat) (c0 : Int) : Option Bool :=
  bindO (
    if (decide (c0 < (32 : Int))) = true then
      some true
    else
      some (decide (c0 > (126 : Int)))) (fun (c2_55 : Bool) =>
    some c2_55) none
def mail_plain_i0_slices_ContainsFunc_i0_slices_IndexFunc.s0 {R : Type} (N : Nat) (s : R) (k0 : Unit → R) (kr : (Int × Unit) → R) (c61 : List Int × Int × Unit) (again : (Int × Unit) → R) (v62 : Int × Unit) : R :=
  let s0_63 : List Int := c61.1
  let v7_64 : Int := c61.2.1
  let v8_65 : Int := v62.1
  if (decide (v8_65 < v7_64)) = true then
    gate (inR v8_65 (s0_63.length : Int)) (
      bindO (mail_plain_1 N (getI (0 : Int) s0_63 v8_65)) (fun r16_66 =>
        if r16_66 = true then
          kr (v8_65, ())
        else
          again ((IntKind.wrap .i64 (v8_65 + (1 : Int))), ())) s) s
  else
    k0 ()
def mail_plain (N : Nat) (s0 : List Int) : Option Bool :=
  gate (roomFor (s0.length) 1) (
    iter (mail_plain_i0_slices_ContainsFunc_i0_slices_IndexFunc.s0 N none (fun (x67 : Unit) =>
      some (!(decide ((-1 : Int) ≥ (0 : Int))))) (fun (x68 : Int × Unit) =>
      let v4_69 : Int := x68.1
      some (!(decide (v4_69 ≥ (0 : Int))))) (s0, (s0.length : Int), ())) none N ((0 : Int), ())) none
def stringslite_HasSuffix (N : Nat) (s0 : List Int) (suffix1 : List Int) : Option Bool :=
  bindO (
    let t9_81 : Bool := (decide ((s0.length : Int) ≥ (suffix1.length : Int)))
    if t9_81 = true then
      let t16_82 : Int := (IntKind.wrap .i64 ((s0.length : Int) - (suffix1.length : Int)))
      gate (bounds (s0.length : Int) t16_82 (s0.length : Int)) (
        let t19_83 : Bool := (decide ((cut s0 t16_82 (s0.length : Int)) = suffix1))
        some t19_83) none
    else
      some false) (fun (c4_84 : Bool) =>
    some c4_84) none
def strings_HasSuffix (N : Nat) (s0 : List Int) (suffix1 : List Int) : Option Bool :=
  bindO (stringslite_HasSuffix N s0 suffix1) (fun r7_86 =>
    some r7_86) none
def mail_one (N : Nat) (m0 : List Int × Int × List Int × List Int × Bool × List Int × List Int) : Option Int :=
  bindO (
    bindO (fs_Named N m0.1) (fun r6_102 =>
      if (!r6_102) = true then
        some true
      else
        bindO (fs_Named N m0.2.2.1) (fun r11_103 =>
          if (!r11_103) = true then
            some true
          else
            if (!decide (m0.2.2.2.1 = [])) = true then
              bindO (fs_Named N m0.2.2.2.1) (fun r21_104 =>
                some (!r21_104)) none
            else
              some false) none) none) (fun (c3_105 : Bool) =>
    if c3_105 = true then
      some (6 : Int)
    else
      bindO (
        if (decide (m0.2.1 < (0 : Int))) = true then
          some true
        else
          some (decide (m0.2.1 > (4294967295 : Int)))) (fun (c25_106 : Bool) =>
        if c25_106 = true then
          some (21 : Int)
        else
          bindO (
            bindO (mail_plain N m0.2.2.2.2.2.1) (fun r37_113 =>
              if (!r37_113) = true then
                some true
              else
                if (!decide (m0.2.2.2.2.2.2 = [])) = true then
                  bindO (strings_HasSuffix N m0.2.2.2.2.2.2 [10]) (fun r46_114 =>
                    if (!r46_114) = true then
                      some true
                    else
                      bindO (dropF m0.2.2.2.2.2.2 [10] []) (fun r53_115 =>
                        bindO (mail_plain N r53_115) (fun r54_116 =>
                          some (!r54_116)) none) none) none
                else
                  bindO (dropF m0.2.2.2.2.2.2 [10] []) (fun r53_117 =>
                    bindO (mail_plain N r53_117) (fun r54_118 =>
                      some (!r54_118)) none) none) none) (fun (c34_119 : Bool) =>
            if c34_119 = true then
              some (3 : Int)
            else
              some (0 : Int)) none) none) none
def mail_Check_i0_slices_ContainsFunc_i0_slices_IndexFunc.s0 {R : Type} (N : Nat) (s : R) (k0 : (List Int × Int × List Int × List Int × Bool × List Int × List Int × Unit) → R) (kr : (List Int × Int × List Int × List Int × Bool × List Int × List Int × Int × Unit) → R) (c172 : List (List Int × Int × List Int × List Int × Bool × List Int × List Int) × Int × Unit) (again : (List Int × Int × List Int × List Int × Bool × List Int × List Int × Int × Unit) → R) (v173 : List Int × Int × List Int × List Int × Bool × List Int × List Int × Int × Unit) : R :=
  let s0_174 : List (List Int × Int × List Int × List Int × Bool × List Int × List Int) := c172.1
  let v7_175 : Int := c172.2.1
  let h0_176 : List Int := v173.1
  let h0_177 : Int := v173.2.1
  let h0_178 : List Int := v173.2.2.1
  let h0_179 : List Int := v173.2.2.2.1
  let h0_180 : Bool := v173.2.2.2.2.1
  let h0_181 : List Int := v173.2.2.2.2.2.1
  let h0_182 : List Int := v173.2.2.2.2.2.2.1
  let v8_183 : Int := v173.2.2.2.2.2.2.2.1
  if (decide (v8_183 < v7_175)) = true then
    gate (inR v8_183 (s0_174.length : Int)) (
      let t14_184 : List Int × Int × List Int × List Int × Bool × List Int × List Int := (getI ([], ((0 : Int), ([], ([], (false, ([], [])))))) s0_174 v8_183)
      if (decide (t14_184.2.2.1 = h0_178)) = true then
        kr (h0_176, h0_177, h0_178, h0_179, h0_180, h0_181, h0_182, v8_183, ())
      else
        again (h0_176, h0_177, h0_178, h0_179, h0_180, h0_181, h0_182, (IntKind.wrap .i64 (v8_183 + (1 : Int))), ())) s
  else
    k0 (h0_176, h0_177, h0_178, h0_179, h0_180, h0_181, h0_182, ())
def mail_Check.s0 {R : Type} (N : Nat) (s : R) (k0 : Unit → R) (kr : (Int × Unit) → R) (c162 : List (List Int × Int × List Int × List Int × Bool × List Int × List Int) × List (List Int × Int × List Int × List Int × Bool × List Int × List Int) × Int × Unit) (again : (Int × Unit) → R) (v163 : Int × Unit) : R :=
  let l0_164 : List (List Int × Int × List Int × List Int × Bool × List Int × List Int) := c162.1
  let v9_165 : List (List Int × Int × List Int × List Int × Bool × List Int × List Int) := c162.2.1
  let v10_166 : Int := c162.2.2.1
  let v11_167 : Int := v163.1
  if (decide (v11_167 < v10_166)) = true then
    gate (inR v11_167 (v9_165.length : Int)) (
      let t14_168 : List Int × Int × List Int × List Int × Bool × List Int × List Int := (getI ([], ((0 : Int), ([], ([], (false, ([], [])))))) v9_165 v11_167)
      bindO (mail_one N t14_168) (fun r17_169 =>
        if (!decide (r17_169 = (0 : Int))) = true then
          kr (r17_169, ())
        else
          gate (bounds (l0_164.length : Int) (0 : Int) v11_167) (
            let t7_170 : Int := ((cut l0_164 (0 : Int) v11_167).length : Int)
            iter (mail_Check_i0_slices_ContainsFunc_i0_slices_IndexFunc.s0 N s (fun (x185 : List Int × Int × List Int × List Int × Bool × List Int × List Int × Unit) =>
              let h0_186 : List Int := x185.1
              let h0_187 : Int := x185.2.1
              let h0_188 : List Int := x185.2.2.1
              let h0_189 : List Int := x185.2.2.2.1
              let h0_190 : Bool := x185.2.2.2.2.1
              let h0_191 : List Int := x185.2.2.2.2.2.1
              let h0_192 : List Int := x185.2.2.2.2.2.2.1
              if (decide ((-1 : Int) ≥ (0 : Int))) = true then
                kr ((7 : Int), ())
              else
                again ((IntKind.wrap .i64 (v11_167 + (1 : Int))), ())) (fun (x193 : List Int × Int × List Int × List Int × Bool × List Int × List Int × Int × Unit) =>
              let h0_194 : List Int := x193.1
              let h0_195 : Int := x193.2.1
              let h0_196 : List Int := x193.2.2.1
              let h0_197 : List Int := x193.2.2.2.1
              let h0_198 : Bool := x193.2.2.2.2.1
              let h0_199 : List Int := x193.2.2.2.2.2.1
              let h0_200 : List Int := x193.2.2.2.2.2.2.1
              let v4_201 : Int := x193.2.2.2.2.2.2.2.1
              if (decide (v4_201 ≥ (0 : Int))) = true then
                kr ((7 : Int), ())
              else
                again ((IntKind.wrap .i64 (v11_167 + (1 : Int))), ())) ((cut l0_164 (0 : Int) v11_167), t7_170, ())) s N (t14_168.1, t14_168.2.1, t14_168.2.2.1, t14_168.2.2.2.1, t14_168.2.2.2.2.1, t14_168.2.2.2.2.2.1, t14_168.2.2.2.2.2.2, (0 : Int), ())) s) s) s
  else
    k0 ()
def mail_Check (N : Nat) (l0 : List (List Int × Int × List Int × List Int × Bool × List Int × List Int)) : Option Int :=
  if (decide ((l0.length : Int) > (60 : Int))) = true then
    some (9 : Int)
  else
    iter (mail_Check.s0 N none (fun (x202 : Unit) =>
      some (0 : Int)) (fun (x203 : Int × Unit) =>
      let v2_204 : Int := x203.1
      some v2_204) (l0, l0, (l0.length : Int), ())) none N ((0 : Int), ())
def slices_Clone_mail_Mail (N : Nat) (s0 : List (List Int × Int × List Int × List Int × Bool × List Int × List Int)) : Option (List (List Int × Int × List Int × List Int × Bool × List Int × List Int)) :=
  let b5_207 : List (List Int × Int × List Int × List Int × Bool × List Int × List Int) := ([] : List (List Int × Int × List Int × List Int × Bool × List Int × List Int))
  gate (roomFor (b5_207.length + s0.length) 96) (
    some (b5_207 ++ s0)) none
def mail_Purge_1 (N : Nat) (m0 : List Int × Int × List Int × List Int × Bool × List Int × List Int) : Option Bool :=
  some m0.2.2.2.2.1
def mail_Purge_i0_slices_DeleteFunc_i0_slices_IndexFunc.s0 {R : Type} (N : Nat) (s : R) (k0 : (List (List Int × Int × List Int × List Int × Bool × List Int × List Int) × Unit) → R) (kr : (List (List Int × Int × List Int × List Int × Bool × List Int × List Int) × Int × Unit) → R) (c238 : Int × Unit) (again : (List (List Int × Int × List Int × List Int × Bool × List Int × List Int) × Int × Unit) → R) (v239 : List (List Int × Int × List Int × List Int × Bool × List Int × List Int) × Int × Unit) : R :=
  let v7_240 : Int := c238.1
  let h0_241 : List (List Int × Int × List Int × List Int × Bool × List Int × List Int) := v239.1
  let v8_242 : Int := v239.2.1
  if (decide (v8_242 < v7_240)) = true then
    gate (inR v8_242 (h0_241.length : Int)) (
      gate (inR v8_242 (h0_241.length : Int)) (
        let t15_243 : List Int × Int × List Int × List Int × Bool × List Int × List Int := (getI ([], ((0 : Int), ([], ([], (false, ([], [])))))) h0_241 v8_242)
        bindO (mail_Purge_1 N t15_243) (fun r16_244 =>
          if r16_244 = true then
            kr (h0_241, v8_242, ())
          else
            again (h0_241, (IntKind.wrap .i64 (v8_242 + (1 : Int))), ())) s) s) s
  else
    k0 (h0_241, ())
def mail_Purge_i0_slices_DeleteFunc.s0 {R : Type} (N : Nat) (s : R) (k0 : (List (List Int × Int × List Int × List Int × Bool × List Int × List Int) × Int × Unit) → R) (c254 : Unit) (again : (List (List Int × Int × List Int × List Int × Bool × List Int × List Int) × Int × Int × Unit) → R) (v255 : List (List Int × Int × List Int × List Int × Bool × List Int × List Int) × Int × Int × Unit) : R :=
  let h0_256 : List (List Int × Int × List Int × List Int × Bool × List Int × List Int) := v255.1
  let i5_257 : Int := v255.2.1
  let j6_258 : Int := v255.2.2.1
  if (decide (j6_258 < (h0_256.length : Int))) = true then
    gate (inR j6_258 (h0_256.length : Int)) (
      gate (inR j6_258 (h0_256.length : Int)) (
        let t25_259 : List Int × Int × List Int × List Int × Bool × List Int × List Int := (getI ([], ((0 : Int), ([], ([], (false, ([], [])))))) h0_256 j6_258)
        bindO (mail_Purge_1 N t25_259) (fun r28_260 =>
          if (!r28_260) = true then
            gate (inR i5_257 (h0_256.length : Int)) (
              gate (inR i5_257 (h0_256.length : Int)) (
                again ((h0_256.set (i5_257).toNat t25_259), (IntKind.wrap .i64 (i5_257 + (1 : Int))), (IntKind.wrap .i64 (j6_258 + (1 : Int))), ())) s) s
          else
            again (h0_256, i5_257, (IntKind.wrap .i64 (j6_258 + (1 : Int))), ())) s) s) s
  else
    k0 (h0_256, i5_257, ())
def mail_Purge (N : Nat) (l0 : List (List Int × Int × List Int × List Int × Bool × List Int × List Int)) : Option (List (List Int × Int × List Int × List Int × Bool × List Int × List Int) × Int) :=
  bindO (mail_Check N l0) (fun r6_234 =>
    if (!decide (r6_234 = (0 : Int))) = true then
      some ([], r6_234)
    else
      bindO (slices_Clone_mail_Mail N l0) (fun r11_235 =>
        iter (mail_Purge_i0_slices_DeleteFunc_i0_slices_IndexFunc.s0 N none (fun (x245 : List (List Int × Int × List Int × List Int × Bool × List Int × List Int) × Unit) =>
          let h0_246 : List (List Int × Int × List Int × List Int × Bool × List Int × List Int) := x245.1
          if (decide ((-1 : Int) = (-1 : Int))) = true then
            some (h0_246, (0 : Int))
          else
            iter (mail_Purge_i0_slices_DeleteFunc.s0 N none (fun (x261 : List (List Int × Int × List Int × List Int × Bool × List Int × List Int) × Int × Unit) =>
              let h0_262 : List (List Int × Int × List Int × List Int × Bool × List Int × List Int) := x261.1
              let i5_263 : Int := x261.2.1
              gate (bounds (h0_262.length : Int) i5_263 (h0_262.length : Int)) (
                let bx_264 : List (List Int × Int × List Int × List Int × Bool × List Int × List Int) := (over h0_262 (List.replicate ((h0_262.length : Int) - i5_263).toNat ([], ((0 : Int), ([], ([], (false, ([], []))))))) (i5_263).toNat ((h0_262.length : Int) - i5_263).toNat)
                gate (bounds (bx_264.length : Int) (0 : Int) i5_263) (
                  some ((cut bx_264 (0 : Int) i5_263), (0 : Int))) none) none) ()) none N (h0_246, (-1 : Int), (IntKind.wrap .i64 ((-1 : Int) + (1 : Int))), ())) (fun (x265 : List (List Int × Int × List Int × List Int × Bool × List Int × List Int) × Int × Unit) =>
          let h0_266 : List (List Int × Int × List Int × List Int × Bool × List Int × List Int) := x265.1
          let v4_267 : Int := x265.2.1
          if (decide (v4_267 = (-1 : Int))) = true then
            some (h0_266, (0 : Int))
          else
            iter (mail_Purge_i0_slices_DeleteFunc.s0 N none (fun (x271 : List (List Int × Int × List Int × List Int × Bool × List Int × List Int) × Int × Unit) =>
              let h0_272 : List (List Int × Int × List Int × List Int × Bool × List Int × List Int) := x271.1
              let i5_273 : Int := x271.2.1
              gate (bounds (h0_272.length : Int) i5_273 (h0_272.length : Int)) (
                let bx_274 : List (List Int × Int × List Int × List Int × Bool × List Int × List Int) := (over h0_272 (List.replicate ((h0_272.length : Int) - i5_273).toNat ([], ((0 : Int), ([], ([], (false, ([], []))))))) (i5_273).toNat ((h0_272.length : Int) - i5_273).toNat)
                gate (bounds (bx_274.length : Int) (0 : Int) i5_273) (
                  some ((cut bx_274 (0 : Int) i5_273), (0 : Int))) none) none) ()) none N (h0_266, v4_267, (IntKind.wrap .i64 (v4_267 + (1 : Int))), ())) ((r11_235.length : Int), ())) none N (r11_235, (0 : Int), ())) none) none
def mail_Threads.s0 {R : Type} (N : Nat) (s : R) (k0 : (List Int × Unit) → R) (c364 : List (List Int × Int × List Int × List Int × Bool × List Int × List Int) × Int × Unit) (again : (List Int × Int × Unit) → R) (v365 : List Int × Int × Unit) : R :=
  let l0_366 : List (List Int × Int × List Int × List Int × Bool × List Int × List Int) := c364.1
  let v27_367 : Int := c364.2.1
  let group5_368 : List Int := v365.1
  let v28_369 : Int := v365.2.1
  if (decide (v28_369 < v27_367)) = true then
    gate (inR v28_369 (group5_368.length : Int)) (
      gate (inR v28_369 (group5_368.length : Int)) (
        again ((group5_368.set (v28_369).toNat v28_369), (IntKind.wrap .i64 (v28_369 + (1 : Int))), ())) s) s
  else
    k0 (group5_368, ())
def mail_Threads_i0_slices_IndexFunc.s0 {R : Type} (N : Nat) (s : R) (k0 : (List Int × List Int × Int × List Int × List Int × Bool × List Int × List Int × Unit) → R) (kr : (List Int × List Int × Int × List Int × List Int × Bool × List Int × List Int × Int × Unit) → R) (c441 : List (List Int × Int × List Int × List Int × Bool × List Int × List Int) × Int × Unit) (again : (List Int × List Int × Int × List Int × List Int × Bool × List Int × List Int × Int × Unit) → R) (v442 : List Int × List Int × Int × List Int × List Int × Bool × List Int × List Int × Int × Unit) : R :=
  let s0_443 : List (List Int × Int × List Int × List Int × Bool × List Int × List Int) := c441.1
  let v7_444 : Int := c441.2.1
  let h0_445 : List Int := v442.1
  let h1_446 : List Int := v442.2.1
  let h1_447 : Int := v442.2.2.1
  let h1_448 : List Int := v442.2.2.2.1
  let h1_449 : List Int := v442.2.2.2.2.1
  let h1_450 : Bool := v442.2.2.2.2.2.1
  let h1_451 : List Int := v442.2.2.2.2.2.2.1
  let h1_452 : List Int := v442.2.2.2.2.2.2.2.1
  let v8_453 : Int := v442.2.2.2.2.2.2.2.2.1
  if (decide (v8_453 < v7_444)) = true then
    gate (inR v8_453 (s0_443.length : Int)) (
      let t14_454 : List Int × Int × List Int × List Int × Bool × List Int × List Int := (getI ([], ((0 : Int), ([], ([], (false, ([], [])))))) s0_443 v8_453)
      if (decide (t14_454.2.2.1 = h1_449)) = true then
        kr (h0_445, h1_446, h1_447, h1_448, h1_449, h1_450, h1_451, h1_452, v8_453, ())
      else
        again (h0_445, h1_446, h1_447, h1_448, h1_449, h1_450, h1_451, h1_452, (IntKind.wrap .i64 (v8_453 + (1 : Int))), ())) s
  else
    k0 (h0_445, h1_446, h1_447, h1_448, h1_449, h1_450, h1_451, h1_452, ())
def mail_Threads.s2 {R : Type} (N : Nat) (s : R) (k4 : (List Int × Unit) → R) (c466 : List (List Int × Int × List Int × List Int × Bool × List Int × List Int) × Int × Int × List (List Int × Int × List Int × List Int × Bool × List Int × List Int) × Int × Int × Int × Unit) (again : (List Int × Int × Unit) → R) (v467 : List Int × Int × Unit) : R :=
  let l0_468 : List (List Int × Int × List Int × List Int × Bool × List Int × List Int) := c466.1
  let a10_469 : Int := c466.2.1
  let b11_470 : Int := c466.2.2.1
  let v36_471 : List (List Int × Int × List Int × List Int × Bool × List Int × List Int) := c466.2.2.2.1
  let v37_472 : Int := c466.2.2.2.2.1
  let v38_473 : Int := c466.2.2.2.2.2.1
  let v67_474 : Int := c466.2.2.2.2.2.2.1
  let group5_475 : List Int := v467.1
  let v68_476 : Int := v467.2.1
  if (decide (v68_476 < v67_474)) = true then
    gate (inR v68_476 (group5_475.length : Int)) (
      gate (inR v68_476 (group5_475.length : Int)) (
        let t76_477 : Bool := (decide ((getI (0 : Int) group5_475 v68_476) = b11_470))
        if t76_477 = true then
          gate (inR v68_476 (group5_475.length : Int)) (
            gate (inR v68_476 (group5_475.length : Int)) (
              again ((group5_475.set (v68_476).toNat a10_469), (IntKind.wrap .i64 (v68_476 + (1 : Int))), ())) s) s
        else
          again (group5_475, (IntKind.wrap .i64 (v68_476 + (1 : Int))), ())) s) s
  else
    k4 (group5_475, ())
def mail_Threads.s1 {R : Type} (N : Nat) (s : R) (k2 : (List Int × Unit) → R) (c432 : List (List Int × Int × List Int × List Int × Bool × List Int × List Int) × List (List Int × Int × List Int × List Int × Bool × List Int × List Int) × Int × Unit) (again : (List Int × Int × Unit) → R) (v433 : List Int × Int × Unit) : R :=
  let l0_434 : List (List Int × Int × List Int × List Int × Bool × List Int × List Int) := c432.1
  let v36_435 : List (List Int × Int × List Int × List Int × Bool × List Int × List Int) := c432.2.1
  let v37_436 : Int := c432.2.2.1
  let group5_437 : List Int := v433.1
  let v38_438 : Int := v433.2.1
  if (decide (v38_438 < v37_436)) = true then
    gate (inR v38_438 (v36_435.length : Int)) (
      let t41_439 : List Int × Int × List Int × List Int × Bool × List Int × List Int := (getI ([], ((0 : Int), ([], ([], (false, ([], [])))))) v36_435 v38_438)
      iter (mail_Threads_i0_slices_IndexFunc.s0 N s (fun (x455 : List Int × List Int × Int × List Int × List Int × Bool × List Int × List Int × Unit) =>
        let h0_456 : List Int := x455.1
        let h1_457 : List Int := x455.2.1
        let h1_458 : Int := x455.2.2.1
        let h1_459 : List Int := x455.2.2.2.1
        let h1_460 : List Int := x455.2.2.2.2.1
        let h1_461 : Bool := x455.2.2.2.2.2.1
        let h1_462 : List Int := x455.2.2.2.2.2.2.1
        let h1_463 : List Int := x455.2.2.2.2.2.2.2.1
        if (decide ((-1 : Int) < (0 : Int))) = true then
          again (h0_456, (IntKind.wrap .i64 (v38_438 + (1 : Int))), ())
        else
          gate (inR v38_438 (h0_456.length : Int)) (
            gate (inR v38_438 (h0_456.length : Int)) (
              gate (inR (-1 : Int) (h0_456.length : Int)) (
                gate (inR (-1 : Int) (h0_456.length : Int)) (
                  let t56_464 : Int := (minI (getI (0 : Int) h0_456 v38_438) (getI (0 : Int) h0_456 (-1 : Int)))
                  gate (inR v38_438 (h0_456.length : Int)) (
                    gate (inR v38_438 (h0_456.length : Int)) (
                      gate (inR (-1 : Int) (h0_456.length : Int)) (
                        gate (inR (-1 : Int) (h0_456.length : Int)) (
                          let t65_465 : Int := (maxI (getI (0 : Int) h0_456 v38_438) (getI (0 : Int) h0_456 (-1 : Int)))
                          iter (mail_Threads.s2 N s (fun (x478 : List Int × Unit) =>
                            let group5_479 : List Int := x478.1
                            again (group5_479, (IntKind.wrap .i64 (v38_438 + (1 : Int))), ())) (l0_434, t56_464, t65_465, v36_435, v37_436, v38_438, (h0_456.length : Int), ())) s N (h0_456, (0 : Int), ())) s) s) s) s) s) s) s) s) (fun (x480 : List Int × List Int × Int × List Int × List Int × Bool × List Int × List Int × Int × Unit) =>
        let h0_481 : List Int := x480.1
        let h1_482 : List Int := x480.2.1
        let h1_483 : Int := x480.2.2.1
        let h1_484 : List Int := x480.2.2.2.1
        let h1_485 : List Int := x480.2.2.2.2.1
        let h1_486 : Bool := x480.2.2.2.2.2.1
        let h1_487 : List Int := x480.2.2.2.2.2.2.1
        let h1_488 : List Int := x480.2.2.2.2.2.2.2.1
        let v4_489 : Int := x480.2.2.2.2.2.2.2.2.1
        if (decide (v4_489 < (0 : Int))) = true then
          again (h0_481, (IntKind.wrap .i64 (v38_438 + (1 : Int))), ())
        else
          gate (inR v38_438 (h0_481.length : Int)) (
            gate (inR v38_438 (h0_481.length : Int)) (
              gate (inR v4_489 (h0_481.length : Int)) (
                gate (inR v4_489 (h0_481.length : Int)) (
                  let t56_490 : Int := (minI (getI (0 : Int) h0_481 v38_438) (getI (0 : Int) h0_481 v4_489))
                  gate (inR v38_438 (h0_481.length : Int)) (
                    gate (inR v38_438 (h0_481.length : Int)) (
                      gate (inR v4_489 (h0_481.length : Int)) (
                        gate (inR v4_489 (h0_481.length : Int)) (
                          let t65_491 : Int := (maxI (getI (0 : Int) h0_481 v38_438) (getI (0 : Int) h0_481 v4_489))
                          iter (mail_Threads.s2 N s (fun (x492 : List Int × Unit) =>
                            let group5_493 : List Int := x492.1
                            again (group5_493, (IntKind.wrap .i64 (v38_438 + (1 : Int))), ())) (l0_434, t56_490, t65_491, v36_435, v37_436, v38_438, (h0_481.length : Int), ())) s N (h0_481, (0 : Int), ())) s) s) s) s) s) s) s) s) (l0_434, (l0_434.length : Int), ())) s N (group5_437, t41_439.1, t41_439.2.1, t41_439.2.2.1, t41_439.2.2.2.1, t41_439.2.2.2.2.1, t41_439.2.2.2.2.2.1, t41_439.2.2.2.2.2.2, (0 : Int), ())) s
  else
    k2 (group5_437, ())
def mail_Threads.s4 {R : Type} (N : Nat) (s : R) (k8 : (List (List Int) × List Int × Unit) → R) (c519 : List Int × Int × Int × Int × List Int × Int × Unit) (again : (List (List Int) × List Int × Int × Unit) → R) (v520 : List (List Int) × List Int × Int × Unit) : R :=
  let group5_521 : List Int := c519.1
  let i14_522 : Int := c519.2.1
  let v84_523 : Int := c519.2.2.1
  let v85_524 : Int := c519.2.2.2.1
  let v88_525 : List Int := c519.2.2.2.2.1
  let v89_526 : Int := c519.2.2.2.2.2.1
  let out13_527 : List (List Int) := v520.1
  let x15_528 : List Int := v520.2.1
  let v90_529 : Int := v520.2.2.1
  if (decide (v90_529 < v89_526)) = true then
    gate (inR v90_529 (v88_525.length : Int)) (
      let t97_530 : Bool := (decide ((getI (0 : Int) v88_525 v90_529) = i14_522))
      if t97_530 = true then
        gate (roomFor (x15_528.length + [v90_529].length) 8) (
          again (out13_527, (x15_528 ++ [v90_529]), (IntKind.wrap .i64 (v90_529 + (1 : Int))), ())) s
      else
        again (out13_527, x15_528, (IntKind.wrap .i64 (v90_529 + (1 : Int))), ())) s
  else
    k8 (out13_527, x15_528, ())
def mail_Threads.s3 {R : Type} (N : Nat) (s : R) (k6 : (List (List Int) × Unit) → R) (c510 : Int × Unit) (again : (List Int × List (List Int) × Int × Unit) → R) (v511 : List Int × List (List Int) × Int × Unit) : R :=
  let v84_512 : Int := c510.1
  let group5_513 : List Int := v511.1
  let out13_514 : List (List Int) := v511.2.1
  let v85_515 : Int := v511.2.2.1
  if (decide (v85_515 < v84_512)) = true then
    iter (mail_Threads.s4 N s (fun (x531 : List (List Int) × List Int × Unit) =>
      let out13_532 : List (List Int) := x531.1
      let x15_533 : List Int := x531.2.1
      let t105_534 : Bool := (decide ((x15_533.length : Int) > (0 : Int)))
      if t105_534 = true then
        gate (roomFor (out13_532.length + [x15_533].length) 24) (
          again (group5_513, (out13_532 ++ [x15_533]), (IntKind.wrap .i64 (v85_515 + (1 : Int))), ())) s
      else
        again (group5_513, out13_532, (IntKind.wrap .i64 (v85_515 + (1 : Int))), ())) (group5_513, v85_515, v84_512, v85_515, group5_513, (group5_513.length : Int), ())) s N (out13_514, [], (0 : Int), ())
  else
    k6 (out13_514, ())
def mail_Threads (N : Nat) (l0 : List (List Int × Int × List Int × List Int × Bool × List Int × List Int)) : Option (List (List Int) × Int) :=
  bindO (mail_Check N l0) (fun r19_360 =>
    if (!decide (r19_360 = (0 : Int))) = true then
      some ([], r19_360)
    else
      gate (decide (0 ≤ (l0.length : Int) ∧ (l0.length : Int) ≤ (l0.length : Int)) && roomFor ((l0.length : Int)).toNat 8) (
        let b25_361 : List Int := (List.replicate ((l0.length : Int)).toNat (0 : Int))
        iter (mail_Threads.s0 N none (fun (x370 : List Int × Unit) =>
          let group5_371 : List Int := x370.1
          iter (mail_Threads.s1 N none (fun (x494 : List Int × Unit) =>
            let group5_495 : List Int := x494.1
            iter (mail_Threads.s3 N none (fun (x535 : List (List Int) × Unit) =>
              let out13_536 : List (List Int) := x535.1
              some (out13_536, (0 : Int))) ((l0.length : Int), ())) none N (group5_495, [], (0 : Int), ())) (l0, l0, (l0.length : Int), ())) none N (group5_371, (0 : Int), ())) (l0, (b25_361.length : Int), ())) none N (b25_361, (0 : Int), ())) none) none
def strings_Contains (N : Nat) (s0 : List Int) (substr1 : List Int) : Option Bool :=
  bindO (indexF s0 substr1) (fun r7_540 =>
    some (decide (r7_540 ≥ (0 : Int)))) none
def wrackref2_Word (N : Nat) (s0 : List Int) : Option Bool :=
  bindO (
    if (decide ((s0.length : Int) > (0 : Int))) = true then
      if (decide ((s0.length : Int) ≤ (12 : Int))) = true then
        gate (bounds (s0.length : Int) (0 : Int) (1 : Int)) (
          bindO (strings_Contains N [97, 98, 99, 100, 101, 102, 103, 104, 105, 106, 107, 108, 109, 110, 111, 112, 113, 114, 115, 116, 117, 118, 119, 120, 121, 122] (cut s0 (0 : Int) (1 : Int))) (fun r14_548 =>
            if r14_548 = true then
              bindO (trimF s0 [97, 98, 99, 100, 101, 102, 103, 104, 105, 106, 107, 108, 109, 110, 111, 112, 113, 114, 115, 116, 117, 118, 119, 120, 121, 122, 48, 49, 50, 51, 52, 53, 54, 55, 56, 57, 45]) (fun r18_549 =>
                some (decide (r18_549 = []))) none
            else
              some false) none) none
      else
        some false
    else
      some false) (fun (c2_550 : Bool) =>
    some c2_550) none
def wrackref2_MailErr_1.s0 {R : Type} (N : Nat) (s : R) (k0 : Unit → R) (kr : (Bool × Unit) → R) (c564 : List Int × Int × Unit) (again : (Int × Unit) → R) (v565 : Int × Unit) : R :=
  let s0_566 : List Int := c564.1
  let v5_567 : Int := c564.2.1
  let v6_568 : Int := v565.1
  if (decide (v6_568 < v5_567)) = true then
    bindO (
      gate (inR v6_568 (s0_566.length : Int)) (
        let t12_571 : Bool := (decide ((getI 0 s0_566 v6_568) < (32 : Int)))
        if t12_571 = true then
          some true
        else
          gate (inR v6_568 (s0_566.length : Int)) (
            let t17_572 : Bool := (decide ((getI 0 s0_566 v6_568) > (126 : Int)))
            some t17_572) none) none) (fun (c18_573 : Bool) =>
      if c18_573 = true then
        kr (false, ())
      else
        again ((IntKind.wrap .i64 (v6_568 + (1 : Int))), ())) s
  else
    k0 ()
def wrackref2_MailErr_1 (N : Nat) (s0 : List Int) : Option Bool :=
  iter (wrackref2_MailErr_1.s0 N none (fun (x574 : Unit) =>
    some true) (fun (x575 : Bool × Unit) =>
    let v2_576 : Bool := x575.1
    some v2_576) (s0, (s0.length : Int), ())) none N ((0 : Int), ())
def strings_Split (N : Nat) (s0 : List Int) (sep1 : List Int) : Option (List (List Int)) :=
  bindO (genSplitF s0 sep1 (0 : Int) (-1 : Int)) (fun r7_663 =>
    some r7_663) none
def wrackref2_MailErr.s1 {R : Type} (N : Nat) (s : R) (k3 : (List (List Int × Bool) × List Int × Int × List Int × List Int × Bool × List Int × List Int × Unit) → R) (kr : (Int × Unit) → R) (c927 : List (List Int × Int × List Int × List Int × Bool × List Int × List Int) × Int × Int × Int × Unit) (again : (List (List Int × Bool) × List (List Int) × Int × List Int × Int × List Int × List Int × Bool × List Int × List Int × Unit) → R) (v928 : List (List Int × Bool) × List (List Int) × Int × List Int × Int × List Int × List Int × Bool × List Int × List Int × Unit) : R :=
  let v13_929 : List (List Int × Int × List Int × List Int × Bool × List Int × List Int) := c927.1
  let v14_930 : Int := c927.2.1
  let v15_931 : Int := c927.2.2.1
  let v72_932 : Int := c927.2.2.2.1
  let seen3_933 : List (List Int × Bool) := v928.1
  let v71_934 : List (List Int) := v928.2.1
  let v73_935 : Int := v928.2.2.1
  let m1_936 : List Int := v928.2.2.2.1
  let m1_937 : Int := v928.2.2.2.2.1
  let m1_938 : List Int := v928.2.2.2.2.2.1
  let m1_939 : List Int := v928.2.2.2.2.2.2.1
  let m1_940 : Bool := v928.2.2.2.2.2.2.2.1
  let m1_941 : List Int := v928.2.2.2.2.2.2.2.2.1
  let m1_942 : List Int := v928.2.2.2.2.2.2.2.2.2.1
  if (decide (v73_935 < v72_932)) = true then
    gate (inR v73_935 (v71_934.length : Int)) (
      gate (inR v73_935 (v71_934.length : Int)) (
        bindO (wrackref2_MailErr_1 N (getI [] v71_934 v73_935)) (fun r79_943 =>
          if (!r79_943) = true then
            kr ((3 : Int), ())
          else
            again (seen3_933, v71_934, (IntKind.wrap .i64 (v73_935 + (1 : Int))), m1_936, m1_937, m1_938, m1_939, m1_940, m1_941, m1_942, ())) s) s) s
  else
    k3 (seen3_933, m1_936, m1_937, m1_938, m1_939, m1_940, m1_941, m1_942, ())
def wrackref2_MailErr.s0 {R : Type} (N : Nat) (s : R) (k0 : Unit → R) (kr : (Int × Unit) → R) (c813 : List (List Int × Int × List Int × List Int × Bool × List Int × List Int) × Int × Unit) (again : (List (List Int × Bool) × Int × Unit) → R) (v814 : List (List Int × Bool) × Int × Unit) : R :=
  let v13_815 : List (List Int × Int × List Int × List Int × Bool × List Int × List Int) := c813.1
  let v14_816 : Int := c813.2.1
  let seen3_817 : List (List Int × Bool) := v814.1
  let v15_818 : Int := v814.2.1
  if (decide (v15_818 < v14_816)) = true then
    gate (inR v15_818 (v13_815.length : Int)) (
      let t17_819 : List Int × Int × List Int × List Int × Bool × List Int × List Int := (getI ([], ((0 : Int), ([], ([], (false, ([], [])))))) v13_815 v15_818)
      bindO (
        bindO (wrackref2_Word N t17_819.1) (fun r22_823 =>
          if (!r22_823) = true then
            some true
          else
            bindO (wrackref2_Word N t17_819.2.2.1) (fun r27_824 =>
              if (!r27_824) = true then
                some true
              else
                if (!decide (t17_819.2.2.2.1 = [])) = true then
                  bindO (wrackref2_Word N t17_819.2.2.2.1) (fun r37_825 =>
                    some (!r37_825)) none
                else
                  some false) none) none) (fun (c19_826 : Bool) =>
        if c19_826 = true then
          kr ((6 : Int), ())
        else
          bindO (
            if (decide (t17_819.2.1 < (0 : Int))) = true then
              some true
            else
              some (decide (t17_819.2.1 ≥ (4294967296 : Int)))) (fun (c41_870 : Bool) =>
            if c41_870 = true then
              kr ((21 : Int), ())
            else
              bindO (wrackref2_MailErr_1 N t17_819.2.2.2.2.2.1) (fun r54_892 =>
                bindO ((
                  if (!r54_892) = true then
                    some (seen3_817, (!r54_892), t17_819.1, t17_819.2.1, t17_819.2.2.1, t17_819.2.2.2.1, t17_819.2.2.2.2.1, t17_819.2.2.2.2.2.1, t17_819.2.2.2.2.2.2, ())
                  else
                    bindO (
                      if (!decide (t17_819.2.2.2.2.2.2 = [])) = true then
                        let t65_900 : Int := (IntKind.wrap .i64 ((t17_819.2.2.2.2.2.2.length : Int) - (1 : Int)))
                        gate (inR t65_900 (t17_819.2.2.2.2.2.2.length : Int)) (
                          let t67_901 : Bool := (!decide ((getI 0 t17_819.2.2.2.2.2.2 t65_900) = (10 : Int)))
                          some t67_901) none
                      else
                        some false) (fun (c50_902 : Bool) =>
                      some (seen3_817, c50_902, t17_819.1, t17_819.2.1, t17_819.2.2.1, t17_819.2.2.2.1, t17_819.2.2.2.2.1, t17_819.2.2.2.2.2.1, t17_819.2.2.2.2.2.2, ())) none : Option (List (List Int × Bool) × Bool × List Int × Int × List Int × List Int × Bool × List Int × List Int × Unit))) (fun j903 =>
                  let seen3_904 : List (List Int × Bool) := j903.1
                  let v50_905 : Bool := j903.2.1
                  let m1_906 : List Int := j903.2.2.1
                  let m1_907 : Int := j903.2.2.2.1
                  let m1_908 : List Int := j903.2.2.2.2.1
                  let m1_909 : List Int := j903.2.2.2.2.2.1
                  let m1_910 : Bool := j903.2.2.2.2.2.2.1
                  let m1_911 : List Int := j903.2.2.2.2.2.2.2.1
                  let m1_912 : List Int := j903.2.2.2.2.2.2.2.2.1
                  if v50_905 = true then
                    kr ((3 : Int), ())
                  else
                    bindO (strings_Split N m1_912 [10]) (fun r71_913 =>
                      iter (wrackref2_MailErr.s1 N s (fun (x944 : List (List Int × Bool) × List Int × Int × List Int × List Int × Bool × List Int × List Int × Unit) =>
                        let seen3_945 : List (List Int × Bool) := x944.1
                        let m1_946 : List Int := x944.2.1
                        let m1_947 : Int := x944.2.2.1
                        let m1_948 : List Int := x944.2.2.2.1
                        let m1_949 : List Int := x944.2.2.2.2.1
                        let m1_950 : Bool := x944.2.2.2.2.2.1
                        let m1_951 : List Int := x944.2.2.2.2.2.2.1
                        let m1_952 : List Int := x944.2.2.2.2.2.2.2.1
                        let t85_953 : Bool := ((mapGet (k := .str) (v := .bool) seen3_945 m1_948).getD false)
                        if t85_953 = true then
                          kr ((7 : Int), ())
                        else
                          again ((mapPut (k := .str) (v := .bool) seen3_945 m1_948 true), (IntKind.wrap .i64 (v15_818 + (1 : Int))), ())) (fun (x954 : Int × Unit) =>
                        let v2_955 : Int := x954.1
                        kr (v2_955, ())) (v13_815, v14_816, v15_818, (r71_913.length : Int), ())) s N (seen3_904, r71_913, (0 : Int), m1_906, m1_907, m1_908, m1_909, m1_910, m1_911, m1_912, ())) s) s) s) s) s) s
  else
    k0 ()
def wrackref2_MailErr (N : Nat) (l0 : List (List Int × Int × List Int × List Int × Bool × List Int × List Int)) : Option Int :=
  if (decide ((l0.length : Int) > (60 : Int))) = true then
    some (9 : Int)
  else
    iter (wrackref2_MailErr.s0 N none (fun (x956 : Unit) =>
      some (0 : Int)) (fun (x957 : Int × Unit) =>
      let v2_958 : Int := x957.1
      some v2_958) (l0, (l0.length : Int), ())) none N (([] : List (List Int × Bool)), (0 : Int), ())
def mail_Print.r0 {R : Type} (N : Nat) (s : R) (c1117 : List (List Int × Int × List Int × List Int × Bool × List Int × List Int) × Int × Int × Unit) (x1119 : List Int) (again : (List Int × Unit) → R) (v1118 : List Int × Unit) : R :=
  let v14_1120 : List (List Int × Int × List Int × List Int × Bool × List Int × List Int) := c1117.1
  let v15_1121 : Int := c1117.2.1
  let v16_1122 : Int := c1117.2.2.1
  let m0_1123 : List Int := v1118.1
  gate (inR (0 : Int) (x1119.length : Int)) (
    let t56_1124 : Bool := (decide ((getI 0 x1119 (0 : Int)) = (46 : Int)))
    if t56_1124 = true then
      gate (roomFor (m0_1123.length + [(46 : Int)].length) 1) (
        gate (roomFor ((m0_1123 ++ [(46 : Int)]).length + x1119.length) 1) (
          again (((m0_1123 ++ [(46 : Int)]) ++ x1119), ())) s) s
    else
      gate (roomFor (m0_1123.length + x1119.length) 1) (
        again ((m0_1123 ++ x1119), ())) s) s
def mail_Print.s0 {R : Type} (N : Nat) (s : R) (k0 : (List Int × Unit) → R) (kr : (List Int × Int × Unit) → R) (c1084 : List (List Int × Int × List Int × List Int × Bool × List Int × List Int) × Int × Unit) (again : (Int × List Int × Unit) → R) (v1085 : Int × List Int × Unit) : R :=
  let v14_1086 : List (List Int × Int × List Int × List Int × Bool × List Int × List Int) := c1084.1
  let v15_1087 : Int := c1084.2.1
  let v16_1088 : Int := v1085.1
  let m0_1089 : List Int := v1085.2.1
  if (decide (v16_1088 < v15_1087)) = true then
    gate (inR v16_1088 (v14_1086.length : Int)) (
      let t18_1090 : List Int × Int × List Int × List Int × Bool × List Int × List Int := (getI ([], ((0 : Int), ([], ([], (false, ([], [])))))) v14_1086 v16_1088)
      gate (decide ([109, 97, 105, 108, 32].length + t18_1090.2.2.1.length ≤ 140737488355328)) (
        gate (decide (([109, 97, 105, 108, 32] ++ t18_1090.2.2.1).length + [32].length ≤ 140737488355328)) (
          let t23_1091 : List Int := (([109, 97, 105, 108, 32] ++ t18_1090.2.2.1) ++ [32])
          gate (decide (t23_1091.length + t18_1090.1.length ≤ 140737488355328)) (
            gate (decide ((t23_1091 ++ t18_1090.1).length + [32].length ≤ 140737488355328)) (
              bindO (itoaF t18_1090.2.1) (fun r30_1092 =>
                gate (decide (((t23_1091 ++ t18_1090.1) ++ [32]).length + r30_1092.length ≤ 140737488355328)) (
                  let t31_1093 : List Int := (((t23_1091 ++ t18_1090.1) ++ [32]) ++ r30_1092)
                  gate (decide (t31_1093.length + [10].length ≤ 140737488355328)) (
                    gate (roomFor (m0_1089.length + (t31_1093 ++ [10]).length) 1) (
                      bindO ((
                        if (!decide (t18_1090.2.2.2.1 = [])) = true then
                          gate (decide ([114, 101, 102, 32].length + t18_1090.2.2.2.1.length ≤ 140737488355328)) (
                            gate (decide (([114, 101, 102, 32] ++ t18_1090.2.2.2.1).length + [10].length ≤ 140737488355328)) (
                              let t40_1096 : List Int := (([114, 101, 102, 32] ++ t18_1090.2.2.2.1) ++ [10])
                              gate (roomFor ((m0_1089 ++ (t31_1093 ++ [10])).length + t40_1096.length) 1) (
                                let b14_1097 : List Int := ((m0_1089 ++ (t31_1093 ++ [10])) ++ t40_1096)
                                some (b14_1097, t18_1090.1, t18_1090.2.1, t18_1090.2.2.1, t18_1090.2.2.2.1, t18_1090.2.2.2.2.1, t18_1090.2.2.2.2.2.1, t18_1090.2.2.2.2.2.2, ())) none) none) none
                        else
                          some ((m0_1089 ++ (t31_1093 ++ [10])), t18_1090.1, t18_1090.2.1, t18_1090.2.2.1, t18_1090.2.2.2.1, t18_1090.2.2.2.2.1, t18_1090.2.2.2.2.2.1, t18_1090.2.2.2.2.2.2, ()) : Option (List Int × List Int × Int × List Int × List Int × Bool × List Int × List Int × Unit))) (fun j1098 =>
                        let m0_1099 : List Int := j1098.1
                        let m1_1100 : List Int := j1098.2.1
                        let m1_1101 : Int := j1098.2.2.1
                        let m1_1102 : List Int := j1098.2.2.2.1
                        let m1_1103 : List Int := j1098.2.2.2.2.1
                        let m1_1104 : Bool := j1098.2.2.2.2.2.1
                        let m1_1105 : List Int := j1098.2.2.2.2.2.2.1
                        let m1_1106 : List Int := j1098.2.2.2.2.2.2.2.1
                        bindO ((
                          if m1_1104 = true then
                            gate (roomFor (m0_1099.length + [103, 111, 110, 101, 10].length) 1) (
                              some ((m0_1099 ++ [103, 111, 110, 101, 10]), m1_1100, m1_1101, m1_1102, m1_1103, m1_1104, m1_1105, m1_1106, ())) none
                          else
                            some (m0_1099, m1_1100, m1_1101, m1_1102, m1_1103, m1_1104, m1_1105, m1_1106, ()) : Option (List Int × List Int × Int × List Int × List Int × Bool × List Int × List Int × Unit))) (fun j1107 =>
                          let m0_1108 : List Int := j1107.1
                          let m1_1109 : List Int := j1107.2.1
                          let m1_1110 : Int := j1107.2.2.1
                          let m1_1111 : List Int := j1107.2.2.2.1
                          let m1_1112 : List Int := j1107.2.2.2.2.1
                          let m1_1113 : Bool := j1107.2.2.2.2.2.1
                          let m1_1114 : List Int := j1107.2.2.2.2.2.2.1
                          let m1_1115 : List Int := j1107.2.2.2.2.2.2.2.1
                          gate (decide ([97, 98, 111, 117, 116, 32].length + m1_1114.length ≤ 140737488355328)) (
                            gate (decide (([97, 98, 111, 117, 116, 32] ++ m1_1114).length + [10].length ≤ 140737488355328)) (
                              let t48_1116 : List Int := (([97, 98, 111, 117, 116, 32] ++ m1_1114) ++ [10])
                              gate (roomFor (m0_1108.length + t48_1116.length) 1) (
                                bindO (linesGo m1_1115) (fun (l1127 : List (List Int)) =>
                                  foldR (mail_Print.r0 N s  (v14_1086, v15_1087, v16_1088, ())) (fun (x1125 : List Int × Unit) =>
                                  let m0_1126 : List Int := x1125.1
                                  gate (roomFor (m0_1126.length + [46, 10].length) 1) (
                                    let t62_1128 : Bool := (decide (((m0_1126 ++ [46, 10]).length : Int) > (65536 : Int)))
                                    if t62_1128 = true then
                                      kr ([], (2 : Int), ())
                                    else
                                      again ((IntKind.wrap .i64 (v16_1088 + (1 : Int))), (m0_1126 ++ [46, 10]), ())) s) l1127 ((m0_1108 ++ t48_1116), ())) s) s) s) s) s) s) s) s) s) s) s) s) s) s) s
  else
    k0 (m0_1089, ())
def mail_Print (N : Nat) (l0 : List (List Int × Int × List Int × List Int × Bool × List Int × List Int)) : Option (List Int × Int) :=
  bindO (mail_Check N l0) (fun r10_1025 =>
    if (!decide (r10_1025 = (0 : Int))) = true then
      some ([], r10_1025)
    else
      iter (mail_Print.s0 N none (fun (x1129 : List Int × Unit) =>
        let m0_1130 : List Int := x1129.1
        some (m0_1130, (0 : Int))) (fun (x1131 : List Int × Int × Unit) =>
        let v2_1132 : List Int := x1131.1
        let v3_1133 : Int := x1131.2.1
        some (v2_1132, v3_1133)) (l0, (l0.length : Int), ())) none N ((0 : Int), [], ())) none
def wracklaw2_mails (N : Nat) : Option Bool :=
  let b5_1138 : List (List Int × Int × List Int × List Int × Bool × List Int × List Int) := [([97], ((5 : Int), ([98], ([], (false, ([], []))))))]
  bindO (mail_Print N b5_1138) (fun r6_1139 =>
    bindO (
      if (decide (r6_1139.2 = (0 : Int))) = true then
        let t13_1141 : Bool := (decide (r6_1139.1 = [109, 97, 105, 108, 32, 98, 32, 97, 32, 53, 10, 97, 98, 111, 117, 116, 32, 10, 46, 10]))
        some t13_1141
      else
        some false) (fun (c0_1142 : Bool) =>
      some c0_1142) none) none
def slices_Equal_mail_Mail.s0 {R : Type} (N : Nat) (s : R) (k0 : Unit → R) (kr : (Bool × Unit) → R) (c1183 : List (List Int × Int × List Int × List Int × Bool × List Int × List Int) × List (List Int × Int × List Int × List Int × Bool × List Int × List Int) × Int × Unit) (again : (Int × Unit) → R) (v1184 : Int × Unit) : R :=
  let s10_1185 : List (List Int × Int × List Int × List Int × Bool × List Int × List Int) := c1183.1
  let s21_1186 : List (List Int × Int × List Int × List Int × Bool × List Int × List Int) := c1183.2.1
  let v12_1187 : Int := c1183.2.2.1
  let v13_1188 : Int := v1184.1
  if (decide (v13_1188 < v12_1187)) = true then
    gate (inR v13_1188 (s10_1185.length : Int)) (
      let t18_1189 : List Int × Int × List Int × List Int × Bool × List Int × List Int := (getI ([], ((0 : Int), ([], ([], (false, ([], [])))))) s10_1185 v13_1188)
      gate (inR v13_1188 (s21_1186.length : Int)) (
        let t22_1190 : List Int × Int × List Int × List Int × Bool × List Int × List Int := (getI ([], ((0 : Int), ([], ([], (false, ([], [])))))) s21_1186 v13_1188)
        let t24_1191 : Bool := (!(decide (t18_1189.1 = t22_1190.1) && (decide (t18_1189.2.1 = t22_1190.2.1) && (decide (t18_1189.2.2.1 = t22_1190.2.2.1) && (decide (t18_1189.2.2.2.1 = t22_1190.2.2.2.1) && ((t18_1189.2.2.2.2.1 == t22_1190.2.2.2.2.1) && (decide (t18_1189.2.2.2.2.2.1 = t22_1190.2.2.2.2.2.1) && (decide (t18_1189.2.2.2.2.2.2 = t22_1190.2.2.2.2.2.2) && true))))))))
        if t24_1191 = true then
          kr (false, ())
        else
          again ((IntKind.wrap .i64 (v13_1188 + (1 : Int))), ())) s) s
  else
    k0 ()
def slices_Equal_mail_Mail (N : Nat) (s10 : List (List Int × Int × List Int × List Int × Bool × List Int × List Int)) (s21 : List (List Int × Int × List Int × List Int × Bool × List Int × List Int)) : Option Bool :=
  let t10_1179 : Bool := (!decide ((s10.length : Int) = (s21.length : Int)))
  if t10_1179 = true then
    some false
  else
    iter (slices_Equal_mail_Mail.s0 N none (fun (x1192 : Unit) =>
      some true) (fun (x1193 : Bool × Unit) =>
      let v4_1194 : Bool := x1193.1
      some v4_1194) (s10, s21, (s10.length : Int), ())) none N ((0 : Int), ())
def wrackref2_Grouped.s2 {R : Type} (N : Nat) (s : R) (k4 : (List (Int × Bool) × List (List Int) × List Int × List (List Int × Int × List Int × List Int × Bool × List Int × List Int) × Unit) → R) (c1815 : Int × Int × Int × Int × Unit) (again : (List (Int × Bool) × List (List Int) × List Int × Int × List (List Int × Int × List Int × List Int × Bool × List Int × List Int) × Unit) → R) (v1816 : List (Int × Bool) × List (List Int) × List Int × Int × List (List Int × Int × List Int × List Int × Bool × List Int × List Int) × Unit) : R :=
  let k8_1817 : Int := c1815.1
  let v13_1818 : Int := c1815.2.1
  let v14_1819 : Int := c1815.2.2.1
  let v31_1820 : Int := c1815.2.2.2.1
  let done4_1821 : List (Int × Bool) := v1816.1
  let out5_1822 : List (List Int) := v1816.2.1
  let group7_1823 : List Int := v1816.2.2.1
  let v32_1824 : Int := v1816.2.2.2.1
  let m0_1825 : List (List Int × Int × List Int × List Int × Bool × List Int × List Int) := v1816.2.2.2.2.1
  if (decide (v32_1824 < v31_1820)) = true then
    let t37_1846 : Bool := ((mapGet (k := (.int .i64)) (v := .bool) done4_1821 v32_1824).getD false)
    if (!t37_1846) = true then
      gate (inR k8_1817 (group7_1823.length : Int)) (
        gate (inR k8_1817 (group7_1823.length : Int)) (
          bindO (
            gate (inR (getI (0 : Int) group7_1823 k8_1817) (m0_1825.length : Int)) (
              let t8_1856 : List Int × Int × List Int × List Int × Bool × List Int × List Int := (getI ([], ((0 : Int), ([], ([], (false, ([], [])))))) m0_1825 (getI (0 : Int) group7_1823 k8_1817))
              if (!decide (t8_1856.2.2.2.1 = [])) = true then
                gate (inR (getI (0 : Int) group7_1823 k8_1817) (m0_1825.length : Int)) (
                  let t15_1857 : List Int × Int × List Int × List Int × Bool × List Int × List Int := (getI ([], ((0 : Int), ([], ([], (false, ([], [])))))) m0_1825 (getI (0 : Int) group7_1823 k8_1817))
                  gate (inR v32_1824 (m0_1825.length : Int)) (
                    let t20_1858 : List Int × Int × List Int × List Int × Bool × List Int × List Int := (getI ([], ((0 : Int), ([], ([], (false, ([], [])))))) m0_1825 v32_1824)
                    if (decide (t15_1857.2.2.2.1 = t20_1858.2.2.1)) = true then
                      some true
                    else
                      gate (inR v32_1824 (m0_1825.length : Int)) (
                        let t28_1859 : List Int × Int × List Int × List Int × Bool × List Int × List Int := (getI ([], ((0 : Int), ([], ([], (false, ([], [])))))) m0_1825 v32_1824)
                        if (!decide (t28_1859.2.2.2.1 = [])) = true then
                          gate (inR v32_1824 (m0_1825.length : Int)) (
                            let t35_1860 : List Int × Int × List Int × List Int × Bool × List Int × List Int := (getI ([], ((0 : Int), ([], ([], (false, ([], [])))))) m0_1825 v32_1824)
                            gate (inR (getI (0 : Int) group7_1823 k8_1817) (m0_1825.length : Int)) (
                              let t40_1861 : List Int × Int × List Int × List Int × Bool × List Int × List Int := (getI ([], ((0 : Int), ([], ([], (false, ([], [])))))) m0_1825 (getI (0 : Int) group7_1823 k8_1817))
                              some (decide (t35_1860.2.2.2.1 = t40_1861.2.2.1))) none) none
                        else
                          some false) none) none) none
              else
                gate (inR v32_1824 (m0_1825.length : Int)) (
                  let t28_1862 : List Int × Int × List Int × List Int × Bool × List Int × List Int := (getI ([], ((0 : Int), ([], ([], (false, ([], [])))))) m0_1825 v32_1824)
                  if (!decide (t28_1862.2.2.2.1 = [])) = true then
                    gate (inR v32_1824 (m0_1825.length : Int)) (
                      let t35_1863 : List Int × Int × List Int × List Int × Bool × List Int × List Int := (getI ([], ((0 : Int), ([], ([], (false, ([], [])))))) m0_1825 v32_1824)
                      gate (inR (getI (0 : Int) group7_1823 k8_1817) (m0_1825.length : Int)) (
                        let t40_1864 : List Int × Int × List Int × List Int × Bool × List Int × List Int := (getI ([], ((0 : Int), ([], ([], (false, ([], [])))))) m0_1825 (getI (0 : Int) group7_1823 k8_1817))
                        some (decide (t35_1863.2.2.2.1 = t40_1864.2.2.1))) none) none
                  else
                    some false) none) none) (fun (c5_1865 : Bool) =>
            if c5_1865 = true then
              gate (roomFor (group7_1823.length + [v32_1824].length) 8) (
                let bx_1866 : List (Int × Bool) := (mapPut (k := (.int .i64)) (v := .bool) done4_1821 v32_1824 true)
                again (bx_1866, out5_1822, (group7_1823 ++ [v32_1824]), (IntKind.wrap .i64 (v32_1824 + (1 : Int))), m0_1825, ())) s
            else
              again (done4_1821, out5_1822, group7_1823, (IntKind.wrap .i64 (v32_1824 + (1 : Int))), m0_1825, ())) s) s) s
    else
      again (done4_1821, out5_1822, group7_1823, (IntKind.wrap .i64 (v32_1824 + (1 : Int))), m0_1825, ())
  else
    k4 (done4_1821, out5_1822, group7_1823, m0_1825, ())
def wrackref2_Grouped.s1 {R : Type} (N : Nat) (s : R) (k2 : (List (Int × Bool) × List (List Int) × List Int × List (List Int × Int × List Int × List Int × Bool × List Int × List Int) × Unit) → R) (c1765 : Int × Int × Unit) (again : (List (Int × Bool) × List (List Int) × List Int × Int × List (List Int × Int × List Int × List Int × Bool × List Int × List Int) × Unit) → R) (v1766 : List (Int × Bool) × List (List Int) × List Int × Int × List (List Int × Int × List Int × List Int × Bool × List Int × List Int) × Unit) : R :=
  let v13_1767 : Int := c1765.1
  let v14_1768 : Int := c1765.2.1
  let done4_1769 : List (Int × Bool) := v1766.1
  let out5_1770 : List (List Int) := v1766.2.1
  let group7_1771 : List Int := v1766.2.2.1
  let k8_1772 : Int := v1766.2.2.2.1
  let m0_1773 : List (List Int × Int × List Int × List Int × Bool × List Int × List Int) := v1766.2.2.2.2.1
  let t27_1774 : Bool := (decide (k8_1772 < (group7_1771.length : Int)))
  if t27_1774 = true then
    iter (wrackref2_Grouped.s2 N s (fun (x1867 : List (Int × Bool) × List (List Int) × List Int × List (List Int × Int × List Int × List Int × Bool × List Int × List Int) × Unit) =>
      let done4_1868 : List (Int × Bool) := x1867.1
      let out5_1869 : List (List Int) := x1867.2.1
      let group7_1870 : List Int := x1867.2.2.1
      let m0_1871 : List (List Int × Int × List Int × List Int × Bool × List Int × List Int) := x1867.2.2.2.1
      again (done4_1868, out5_1869, group7_1870, (IntKind.wrap .i64 (k8_1772 + (1 : Int))), m0_1871, ())) (k8_1772, v13_1767, v14_1768, (m0_1773.length : Int), ())) s N (done4_1769, out5_1770, group7_1771, (0 : Int), m0_1773, ())
  else
    k2 (done4_1769, out5_1770, group7_1771, m0_1773, ())
def wrackref2_Grouped.s0 {R : Type} (N : Nat) (s : R) (k0 : (List (List Int) × Unit) → R) (c1661 : Int × Unit) (again : (List (Int × Bool) × List (List Int) × Int × List (List Int × Int × List Int × List Int × Bool × List Int × List Int) × Unit) → R) (v1662 : List (Int × Bool) × List (List Int) × Int × List (List Int × Int × List Int × List Int × Bool × List Int × List Int) × Unit) : R :=
  let v13_1663 : Int := c1661.1
  let done4_1664 : List (Int × Bool) := v1662.1
  let out5_1665 : List (List Int) := v1662.2.1
  let v14_1666 : Int := v1662.2.2.1
  let m0_1667 : List (List Int × Int × List Int × List Int × Bool × List Int × List Int) := v1662.2.2.2.1
  if (decide (v14_1666 < v13_1663)) = true then
    let t19_1668 : Bool := ((mapGet (k := (.int .i64)) (v := .bool) done4_1664 v14_1666).getD false)
    if t19_1668 = true then
      again (done4_1664, out5_1665, (IntKind.wrap .i64 (v14_1666 + (1 : Int))), m0_1667, ())
    else
      let bx_1669 : List (Int × Bool) := (mapPut (k := (.int .i64)) (v := .bool) done4_1664 v14_1666 true)
      iter (wrackref2_Grouped.s1 N s (fun (x1872 : List (Int × Bool) × List (List Int) × List Int × List (List Int × Int × List Int × List Int × Bool × List Int × List Int) × Unit) =>
        let done4_1873 : List (Int × Bool) := x1872.1
        let out5_1874 : List (List Int) := x1872.2.1
        let group7_1875 : List Int := x1872.2.2.1
        let m0_1876 : List (List Int × Int × List Int × List Int × Bool × List Int × List Int) := x1872.2.2.2.1
        gate (decide (group7_1875.length < 4611686018427387904)) (
          gate (roomFor (out5_1874.length + [(sortInts group7_1875)].length) 24) (
            again (done4_1873, (out5_1874 ++ [(sortInts group7_1875)]), (IntKind.wrap .i64 (v14_1666 + (1 : Int))), m0_1876, ())) s) s) (v13_1663, v14_1666, ())) s N (bx_1669, out5_1665, [v14_1666], (0 : Int), m0_1667, ())
  else
    k0 (out5_1665, ())
def wrackref2_Grouped (N : Nat) (l0 : List (List Int × Int × List Int × List Int × Bool × List Int × List Int)) : Option (List (List Int)) :=
  iter (wrackref2_Grouped.s0 N none (fun (x1877 : List (List Int) × Unit) =>
    let out5_1878 : List (List Int) := x1877.1
    some out5_1878) ((l0.length : Int), ())) none N (([] : List (Int × Bool)), [], (0 : Int), l0, ())
def slices_Equal_int.s0 {R : Type} (N : Nat) (s : R) (k0 : Unit → R) (kr : (Bool × Unit) → R) (c1888 : List Int × List Int × Int × Unit) (again : (Int × Unit) → R) (v1889 : Int × Unit) : R :=
  let s10_1890 : List Int := c1888.1
  let s21_1891 : List Int := c1888.2.1
  let v12_1892 : Int := c1888.2.2.1
  let v13_1893 : Int := v1889.1
  if (decide (v13_1893 < v12_1892)) = true then
    gate (inR v13_1893 (s10_1890.length : Int)) (
      gate (inR v13_1893 (s21_1891.length : Int)) (
        let t24_1894 : Bool := (!decide ((getI (0 : Int) s10_1890 v13_1893) = (getI (0 : Int) s21_1891 v13_1893)))
        if t24_1894 = true then
          kr (false, ())
        else
          again ((IntKind.wrap .i64 (v13_1893 + (1 : Int))), ())) s) s
  else
    k0 ()
def slices_Equal_int (N : Nat) (s10 : List Int) (s21 : List Int) : Option Bool :=
  let t10_1886 : Bool := (!decide ((s10.length : Int) = (s21.length : Int)))
  if t10_1886 = true then
    some false
  else
    iter (slices_Equal_int.s0 N none (fun (x1895 : Unit) =>
      some true) (fun (x1896 : Bool × Unit) =>
      let v4_1897 : Bool := x1896.1
      some v4_1897) (s10, s21, (s10.length : Int), ())) none N ((0 : Int), ())
def wracklaw2_MailThreads_1 (N : Nat) (a0 : List Int) (b1 : List Int) : Option Bool :=
  bindO (slices_Equal_int N a0 b1) (fun r7_1899 =>
    some r7_1899) none
def wracklaw2_MailThreads.s0 {R : Type} (N : Nat) (s : R) (k0 : (List (List Int × Int × List Int × List Int × Bool × List Int × List Int) × List (List Int) × List (List Int × Int × List Int × List Int × Bool × List Int × List Int) × Unit) → R) (c1947 : List (List Int × Int × List Int × List Int × Bool × List Int × List Int) × Int × Int × List (List Int × Int × List Int × List Int × Bool × List Int × List Int) × Int × Unit) (again : (List (List Int × Int × List Int × List Int × Bool × List Int × List Int) × List (List Int) × List (List Int × Int × List Int × List Int × Bool × List Int × List Int) × Int × Unit) → R) (v1948 : List (List Int × Int × List Int × List Int × Bool × List Int × List Int) × List (List Int) × List (List Int × Int × List Int × List Int × Bool × List Int × List Int) × Int × Unit) : R :=
  let l0_1949 : List (List Int × Int × List Int × List Int × Bool × List Int × List Int) := c1947.1
  let e4_1950 : Int := c1947.2.1
  let f6_1951 : Int := c1947.2.2.1
  let v50_1952 : List (List Int × Int × List Int × List Int × Bool × List Int × List Int) := c1947.2.2.2.1
  let v51_1953 : Int := c1947.2.2.2.2.1
  let left3_1954 : List (List Int × Int × List Int × List Int × Bool × List Int × List Int) := v1948.1
  let groups5_1955 : List (List Int) := v1948.2.1
  let want8_1956 : List (List Int × Int × List Int × List Int × Bool × List Int × List Int) := v1948.2.2.1
  let v52_1957 : Int := v1948.2.2.2.1
  if (decide (v52_1957 < v51_1953)) = true then
    gate (inR v52_1957 (v50_1952.length : Int)) (
      let t54_1958 : List Int × Int × List Int × List Int × Bool × List Int × List Int := (getI ([], ((0 : Int), ([], ([], (false, ([], [])))))) v50_1952 v52_1957)
      if (!t54_1958.2.2.2.2.1) = true then
        gate (roomFor (want8_1956.length + [t54_1958].length) 96) (
          again (left3_1954, groups5_1955, (want8_1956 ++ [t54_1958]), (IntKind.wrap .i64 (v52_1957 + (1 : Int))), ())) s
      else
        again (left3_1954, groups5_1955, want8_1956, (IntKind.wrap .i64 (v52_1957 + (1 : Int))), ())) s
  else
    k0 (left3_1954, groups5_1955, want8_1956, ())
def wracklaw2_MailThreads_i0_slices_EqualFunc.s0 {R : Type} (N : Nat) (s : R) (k0 : (List (List Int × Int × List Int × List Int × Bool × List Int × List Int) × List (List Int × Int × List Int × List Int × Bool × List Int × List Int) × Unit) → R) (kr : (List (List Int × Int × List Int × List Int × Bool × List Int × List Int) × List (List Int × Int × List Int × List Int × Bool × List Int × List Int) × Bool × Unit) → R) (c1978 : List (List Int) × List (List Int) × Int × Unit) (again : (List (List Int × Int × List Int × List Int × Bool × List Int × List Int) × List (List Int × Int × List Int × List Int × Bool × List Int × List Int) × Int × Unit) → R) (v1979 : List (List Int × Int × List Int × List Int × Bool × List Int × List Int) × List (List Int × Int × List Int × List Int × Bool × List Int × List Int) × Int × Unit) : R :=
  let s21_1980 : List (List Int) := c1978.1
  let v15_1981 : List (List Int) := c1978.2.1
  let v16_1982 : Int := c1978.2.2.1
  let h0_1983 : List (List Int × Int × List Int × List Int × Bool × List Int × List Int) := v1979.1
  let h2_1984 : List (List Int × Int × List Int × List Int × Bool × List Int × List Int) := v1979.2.1
  let v17_1985 : Int := v1979.2.2.1
  if (decide (v17_1985 < v16_1982)) = true then
    gate (inR v17_1985 (v15_1981.length : Int)) (
      gate (inR v17_1985 (s21_1980.length : Int)) (
        bindO (wracklaw2_MailThreads_1 N (getI [] v15_1981 v17_1985) (getI [] s21_1980 v17_1985)) (fun r29_1986 =>
          if (!r29_1986) = true then
            kr (h0_1983, h2_1984, false, ())
          else
            again (h0_1983, h2_1984, (IntKind.wrap .i64 (v17_1985 + (1 : Int))), ())) s) s) s
  else
    k0 (h0_1983, h2_1984, ())
def wracklaw2_MailThreads (N : Nat) (l0 : List (List Int × Int × List Int × List Int × Bool × List Int × List Int)) : Option Bool :=
  bindO (mail_Purge N l0) (fun r13_1919 =>
    bindO (mail_Threads N l0) (fun r18_1920 =>
      bindO (wrackref2_MailErr N l0) (fun r22_1921 =>
        bindO (
          bindO (wracklaw2_mails N) (fun r23_1923 =>
            if (!r23_1923) = true then
              some true
            else
              some (!decide (r22_1921 = (0 : Int)))) none) (fun (c28_1924 : Bool) =>
          if c28_1924 = true then
            bindO (
              bindO (wracklaw2_mails N) (fun r29_1935 =>
                if r29_1935 = true then
                  if (decide (r13_1919.2 = r22_1921)) = true then
                    if (decide (r18_1920.2 = r22_1921)) = true then
                      let t43_1936 : Bool := (decide ((r13_1919.1.length : Int) = (0 : Int)))
                      if t43_1936 = true then
                        let t48_1937 : Bool := (decide ((r18_1920.1.length : Int) = (0 : Int)))
                        some t48_1937
                      else
                        some false
                    else
                      some false
                  else
                    some false
                else
                  some false) none) (fun (c2_1938 : Bool) =>
              some c2_1938) none
          else
            iter (wracklaw2_MailThreads.s0 N none (fun (x1959 : List (List Int × Int × List Int × List Int × Bool × List Int × List Int) × List (List Int) × List (List Int × Int × List Int × List Int × Bool × List Int × List Int) × Unit) =>
              let left3_1960 : List (List Int × Int × List Int × List Int × Bool × List Int × List Int) := x1959.1
              let groups5_1961 : List (List Int) := x1959.2.1
              let want8_1962 : List (List Int × Int × List Int × List Int × Bool × List Int × List Int) := x1959.2.2.1
              if (decide (r13_1919.2 = (0 : Int))) = true then
                if (decide (r18_1920.2 = (0 : Int))) = true then
                  bindO (slices_Equal_mail_Mail N left3_1960 want8_1962) (fun r73_1974 =>
                    if r73_1974 = true then
                      bindO (wrackref2_Grouped N l0) (fun r78_1975 =>
                        let t14_1976 : Bool := (!decide ((groups5_1961.length : Int) = (r78_1975.length : Int)))
                        if t14_1976 = true then
                          some false
                        else
                          iter (wracklaw2_MailThreads_i0_slices_EqualFunc.s0 N none (fun (x1987 : List (List Int × Int × List Int × List Int × Bool × List Int × List Int) × List (List Int × Int × List Int × List Int × Bool × List Int × List Int) × Unit) =>
                            let h0_1988 : List (List Int × Int × List Int × List Int × Bool × List Int × List Int) := x1987.1
                            let h2_1989 : List (List Int × Int × List Int × List Int × Bool × List Int × List Int) := x1987.2.1
                            some true) (fun (x1990 : List (List Int × Int × List Int × List Int × Bool × List Int × List Int) × List (List Int × Int × List Int × List Int × Bool × List Int × List Int) × Bool × Unit) =>
                            let h0_1991 : List (List Int × Int × List Int × List Int × Bool × List Int × List Int) := x1990.1
                            let h2_1992 : List (List Int × Int × List Int × List Int × Bool × List Int × List Int) := x1990.2.1
                            let v6_1993 : Bool := x1990.2.2.1
                            some v6_1993) (r78_1975, groups5_1961, (groups5_1961.length : Int), ())) none N (left3_1960, want8_1962, (0 : Int), ())) none
                    else
                      some false) none
                else
                  some false
              else
                some false) (l0, r13_1919.2, r18_1920.2, l0, (l0.length : Int), ())) none N (r13_1919.1, r18_1920.1, [], (0 : Int), ())) none) none) none) none
end Go.Proofs.YtnklmlnkiepdiaaGreatDoor
