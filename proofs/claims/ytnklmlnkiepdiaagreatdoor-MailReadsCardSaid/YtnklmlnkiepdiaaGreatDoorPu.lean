import Derived.Test.YtnklmlnkiepdiaaGreatDoorAbIterFn
import Derived.Test.YtnklmlnkiepdiaaGreatDoorAbAtoiFn
import Derived.Test.YtnklmlnkiepdiaaGreatDoorAbStrFn
import Derived.Test.YtnklmlnkiepdiaaGreatDoorAbItoaFn
import Derived.Test.YtnklmlnkiepdiaaGreatDoorAbDen
set_option linter.unusedVariables false
namespace Go.Proofs.YtnklmlnkiepdiaaGreatDoor
open Go Go.Ab
def mail_reader_line (N : Nat) (r0 : List Int × Int) : Option ((List Int × Bool) × (List Int × Int)) :=
  gate (bounds (r0.1.length : Int) r0.2 (r0.1.length : Int)) (
    gate (decide ((cut r0.1 r0.2 (r0.1.length : Int)).length < 4294967281)) (
      let t7_14 : List Int := (cutI 10 (cut r0.1 r0.2 (r0.1.length : Int))).1
      let t7_15 : List Int := (cutI 10 (cut r0.1 r0.2 (r0.1.length : Int))).2.1
      let t7_16 : Bool := (cutI 10 (cut r0.1 r0.2 (r0.1.length : Int))).2.2
      if t7_16 = true then
        let t28_17 : Int := (IntKind.wrap .i64 ((t7_14.length : Int) + (1 : Int)))
        some ((t7_14, t7_16), (r0.1, (IntKind.wrap .i64 (r0.2 + t28_17))))
      else
        some ((t7_14, t7_16), r0)) none) none
def stringslite_HasPrefix (N : Nat) (s0 : List Int) (prefix1 : List Int) : Option Bool :=
  bindO (
    let t9_26 : Bool := (decide ((s0.length : Int) ≥ (prefix1.length : Int)))
    if t9_26 = true then
      gate (bounds (s0.length : Int) (0 : Int) (prefix1.length : Int)) (
        let t16_27 : Bool := (decide ((cut s0 (0 : Int) (prefix1.length : Int)) = prefix1))
        some t16_27) none
    else
      some false) (fun (c4_28 : Bool) =>
    some c4_28) none
def stringslite_CutPrefix (N : Nat) (s0 : List Int) (prefix1 : List Int) : Option (List Int × Bool) :=
  bindO (stringslite_HasPrefix N s0 prefix1) (fun r8_31 =>
    if (!r8_31) = true then
      some (s0, false)
    else
      gate (bounds (s0.length : Int) (prefix1.length : Int) (s0.length : Int)) (
        let t14_32 : List Int := (cut s0 (prefix1.length : Int) (s0.length : Int))
        some (t14_32, true)) none) none
def strings_CutPrefix (N : Nat) (s0 : List Int) (prefix1 : List Int) : Option (List Int × Bool) :=
  bindO (stringslite_CutPrefix N s0 prefix1) (fun r8_34 =>
    some r8_34) none
def mail_reader_word (N : Nat) (r0 : List Int × Int) (w1 : List Int) : Option ((List Int × Bool) × (List Int × Int)) :=
  bindO (mail_reader_line N r0) (fun r17_37 =>
    bindO (strings_CutPrefix N r17_37.1.1 w1) (fun r23_38 =>
      bindO (
        if (!r17_37.1.2) = true then
          some true
        else
          some (!r23_38.2)) (fun (c31_39 : Bool) =>
        if c31_39 = true then
          some (([], false), (r17_37.2.1, r0.2))
        else
          some ((r23_38.1, true), r17_37.2)) none) none) none
def strings_Split (N : Nat) (s0 : List Int) (sep1 : List Int) : Option (List (List Int)) :=
  bindO (genSplitF s0 sep1 (0 : Int) (-1 : Int)) (fun r7_42 =>
    some r7_42) none
def fs_Named.s0 {R : Type} (N : Nat) (s : R) (k0 : Unit → R) (kr : (Bool × Unit) → R) (c72 : List Int × Int × Unit) (again : (Int × Unit) → R) (v73 : Int × Unit) : R :=
  let s0_74 : List Int := c72.1
  let v23_75 : Int := c72.2.1
  let v24_76 : Int := v73.1
  if (decide (v24_76 < v23_75)) = true then
    gate (inR v24_76 (s0_74.length : Int)) (
      bindO (
        let t31_87 : Bool := (decide ((getI 0 s0_74 v24_76) < (97 : Int)))
        if t31_87 = true then
          let t38_88 : Bool := (decide ((getI 0 s0_74 v24_76) < (48 : Int)))
          if t38_88 = true then
            let t46_89 : Bool := (!decide ((getI 0 s0_74 v24_76) = (45 : Int)))
            some t46_89
          else
            let t41_90 : Bool := (decide ((getI 0 s0_74 v24_76) > (57 : Int)))
            if t41_90 = true then
              let t46_91 : Bool := (!decide ((getI 0 s0_74 v24_76) = (45 : Int)))
              some t46_91
            else
              some false
        else
          let t34_92 : Bool := (decide ((getI 0 s0_74 v24_76) > (122 : Int)))
          if t34_92 = true then
            let t38_93 : Bool := (decide ((getI 0 s0_74 v24_76) < (48 : Int)))
            if t38_93 = true then
              let t46_94 : Bool := (!decide ((getI 0 s0_74 v24_76) = (45 : Int)))
              some t46_94
            else
              let t41_95 : Bool := (decide ((getI 0 s0_74 v24_76) > (57 : Int)))
              if t41_95 = true then
                let t46_96 : Bool := (!decide ((getI 0 s0_74 v24_76) = (45 : Int)))
                some t46_96
              else
                some false
          else
            some false) (fun (c47_97 : Bool) =>
        if c47_97 = true then
          kr (false, ())
        else
          again ((IntKind.wrap .i64 (v24_76 + (1 : Int))), ())) s) s
  else
    k0 ()
def fs_Named (N : Nat) (s0 : List Int) : Option Bool :=
  bindO (
    if (decide (s0 = [])) = true then
      some true
    else
      if (decide ((s0.length : Int) > (12 : Int))) = true then
        some true
      else
        gate (inR (0 : Int) (s0.length : Int)) (
          let t15_68 : Bool := (decide ((getI 0 s0 (0 : Int)) < (97 : Int)))
          if t15_68 = true then
            some true
          else
            gate (inR (0 : Int) (s0.length : Int)) (
              let t20_69 : Bool := (decide ((getI 0 s0 (0 : Int)) > (122 : Int)))
              some t20_69) none) none) (fun (c21_70 : Bool) =>
    if c21_70 = true then
      some false
    else
      iter (fs_Named.s0 N none (fun (x98 : Unit) =>
        some true) (fun (x99 : Bool × Unit) =>
        let v2_100 : Bool := x99.1
        some v2_100) (s0, (s0.length : Int), ())) none N ((0 : Int), ())) none
def mail_plain_1 (N : Nat) (c0 : Int) : Option Bool :=
  bindO (
    if (decide (c0 < (32 : Int))) = true then
      some true
    else
      some (decide (c0 > (126 : Int)))) (fun (c2_110 : Bool) =>
    some c2_110) none
def mail_plain_i0_slices_ContainsFunc_i0_slices_IndexFunc.s0 {R : Type} (N : Nat) (s : R) (k0 : Unit → R) (kr : (Int × Unit) → R) (c116 : List Int × Int × Unit) (again : (Int × Unit) → R) (v117 : Int × Unit) : R :=
  let s0_118 : List Int := c116.1
  let v7_119 : Int := c116.2.1
  let v8_120 : Int := v117.1
  if (decide (v8_120 < v7_119)) = true then
    gate (inR v8_120 (s0_118.length : Int)) (
      bindO (mail_plain_1 N (getI (0 : Int) s0_118 v8_120)) (fun r16_121 =>
        if r16_121 = true then
          kr (v8_120, ())
        else
          again ((IntKind.wrap .i64 (v8_120 + (1 : Int))), ())) s) s
  else
    k0 ()
def mail_plain (N : Nat) (s0 : List Int) : Option Bool :=
  gate (roomFor (s0.length) 1) (
    iter (mail_plain_i0_slices_ContainsFunc_i0_slices_IndexFunc.s0 N none (fun (x122 : Unit) =>
      some (!(decide ((-1 : Int) ≥ (0 : Int))))) (fun (x123 : Int × Unit) =>
      let v4_124 : Int := x123.1
      some (!(decide (v4_124 ≥ (0 : Int))))) (s0, (s0.length : Int), ())) none N ((0 : Int), ())) none
def stringslite_HasSuffix (N : Nat) (s0 : List Int) (suffix1 : List Int) : Option Bool :=
  bindO (
    let t9_136 : Bool := (decide ((s0.length : Int) ≥ (suffix1.length : Int)))
    if t9_136 = true then
      let t16_137 : Int := (IntKind.wrap .i64 ((s0.length : Int) - (suffix1.length : Int)))
      gate (bounds (s0.length : Int) t16_137 (s0.length : Int)) (
        let t19_138 : Bool := (decide ((cut s0 t16_137 (s0.length : Int)) = suffix1))
        some t19_138) none
    else
      some false) (fun (c4_139 : Bool) =>
    some c4_139) none
def strings_HasSuffix (N : Nat) (s0 : List Int) (suffix1 : List Int) : Option Bool :=
  bindO (stringslite_HasSuffix N s0 suffix1) (fun r7_141 =>
    some r7_141) none
def mail_one (N : Nat) (m0 : List Int × Int × List Int × List Int × Bool × List Int × List Int) : Option Int :=
  bindO (
    bindO (fs_Named N m0.1) (fun r6_157 =>
      if (!r6_157) = true then
        some true
      else
        bindO (fs_Named N m0.2.2.1) (fun r11_158 =>
          if (!r11_158) = true then
            some true
          else
            if (!decide (m0.2.2.2.1 = [])) = true then
              bindO (fs_Named N m0.2.2.2.1) (fun r21_159 =>
                some (!r21_159)) none
            else
              some false) none) none) (fun (c3_160 : Bool) =>
    if c3_160 = true then
      some (6 : Int)
    else
      bindO (
        if (decide (m0.2.1 < (0 : Int))) = true then
          some true
        else
          some (decide (m0.2.1 > (4294967295 : Int)))) (fun (c25_161 : Bool) =>
        if c25_161 = true then
          some (21 : Int)
        else
          bindO (
            bindO (mail_plain N m0.2.2.2.2.2.1) (fun r37_168 =>
              if (!r37_168) = true then
                some true
              else
                if (!decide (m0.2.2.2.2.2.2 = [])) = true then
                  bindO (strings_HasSuffix N m0.2.2.2.2.2.2 [10]) (fun r46_169 =>
                    if (!r46_169) = true then
                      some true
                    else
                      bindO (dropF m0.2.2.2.2.2.2 [10] []) (fun r53_170 =>
                        bindO (mail_plain N r53_170) (fun r54_171 =>
                          some (!r54_171)) none) none) none
                else
                  bindO (dropF m0.2.2.2.2.2.2 [10] []) (fun r53_172 =>
                    bindO (mail_plain N r53_172) (fun r54_173 =>
                      some (!r54_173)) none) none) none) (fun (c34_174 : Bool) =>
            if c34_174 = true then
              some (3 : Int)
            else
              some (0 : Int)) none) none) none
def stringslite_TrimPrefix (N : Nat) (s0 : List Int) (prefix1 : List Int) : Option (List Int) :=
  bindO (stringslite_HasPrefix N s0 prefix1) (fun r7_183 =>
    if r7_183 = true then
      gate (bounds (s0.length : Int) (prefix1.length : Int) (s0.length : Int)) (
        let t11_184 : List Int := (cut s0 (prefix1.length : Int) (s0.length : Int))
        some t11_184) none
    else
      some s0) none
def strings_TrimPrefix (N : Nat) (s0 : List Int) (prefix1 : List Int) : Option (List Int) :=
  bindO (stringslite_TrimPrefix N s0 prefix1) (fun r7_186 =>
    some r7_186) none
def mail_reader_mail.s0 {R : Type} (N : Nat) (s : R) (kr : (List Int × Int × Bool × List Int × Int × List Int × List Int × Bool × List Int × List Int × Unit) → R) (c249 : Unit) (again : (List Int × Int × List Int × Int × List Int × List Int × Bool × List Int × List Int × List Int × Int × List Int × List Int × Bool × List Int × List Int × List Int × Unit) → R) (v250 : List Int × Int × List Int × Int × List Int × List Int × Bool × List Int × List Int × List Int × Int × List Int × List Int × Bool × List Int × List Int × List Int × Unit) : R :=
  let h0_251 : List Int := v250.1
  let h0_252 : Int := v250.2.1
  let m1_253 : List Int := v250.2.2.1
  let m1_254 : Int := v250.2.2.2.1
  let m1_255 : List Int := v250.2.2.2.2.1
  let m1_256 : List Int := v250.2.2.2.2.2.1
  let m1_257 : Bool := v250.2.2.2.2.2.2.1
  let m1_258 : List Int := v250.2.2.2.2.2.2.2.1
  let m1_259 : List Int := v250.2.2.2.2.2.2.2.2.1
  let m2_260 : List Int := v250.2.2.2.2.2.2.2.2.2.1
  let m2_261 : Int := v250.2.2.2.2.2.2.2.2.2.2.1
  let m2_262 : List Int := v250.2.2.2.2.2.2.2.2.2.2.2.1
  let m2_263 : List Int := v250.2.2.2.2.2.2.2.2.2.2.2.2.1
  let m2_264 : Bool := v250.2.2.2.2.2.2.2.2.2.2.2.2.2.1
  let m2_265 : List Int := v250.2.2.2.2.2.2.2.2.2.2.2.2.2.2.1
  let m2_266 : List Int := v250.2.2.2.2.2.2.2.2.2.2.2.2.2.2.2.1
  let m3_267 : List Int := v250.2.2.2.2.2.2.2.2.2.2.2.2.2.2.2.2.1
  bindO (mail_reader_line N (h0_251, h0_252)) (fun r92_268 =>
    if (!r92_268.1.2) = true then
      kr (r92_268.2.1, r92_268.2.2, false, m2_260, m2_261, m2_262, m2_263, m2_264, m2_265, m2_266, ())
    else
      if (decide (r92_268.1.1 = [46])) = true then
        bindO (mail_one N (m2_260, (m2_261, (m2_262, (m2_263, (m2_264, (m2_265, m3_267))))))) (fun r104_270 =>
          kr (r92_268.2.1, r92_268.2.2, (decide (r104_270 = (0 : Int))), m2_260, m2_261, m2_262, m2_263, m2_264, m2_265, m3_267, ())) s
      else
        bindO (strings_CutPrefix N r92_268.1.1 [46]) (fun r108_271 =>
          bindO (
            if r108_271.2 = true then
              if (decide (r108_271.1 = [])) = true then
                some true
              else
                gate (inR (0 : Int) (r108_271.1.length : Int)) (
                  let t118_273 : Bool := (!decide ((getI 0 r108_271.1 (0 : Int)) = (46 : Int)))
                  some t118_273) none
            else
              some false) (fun (c120_274 : Bool) =>
            if c120_274 = true then
              kr (r92_268.2.1, r92_268.2.2, false, m2_260, m2_261, m2_262, m2_263, m2_264, m2_265, m2_266, ())
            else
              bindO (strings_TrimPrefix N r92_268.1.1 [46]) (fun r123_275 =>
                gate (decide (r123_275.length + [10].length ≤ 140737488355328)) (
                  gate (roomFor (m3_267.length + (r123_275 ++ [10]).length) 1) (
                    again (r92_268.2.1, r92_268.2.2, m1_253, m1_254, m1_255, m1_256, m1_257, m1_258, m1_259, m2_260, m2_261, m2_262, m2_263, m2_264, m2_265, m2_266, (m3_267 ++ (r123_275 ++ [10])), ())) s) s) s) s) s) s
def mail_reader_mail (N : Nat) (r0 : List Int × Int) : Option (((List Int × Int × List Int × List Int × Bool × List Int × List Int) × Bool) × (List Int × Int)) :=
  bindO (mail_reader_word N r0 [109, 97, 105, 108, 32]) (fun r17_219 =>
    bindO (strings_Split N r17_219.1.1 [32]) (fun r21_220 =>
      bindO (
        if (!r17_219.1.2) = true then
          some true
        else
          let t27_222 : Bool := (!decide ((r21_220.length : Int) = (3 : Int)))
          some t27_222) (fun (c28_223 : Bool) =>
        if c28_223 = true then
          some ((([], ((0 : Int), ([], ([], (false, ([], [])))))), false), r17_219.2)
        else
          gate (inR (2 : Int) (r21_220.length : Int)) (
            gate (inR (2 : Int) (r21_220.length : Int)) (
              gate (decide ((getI [] r21_220 (2 : Int)).length ≤ 281474976710656)) (
                bindO (
                  if (!((atoiI (getI [] r21_220 (2 : Int))).2)) = true then
                    some true
                  else
                    bindO (itoaF ((atoiI (getI [] r21_220 (2 : Int))).1)) (fun r41_226 =>
                      gate (inR (2 : Int) (r21_220.length : Int)) (
                        gate (inR (2 : Int) (r21_220.length : Int)) (
                          let t45_227 : Bool := (!decide (r41_226 = (getI [] r21_220 (2 : Int))))
                          some t45_227) none) none) none) (fun (c46_228 : Bool) =>
                  if c46_228 = true then
                    some ((([], ((0 : Int), ([], ([], (false, ([], [])))))), false), r17_219.2)
                  else
                    gate (inR (0 : Int) (r21_220.length : Int)) (
                      gate (inR (0 : Int) (r21_220.length : Int)) (
                        gate (inR (1 : Int) (r21_220.length : Int)) (
                          gate (inR (1 : Int) (r21_220.length : Int)) (
                            bindO (mail_reader_word N r17_219.2 [114, 101, 102, 32]) (fun r60_229 =>
                              bindO (
                                if r60_229.1.2 = true then
                                  some (decide (r60_229.1.1 = []))
                                else
                                  some false) (fun (c69_230 : Bool) =>
                                if c69_230 = true then
                                  some ((((getI [] r21_220 (1 : Int)), ((atoiI (getI [] r21_220 (2 : Int))).1, ((getI [] r21_220 (0 : Int)), (r60_229.1.1, (false, ([], [])))))), false), r60_229.2)
                                else
                                  bindO (mail_reader_word N r60_229.2 [103, 111, 110, 101]) (fun r73_231 =>
                                    if r73_231.1.2 = true then
                                      if (!decide (r73_231.1.1 = [])) = true then
                                        some ((((getI [] r21_220 (1 : Int)), ((atoiI (getI [] r21_220 (2 : Int))).1, ((getI [] r21_220 (0 : Int)), (r60_229.1.1, (true, ([], [])))))), false), r73_231.2)
                                      else
                                        bindO (mail_reader_word N r73_231.2 [97, 98, 111, 117, 116, 32]) (fun r83_232 =>
                                          if (!r83_232.1.2) = true then
                                            some ((((getI [] r21_220 (1 : Int)), ((atoiI (getI [] r21_220 (2 : Int))).1, ((getI [] r21_220 (0 : Int)), (r60_229.1.1, (true, (r83_232.1.1, [])))))), false), r83_232.2)
                                          else
                                            iter (mail_reader_mail.s0 N none (fun (x276 : List Int × Int × Bool × List Int × Int × List Int × List Int × Bool × List Int × List Int × Unit) =>
                                              let h0_277 : List Int := x276.1
                                              let h0_278 : Int := x276.2.1
                                              let v3_279 : Bool := x276.2.2.1
                                              let m1_280 : List Int := x276.2.2.2.1
                                              let m1_281 : Int := x276.2.2.2.2.1
                                              let m1_282 : List Int := x276.2.2.2.2.2.1
                                              let m1_283 : List Int := x276.2.2.2.2.2.2.1
                                              let m1_284 : Bool := x276.2.2.2.2.2.2.2.1
                                              let m1_285 : List Int := x276.2.2.2.2.2.2.2.2.1
                                              let m1_286 : List Int := x276.2.2.2.2.2.2.2.2.2.1
                                              some (((m1_280, (m1_281, (m1_282, (m1_283, (m1_284, (m1_285, m1_286)))))), v3_279), (h0_277, h0_278))) ()) none N (r83_232.2.1, r83_232.2.2, [], (0 : Int), [], [], false, [], [], (getI [] r21_220 (1 : Int)), (atoiI (getI [] r21_220 (2 : Int))).1, (getI [] r21_220 (0 : Int)), r60_229.1.1, true, r83_232.1.1, [], [], ())) none
                                    else
                                      bindO (mail_reader_word N r73_231.2 [97, 98, 111, 117, 116, 32]) (fun r83_287 =>
                                        if (!r83_287.1.2) = true then
                                          some ((((getI [] r21_220 (1 : Int)), ((atoiI (getI [] r21_220 (2 : Int))).1, ((getI [] r21_220 (0 : Int)), (r60_229.1.1, (false, (r83_287.1.1, [])))))), false), r83_287.2)
                                        else
                                          iter (mail_reader_mail.s0 N none (fun (x288 : List Int × Int × Bool × List Int × Int × List Int × List Int × Bool × List Int × List Int × Unit) =>
                                            let h0_289 : List Int := x288.1
                                            let h0_290 : Int := x288.2.1
                                            let v3_291 : Bool := x288.2.2.1
                                            let m1_292 : List Int := x288.2.2.2.1
                                            let m1_293 : Int := x288.2.2.2.2.1
                                            let m1_294 : List Int := x288.2.2.2.2.2.1
                                            let m1_295 : List Int := x288.2.2.2.2.2.2.1
                                            let m1_296 : Bool := x288.2.2.2.2.2.2.2.1
                                            let m1_297 : List Int := x288.2.2.2.2.2.2.2.2.1
                                            let m1_298 : List Int := x288.2.2.2.2.2.2.2.2.2.1
                                            some (((m1_292, (m1_293, (m1_294, (m1_295, (m1_296, (m1_297, m1_298)))))), v3_291), (h0_289, h0_290))) ()) none N (r83_287.2.1, r83_287.2.2, [], (0 : Int), [], [], false, [], [], (getI [] r21_220 (1 : Int)), (atoiI (getI [] r21_220 (2 : Int))).1, (getI [] r21_220 (0 : Int)), r60_229.1.1, false, r83_287.1.1, [], [], ())) none) none) none) none) none) none) none) none) none) none) none) none) none) none) none
def mail_Check_i0_slices_ContainsFunc_i0_slices_IndexFunc.s0 {R : Type} (N : Nat) (s : R) (k0 : (List Int × Int × List Int × List Int × Bool × List Int × List Int × Unit) → R) (kr : (List Int × Int × List Int × List Int × Bool × List Int × List Int × Int × Unit) → R) (c353 : List (List Int × Int × List Int × List Int × Bool × List Int × List Int) × Int × Unit) (again : (List Int × Int × List Int × List Int × Bool × List Int × List Int × Int × Unit) → R) (v354 : List Int × Int × List Int × List Int × Bool × List Int × List Int × Int × Unit) : R :=
  let s0_355 : List (List Int × Int × List Int × List Int × Bool × List Int × List Int) := c353.1
  let v7_356 : Int := c353.2.1
  let h0_357 : List Int := v354.1
  let h0_358 : Int := v354.2.1
  let h0_359 : List Int := v354.2.2.1
  let h0_360 : List Int := v354.2.2.2.1
  let h0_361 : Bool := v354.2.2.2.2.1
  let h0_362 : List Int := v354.2.2.2.2.2.1
  let h0_363 : List Int := v354.2.2.2.2.2.2.1
  let v8_364 : Int := v354.2.2.2.2.2.2.2.1
  if (decide (v8_364 < v7_356)) = true then
    gate (inR v8_364 (s0_355.length : Int)) (
      let t14_365 : List Int × Int × List Int × List Int × Bool × List Int × List Int := (getI ([], ((0 : Int), ([], ([], (false, ([], [])))))) s0_355 v8_364)
      if (decide (t14_365.2.2.1 = h0_359)) = true then
        kr (h0_357, h0_358, h0_359, h0_360, h0_361, h0_362, h0_363, v8_364, ())
      else
        again (h0_357, h0_358, h0_359, h0_360, h0_361, h0_362, h0_363, (IntKind.wrap .i64 (v8_364 + (1 : Int))), ())) s
  else
    k0 (h0_357, h0_358, h0_359, h0_360, h0_361, h0_362, h0_363, ())
def mail_Check.s0 {R : Type} (N : Nat) (s : R) (k0 : Unit → R) (kr : (Int × Unit) → R) (c343 : List (List Int × Int × List Int × List Int × Bool × List Int × List Int) × List (List Int × Int × List Int × List Int × Bool × List Int × List Int) × Int × Unit) (again : (Int × Unit) → R) (v344 : Int × Unit) : R :=
  let l0_345 : List (List Int × Int × List Int × List Int × Bool × List Int × List Int) := c343.1
  let v9_346 : List (List Int × Int × List Int × List Int × Bool × List Int × List Int) := c343.2.1
  let v10_347 : Int := c343.2.2.1
  let v11_348 : Int := v344.1
  if (decide (v11_348 < v10_347)) = true then
    gate (inR v11_348 (v9_346.length : Int)) (
      let t14_349 : List Int × Int × List Int × List Int × Bool × List Int × List Int := (getI ([], ((0 : Int), ([], ([], (false, ([], [])))))) v9_346 v11_348)
      bindO (mail_one N t14_349) (fun r17_350 =>
        if (!decide (r17_350 = (0 : Int))) = true then
          kr (r17_350, ())
        else
          gate (bounds (l0_345.length : Int) (0 : Int) v11_348) (
            let t7_351 : Int := ((cut l0_345 (0 : Int) v11_348).length : Int)
            iter (mail_Check_i0_slices_ContainsFunc_i0_slices_IndexFunc.s0 N s (fun (x366 : List Int × Int × List Int × List Int × Bool × List Int × List Int × Unit) =>
              let h0_367 : List Int := x366.1
              let h0_368 : Int := x366.2.1
              let h0_369 : List Int := x366.2.2.1
              let h0_370 : List Int := x366.2.2.2.1
              let h0_371 : Bool := x366.2.2.2.2.1
              let h0_372 : List Int := x366.2.2.2.2.2.1
              let h0_373 : List Int := x366.2.2.2.2.2.2.1
              if (decide ((-1 : Int) ≥ (0 : Int))) = true then
                kr ((7 : Int), ())
              else
                again ((IntKind.wrap .i64 (v11_348 + (1 : Int))), ())) (fun (x374 : List Int × Int × List Int × List Int × Bool × List Int × List Int × Int × Unit) =>
              let h0_375 : List Int := x374.1
              let h0_376 : Int := x374.2.1
              let h0_377 : List Int := x374.2.2.1
              let h0_378 : List Int := x374.2.2.2.1
              let h0_379 : Bool := x374.2.2.2.2.1
              let h0_380 : List Int := x374.2.2.2.2.2.1
              let h0_381 : List Int := x374.2.2.2.2.2.2.1
              let v4_382 : Int := x374.2.2.2.2.2.2.2.1
              if (decide (v4_382 ≥ (0 : Int))) = true then
                kr ((7 : Int), ())
              else
                again ((IntKind.wrap .i64 (v11_348 + (1 : Int))), ())) ((cut l0_345 (0 : Int) v11_348), t7_351, ())) s N (t14_349.1, t14_349.2.1, t14_349.2.2.1, t14_349.2.2.2.1, t14_349.2.2.2.2.1, t14_349.2.2.2.2.2.1, t14_349.2.2.2.2.2.2, (0 : Int), ())) s) s) s
  else
    k0 ()
def mail_Check (N : Nat) (l0 : List (List Int × Int × List Int × List Int × Bool × List Int × List Int)) : Option Int :=
  if (decide ((l0.length : Int) > (60 : Int))) = true then
    some (9 : Int)
  else
    iter (mail_Check.s0 N none (fun (x383 : Unit) =>
      some (0 : Int)) (fun (x384 : Int × Unit) =>
      let v2_385 : Int := x384.1
      some v2_385) (l0, l0, (l0.length : Int), ())) none N ((0 : Int), ())
def mail_Read.s0 {R : Type} (N : Nat) (s : R) (k0 : (List (List Int × Int × List Int × List Int × Bool × List Int × List Int) × Unit) → R) (kr : (List (List Int × Int × List Int × List Int × Bool × List Int × List Int) × Int × Int × Unit) → R) (c407 : List Int × Unit) (again : (List (List Int × Int × List Int × List Int × Bool × List Int × List Int) × List Int × Int × Unit) → R) (v408 : List (List Int × Int × List Int × List Int × Bool × List Int × List Int) × List Int × Int × Unit) : R :=
  let s0_409 : List Int := c407.1
  let out6_410 : List (List Int × Int × List Int × List Int × Bool × List Int × List Int) := v408.1
  let m0_411 : List Int := v408.2.1
  let m0_412 : Int := v408.2.2.1
  if (decide (m0_412 < (s0_409.length : Int))) = true then
    bindO (mail_reader_mail N (m0_411, m0_412)) (fun r29_413 =>
      if r29_413.1.2 = true then
        gate (bounds (out6_410.length : Int) (0 : Int) (out6_410.length : Int) && decide ((out6_410.length : Int) = (out6_410.length : Int))) (
          gate (roomFor ((cut out6_410 (0 : Int) (out6_410.length : Int)).length + [r29_413.1.1].length) 96 && decide (0 < [r29_413.1.1].length)) (
            let b42_416 : List (List Int × Int × List Int × List Int × Bool × List Int × List Int) := ((cut out6_410 (0 : Int) (out6_410.length : Int)) ++ [r29_413.1.1])
            bindO (mail_Check N b42_416) (fun r43_417 =>
              if (!(decide (r43_417 = (0 : Int)))) = true then
                kr (out6_410, m0_412, (3 : Int), ())
              else
                gate (roomFor (out6_410.length + [r29_413.1.1].length) 96) (
                  again ((out6_410 ++ [r29_413.1.1]), r29_413.2.1, r29_413.2.2, ())) s) s) s) s
      else
        kr (out6_410, m0_412, (3 : Int), ())) s
  else
    k0 (out6_410, ())
def mail_Read (N : Nat) (s0 : List Int) : Option (List (List Int × Int × List Int × List Int × Bool × List Int × List Int) × Int × Int) :=
  if (decide ((s0.length : Int) > (65536 : Int))) = true then
    some ([], ((0 : Int), (2 : Int)))
  else
    iter (mail_Read.s0 N none (fun (x418 : List (List Int × Int × List Int × List Int × Bool × List Int × List Int) × Unit) =>
      let out6_419 : List (List Int × Int × List Int × List Int × Bool × List Int × List Int) := x418.1
      some (out6_419, ((0 : Int), (0 : Int)))) (fun (x420 : List (List Int × Int × List Int × List Int × Bool × List Int × List Int) × Int × Int × Unit) =>
      let v2_421 : List (List Int × Int × List Int × List Int × Bool × List Int × List Int) := x420.1
      let v3_422 : Int := x420.2.1
      let v4_423 : Int := x420.2.2.1
      some (v2_421, (v3_422, v4_423))) (s0, ())) none N ([], s0, (0 : Int), ())
def mail_Repair (N : Nat) (s0 : List Int) : Option (List Int × Int × Int) :=
  bindO (mail_Read N s0) (fun r10_427 =>
    if (decide (r10_427.2.2 = (3 : Int))) = true then
      gate (bounds (s0.length : Int) (0 : Int) r10_427.2.1) (
        let t23_428 : Int := (IntKind.wrap .i64 ((s0.length : Int) - r10_427.2.1))
        some ((cut s0 (0 : Int) r10_427.2.1), (t23_428, (0 : Int)))) none
    else
      if (decide (r10_427.2.2 = (0 : Int))) = true then
        some (s0, ((0 : Int), (0 : Int)))
      else
        some ([], ((0 : Int), r10_427.2.2))) none
def mail_Print.r0 {R : Type} (N : Nat) (s : R) (c585 : List (List Int × Int × List Int × List Int × Bool × List Int × List Int) × Int × Int × Unit) (x587 : List Int) (again : (List Int × Unit) → R) (v586 : List Int × Unit) : R :=
  let v14_588 : List (List Int × Int × List Int × List Int × Bool × List Int × List Int) := c585.1
  let v15_589 : Int := c585.2.1
  let v16_590 : Int := c585.2.2.1
  let m0_591 : List Int := v586.1
  gate (inR (0 : Int) (x587.length : Int)) (
    let t56_592 : Bool := (decide ((getI 0 x587 (0 : Int)) = (46 : Int)))
    if t56_592 = true then
      gate (roomFor (m0_591.length + [(46 : Int)].length) 1) (
        gate (roomFor ((m0_591 ++ [(46 : Int)]).length + x587.length) 1) (
          again (((m0_591 ++ [(46 : Int)]) ++ x587), ())) s) s
    else
      gate (roomFor (m0_591.length + x587.length) 1) (
        again ((m0_591 ++ x587), ())) s) s
def mail_Print.s0 {R : Type} (N : Nat) (s : R) (k0 : (List Int × Unit) → R) (kr : (List Int × Int × Unit) → R) (c554 : List (List Int × Int × List Int × List Int × Bool × List Int × List Int) × Int × Unit) (again : (Int × List Int × Unit) → R) (v555 : Int × List Int × Unit) : R :=
  let v14_556 : List (List Int × Int × List Int × List Int × Bool × List Int × List Int) := c554.1
  let v15_557 : Int := c554.2.1
  let v16_558 : Int := v555.1
  let m0_559 : List Int := v555.2.1
  if (decide (v16_558 < v15_557)) = true then
    gate (inR v16_558 (v14_556.length : Int)) (
      let t18_560 : List Int × Int × List Int × List Int × Bool × List Int × List Int := (getI ([], ((0 : Int), ([], ([], (false, ([], [])))))) v14_556 v16_558)
      gate (decide ([109, 97, 105, 108, 32].length + t18_560.2.2.1.length ≤ 140737488355328)) (
        gate (decide (([109, 97, 105, 108, 32] ++ t18_560.2.2.1).length + [32].length ≤ 140737488355328)) (
          let t23_561 : List Int := (([109, 97, 105, 108, 32] ++ t18_560.2.2.1) ++ [32])
          gate (decide (t23_561.length + t18_560.1.length ≤ 140737488355328)) (
            gate (decide ((t23_561 ++ t18_560.1).length + [32].length ≤ 140737488355328)) (
              bindO (itoaF t18_560.2.1) (fun r30_562 =>
                gate (decide (((t23_561 ++ t18_560.1) ++ [32]).length + r30_562.length ≤ 140737488355328)) (
                  let t31_563 : List Int := (((t23_561 ++ t18_560.1) ++ [32]) ++ r30_562)
                  gate (decide (t31_563.length + [10].length ≤ 140737488355328)) (
                    gate (roomFor (m0_559.length + (t31_563 ++ [10]).length) 1) (
                      bindO ((
                        if (!decide (t18_560.2.2.2.1 = [])) = true then
                          gate (decide ([114, 101, 102, 32].length + t18_560.2.2.2.1.length ≤ 140737488355328)) (
                            gate (decide (([114, 101, 102, 32] ++ t18_560.2.2.2.1).length + [10].length ≤ 140737488355328)) (
                              let t40_565 : List Int := (([114, 101, 102, 32] ++ t18_560.2.2.2.1) ++ [10])
                              gate (roomFor ((m0_559 ++ (t31_563 ++ [10])).length + t40_565.length) 1) (
                                some (((m0_559 ++ (t31_563 ++ [10])) ++ t40_565), t18_560.1, t18_560.2.1, t18_560.2.2.1, t18_560.2.2.2.1, t18_560.2.2.2.2.1, t18_560.2.2.2.2.2.1, t18_560.2.2.2.2.2.2, ())) none) none) none
                        else
                          some ((m0_559 ++ (t31_563 ++ [10])), t18_560.1, t18_560.2.1, t18_560.2.2.1, t18_560.2.2.2.1, t18_560.2.2.2.2.1, t18_560.2.2.2.2.2.1, t18_560.2.2.2.2.2.2, ()) : Option (List Int × List Int × Int × List Int × List Int × Bool × List Int × List Int × Unit))) (fun j566 =>
                        let m0_567 : List Int := j566.1
                        let m1_568 : List Int := j566.2.1
                        let m1_569 : Int := j566.2.2.1
                        let m1_570 : List Int := j566.2.2.2.1
                        let m1_571 : List Int := j566.2.2.2.2.1
                        let m1_572 : Bool := j566.2.2.2.2.2.1
                        let m1_573 : List Int := j566.2.2.2.2.2.2.1
                        let m1_574 : List Int := j566.2.2.2.2.2.2.2.1
                        bindO ((
                          if m1_572 = true then
                            gate (roomFor (m0_567.length + [103, 111, 110, 101, 10].length) 1) (
                              some ((m0_567 ++ [103, 111, 110, 101, 10]), m1_568, m1_569, m1_570, m1_571, m1_572, m1_573, m1_574, ())) none
                          else
                            some (m0_567, m1_568, m1_569, m1_570, m1_571, m1_572, m1_573, m1_574, ()) : Option (List Int × List Int × Int × List Int × List Int × Bool × List Int × List Int × Unit))) (fun j575 =>
                          let m0_576 : List Int := j575.1
                          let m1_577 : List Int := j575.2.1
                          let m1_578 : Int := j575.2.2.1
                          let m1_579 : List Int := j575.2.2.2.1
                          let m1_580 : List Int := j575.2.2.2.2.1
                          let m1_581 : Bool := j575.2.2.2.2.2.1
                          let m1_582 : List Int := j575.2.2.2.2.2.2.1
                          let m1_583 : List Int := j575.2.2.2.2.2.2.2.1
                          gate (decide ([97, 98, 111, 117, 116, 32].length + m1_582.length ≤ 140737488355328)) (
                            gate (decide (([97, 98, 111, 117, 116, 32] ++ m1_582).length + [10].length ≤ 140737488355328)) (
                              let t48_584 : List Int := (([97, 98, 111, 117, 116, 32] ++ m1_582) ++ [10])
                              gate (roomFor (m0_576.length + t48_584.length) 1) (
                                bindO (linesGo m1_583) (fun (l595 : List (List Int)) =>
                                  foldR (mail_Print.r0 N s  (v14_556, v15_557, v16_558, ())) (fun (x593 : List Int × Unit) =>
                                  let m0_594 : List Int := x593.1
                                  gate (roomFor (m0_594.length + [46, 10].length) 1) (
                                    let t62_596 : Bool := (decide (((m0_594 ++ [46, 10]).length : Int) > (65536 : Int)))
                                    if t62_596 = true then
                                      kr ([], (2 : Int), ())
                                    else
                                      again ((IntKind.wrap .i64 (v16_558 + (1 : Int))), (m0_594 ++ [46, 10]), ())) s) l595 ((m0_576 ++ t48_584), ())) s) s) s) s) s) s) s) s) s) s) s) s) s) s) s
  else
    k0 (m0_559, ())
def mail_Print (N : Nat) (l0 : List (List Int × Int × List Int × List Int × Bool × List Int × List Int)) : Option (List Int × Int) :=
  bindO (mail_Check N l0) (fun r10_495 =>
    if (!decide (r10_495 = (0 : Int))) = true then
      some ([], r10_495)
    else
      iter (mail_Print.s0 N none (fun (x597 : List Int × Unit) =>
        let m0_598 : List Int := x597.1
        some (m0_598, (0 : Int))) (fun (x599 : List Int × Int × Unit) =>
        let v2_600 : List Int := x599.1
        let v3_601 : Int := x599.2.1
        some (v2_600, v3_601)) (l0, (l0.length : Int), ())) none N ((0 : Int), [], ())) none
def wracklaw2_mails (N : Nat) : Option Bool :=
  let b5_606 : List (List Int × Int × List Int × List Int × Bool × List Int × List Int) := [([97], ((5 : Int), ([98], ([], (false, ([], []))))))]
  bindO (mail_Print N b5_606) (fun r6_607 =>
    bindO (
      if (decide (r6_607.2 = (0 : Int))) = true then
        let t13_609 : Bool := (decide (r6_607.1 = [109, 97, 105, 108, 32, 98, 32, 97, 32, 53, 10, 97, 98, 111, 117, 116, 32, 10, 46, 10]))
        some t13_609
      else
        some false) (fun (c0_610 : Bool) =>
      some c0_610) none) none
def stringslite_TrimSuffix (N : Nat) (s0 : List Int) (suffix1 : List Int) : Option (List Int) :=
  bindO (stringslite_HasSuffix N s0 suffix1) (fun r7_625 =>
    if r7_625 = true then
      let t13_626 : Int := (IntKind.wrap .i64 ((s0.length : Int) - (suffix1.length : Int)))
      gate (bounds (s0.length : Int) (0 : Int) t13_626) (
        some (cut s0 (0 : Int) t13_626)) none
    else
      some s0) none
def strings_TrimSuffix (N : Nat) (s0 : List Int) (suffix1 : List Int) : Option (List Int) :=
  bindO (stringslite_TrimSuffix N s0 suffix1) (fun r7_628 =>
    some r7_628) none
def strings_HasPrefix (N : Nat) (s0 : List Int) (prefix1 : List Int) : Option Bool :=
  bindO (stringslite_HasPrefix N s0 prefix1) (fun r7_635 =>
    some r7_635) none
def wrackref2_mailOf.s0 {R : Type} (N : Nat) (s : R) (k0 : (List Int × Int × List Int × List Int × Bool × List Int × List Int × List Int × Int × List Int × List Int × Bool × List Int × List Int × Unit) → R) (c774 : Int × Unit) (again : (List (List Int) × Int × List Int × Int × List Int × List Int × Bool × List Int × List Int × List Int × Int × List Int × List Int × Bool × List Int × List Int × Unit) → R) (v775 : List (List Int) × Int × List Int × Int × List Int × List Int × Bool × List Int × List Int × List Int × Int × List Int × List Int × Bool × List Int × List Int × Unit) : R :=
  let v93_776 : Int := c774.1
  let v92_777 : List (List Int) := v775.1
  let v94_778 : Int := v775.2.1
  let m0_779 : List Int := v775.2.2.1
  let m0_780 : Int := v775.2.2.2.1
  let m0_781 : List Int := v775.2.2.2.2.1
  let m0_782 : List Int := v775.2.2.2.2.2.1
  let m0_783 : Bool := v775.2.2.2.2.2.2.1
  let m0_784 : List Int := v775.2.2.2.2.2.2.2.1
  let m0_785 : List Int := v775.2.2.2.2.2.2.2.2.1
  let m1_786 : List Int := v775.2.2.2.2.2.2.2.2.2.1
  let m1_787 : Int := v775.2.2.2.2.2.2.2.2.2.2.1
  let m1_788 : List Int := v775.2.2.2.2.2.2.2.2.2.2.2.1
  let m1_789 : List Int := v775.2.2.2.2.2.2.2.2.2.2.2.2.1
  let m1_790 : Bool := v775.2.2.2.2.2.2.2.2.2.2.2.2.2.1
  let m1_791 : List Int := v775.2.2.2.2.2.2.2.2.2.2.2.2.2.2.1
  let m1_792 : List Int := v775.2.2.2.2.2.2.2.2.2.2.2.2.2.2.2.1
  if (decide (v94_778 < v93_776)) = true then
    gate (inR v94_778 (v92_777.length : Int)) (
      gate (inR v94_778 (v92_777.length : Int)) (
        bindO (strings_TrimPrefix N (getI [] v92_777 v94_778) [46]) (fun r101_793 =>
          gate (decide (r101_793.length + [10].length ≤ 140737488355328)) (
            gate (decide (m1_792.length + (r101_793 ++ [10]).length ≤ 140737488355328)) (
              again (v92_777, (IntKind.wrap .i64 (v94_778 + (1 : Int))), m0_779, m0_780, m0_781, m0_782, m0_783, m0_784, m0_785, m1_786, m1_787, m1_788, m1_789, m1_790, m1_791, (m1_792 ++ (r101_793 ++ [10])), ())) s) s) s) s) s
  else
    k0 (m0_779, m0_780, m0_781, m0_782, m0_783, m0_784, m0_785, m1_786, m1_787, m1_788, m1_789, m1_790, m1_791, m1_792, ())
def wrackref2_mailOf (N : Nat) (s0 : List Int) : Option ((List Int × Int × List Int × List Int × Bool × List Int × List Int) × Bool) :=
  bindO (strings_TrimSuffix N s0 [46, 10]) (fun r12_746 =>
    bindO (strings_Split N r12_746 [10]) (fun r13_747 =>
      gate (inR (0 : Int) (r13_747.length : Int)) (
        gate (inR (0 : Int) (r13_747.length : Int)) (
          bindO (strings_Split N (getI [] r13_747 (0 : Int)) [32]) (fun r17_748 =>
            let t20_749 : Bool := (!decide ((r17_748.length : Int) = (4 : Int)))
            if t20_749 = true then
              some (([], ((0 : Int), ([], ([], (false, ([], [])))))), false)
            else
              gate (inR (3 : Int) (r17_748.length : Int)) (
                gate (inR (3 : Int) (r17_748.length : Int)) (
                  gate (decide ((getI [] r17_748 (3 : Int)).length ≤ 281474976710656)) (
                    gate (inR (1 : Int) (r17_748.length : Int)) (
                      gate (inR (1 : Int) (r17_748.length : Int)) (
                        gate (inR (2 : Int) (r17_748.length : Int)) (
                          gate (inR (2 : Int) (r17_748.length : Int)) (
                            gate (bounds (r13_747.length : Int) (1 : Int) (r13_747.length : Int)) (
                              bindO (
                                let t41_752 : Bool := (decide (((r13_747.length : Int) - (1 : Int)) > (0 : Int)))
                                if t41_752 = true then
                                  gate (inR (0 : Int) ((r13_747.length : Int) - (1 : Int))) (
                                    gate (inR ((1 : Int) + (0 : Int)) (r13_747.length : Int)) (
                                      bindO (strings_HasPrefix N (getI [] r13_747 ((1 : Int) + (0 : Int))) [114, 101, 102, 32]) (fun r46_753 =>
                                        some r46_753) none) none) none
                                else
                                  some false) (fun (c47_754 : Bool) =>
                                if c47_754 = true then
                                  gate (inR (0 : Int) ((r13_747.length : Int) - (1 : Int))) (
                                    gate (inR ((1 : Int) + (0 : Int)) (r13_747.length : Int)) (
                                      gate (bounds ((getI [] r13_747 ((1 : Int) + (0 : Int))).length : Int) (4 : Int) ((getI [] r13_747 ((1 : Int) + (0 : Int))).length : Int)) (
                                        let t51_755 : List Int := (cut (getI [] r13_747 ((1 : Int) + (0 : Int))) (4 : Int) ((getI [] r13_747 ((1 : Int) + (0 : Int))).length : Int))
                                        gate (bounds ((r13_747.length : Int) - (1 : Int)) (1 : Int) ((r13_747.length : Int) - (1 : Int))) (
                                          bindO (
                                            let t56_758 : Int := (((1 : Int) + ((r13_747.length : Int) - (1 : Int))) - ((1 : Int) + (1 : Int)))
                                            if (decide (t56_758 > (0 : Int))) = true then
                                              gate (inR (0 : Int) (((1 : Int) + ((r13_747.length : Int) - (1 : Int))) - ((1 : Int) + (1 : Int)))) (
                                                gate (inR (((1 : Int) + (1 : Int)) + (0 : Int)) (r13_747.length : Int)) (
                                                  let t61_759 : List Int := (getI [] r13_747 (((1 : Int) + (1 : Int)) + (0 : Int)))
                                                  some (decide (t61_759 = [103, 111, 110, 101]))) none) none
                                            else
                                              some false) (fun (c63_760 : Bool) =>
                                            if c63_760 = true then
                                              gate (bounds (((1 : Int) + ((r13_747.length : Int) - (1 : Int))) - ((1 : Int) + (1 : Int))) (1 : Int) (((1 : Int) + ((r13_747.length : Int) - (1 : Int))) - ((1 : Int) + (1 : Int)))) (
                                                bindO (
                                                  if (!((atoiI (getI [] r17_748 (3 : Int))).2)) = true then
                                                    some true
                                                  else
                                                    let t71_764 : Int := ((((1 : Int) + (1 : Int)) + (((1 : Int) + ((r13_747.length : Int) - (1 : Int))) - ((1 : Int) + (1 : Int)))) - (((1 : Int) + (1 : Int)) + (1 : Int)))
                                                    if (decide (t71_764 = (0 : Int))) = true then
                                                      some true
                                                    else
                                                      gate (inR (0 : Int) ((((1 : Int) + (1 : Int)) + (((1 : Int) + ((r13_747.length : Int) - (1 : Int))) - ((1 : Int) + (1 : Int)))) - (((1 : Int) + (1 : Int)) + (1 : Int)))) (
                                                        gate (inR ((((1 : Int) + (1 : Int)) + (1 : Int)) + (0 : Int)) (r13_747.length : Int)) (
                                                          let t77_765 : List Int := (getI [] r13_747 ((((1 : Int) + (1 : Int)) + (1 : Int)) + (0 : Int)))
                                                          bindO (strings_HasPrefix N t77_765 [97, 98, 111, 117, 116, 32]) (fun r78_766 =>
                                                            some (!r78_766)) none) none) none) (fun (c80_767 : Bool) =>
                                                  if c80_767 = true then
                                                    some (((getI [] r17_748 (2 : Int)), ((atoiI (getI [] r17_748 (3 : Int))).1, ((getI [] r17_748 (1 : Int)), (t51_755, (true, ([], [])))))), false)
                                                  else
                                                    gate (inR (0 : Int) ((((1 : Int) + (1 : Int)) + (((1 : Int) + ((r13_747.length : Int) - (1 : Int))) - ((1 : Int) + (1 : Int)))) - (((1 : Int) + (1 : Int)) + (1 : Int)))) (
                                                      gate (inR ((((1 : Int) + (1 : Int)) + (1 : Int)) + (0 : Int)) (r13_747.length : Int)) (
                                                        let t84_768 : List Int := (getI [] r13_747 ((((1 : Int) + (1 : Int)) + (1 : Int)) + (0 : Int)))
                                                        gate (bounds (t84_768.length : Int) (6 : Int) (t84_768.length : Int)) (
                                                          let t85_769 : List Int := (cut t84_768 (6 : Int) (t84_768.length : Int))
                                                          let t89_770 : Int := ((((1 : Int) + (1 : Int)) + (((1 : Int) + ((r13_747.length : Int) - (1 : Int))) - ((1 : Int) + (1 : Int)))) - (((1 : Int) + (1 : Int)) + (1 : Int)))
                                                          let t91_771 : Int := (maxI (1 : Int) (IntKind.wrap .i64 (t89_770 - (1 : Int))))
                                                          gate (bounds ((((1 : Int) + (1 : Int)) + (((1 : Int) + ((r13_747.length : Int) - (1 : Int))) - ((1 : Int) + (1 : Int)))) - (((1 : Int) + (1 : Int)) + (1 : Int))) (1 : Int) t91_771) (
                                                            let t93_772 : Int := (((((1 : Int) + (1 : Int)) + (1 : Int)) + t91_771) - ((((1 : Int) + (1 : Int)) + (1 : Int)) + (1 : Int)))
                                                            iter (wrackref2_mailOf.s0 N none (fun (x794 : List Int × Int × List Int × List Int × Bool × List Int × List Int × List Int × Int × List Int × List Int × Bool × List Int × List Int × Unit) =>
                                                              let m0_795 : List Int := x794.1
                                                              let m0_796 : Int := x794.2.1
                                                              let m0_797 : List Int := x794.2.2.1
                                                              let m0_798 : List Int := x794.2.2.2.1
                                                              let m0_799 : Bool := x794.2.2.2.2.1
                                                              let m0_800 : List Int := x794.2.2.2.2.2.1
                                                              let m0_801 : List Int := x794.2.2.2.2.2.2.1
                                                              let m1_802 : List Int := x794.2.2.2.2.2.2.2.1
                                                              let m1_803 : Int := x794.2.2.2.2.2.2.2.2.1
                                                              let m1_804 : List Int := x794.2.2.2.2.2.2.2.2.2.1
                                                              let m1_805 : List Int := x794.2.2.2.2.2.2.2.2.2.2.1
                                                              let m1_806 : Bool := x794.2.2.2.2.2.2.2.2.2.2.2.1
                                                              let m1_807 : List Int := x794.2.2.2.2.2.2.2.2.2.2.2.2.1
                                                              let m1_808 : List Int := x794.2.2.2.2.2.2.2.2.2.2.2.2.2.1
                                                              some ((m1_802, (m1_803, (m1_804, (m1_805, (m1_806, (m1_807, m1_808)))))), true)) (t93_772, ())) none N ((cut r13_747 ((((1 : Int) + (1 : Int)) + (1 : Int)) + (1 : Int)) ((((1 : Int) + (1 : Int)) + (1 : Int)) + t91_771)), (0 : Int), [], (0 : Int), [], [], false, [], [], (getI [] r17_748 (2 : Int)), (atoiI (getI [] r17_748 (3 : Int))).1, (getI [] r17_748 (1 : Int)), t51_755, true, t85_769, [], ())) none) none) none) none) none) none
                                            else
                                              bindO (
                                                if (!((atoiI (getI [] r17_748 (3 : Int))).2)) = true then
                                                  some true
                                                else
                                                  let t71_809 : Int := (((1 : Int) + ((r13_747.length : Int) - (1 : Int))) - ((1 : Int) + (1 : Int)))
                                                  if (decide (t71_809 = (0 : Int))) = true then
                                                    some true
                                                  else
                                                    gate (inR (0 : Int) (((1 : Int) + ((r13_747.length : Int) - (1 : Int))) - ((1 : Int) + (1 : Int)))) (
                                                      gate (inR (((1 : Int) + (1 : Int)) + (0 : Int)) (r13_747.length : Int)) (
                                                        let t77_810 : List Int := (getI [] r13_747 (((1 : Int) + (1 : Int)) + (0 : Int)))
                                                        bindO (strings_HasPrefix N t77_810 [97, 98, 111, 117, 116, 32]) (fun r78_811 =>
                                                          some (!r78_811)) none) none) none) (fun (c80_812 : Bool) =>
                                                if c80_812 = true then
                                                  some (((getI [] r17_748 (2 : Int)), ((atoiI (getI [] r17_748 (3 : Int))).1, ((getI [] r17_748 (1 : Int)), (t51_755, (false, ([], [])))))), false)
                                                else
                                                  gate (inR (0 : Int) (((1 : Int) + ((r13_747.length : Int) - (1 : Int))) - ((1 : Int) + (1 : Int)))) (
                                                    gate (inR (((1 : Int) + (1 : Int)) + (0 : Int)) (r13_747.length : Int)) (
                                                      let t84_813 : List Int := (getI [] r13_747 (((1 : Int) + (1 : Int)) + (0 : Int)))
                                                      gate (bounds (t84_813.length : Int) (6 : Int) (t84_813.length : Int)) (
                                                        let t85_814 : List Int := (cut t84_813 (6 : Int) (t84_813.length : Int))
                                                        let t89_815 : Int := (((1 : Int) + ((r13_747.length : Int) - (1 : Int))) - ((1 : Int) + (1 : Int)))
                                                        let t91_816 : Int := (maxI (1 : Int) (IntKind.wrap .i64 (t89_815 - (1 : Int))))
                                                        gate (bounds (((1 : Int) + ((r13_747.length : Int) - (1 : Int))) - ((1 : Int) + (1 : Int))) (1 : Int) t91_816) (
                                                          let t93_817 : Int := ((((1 : Int) + (1 : Int)) + t91_816) - (((1 : Int) + (1 : Int)) + (1 : Int)))
                                                          iter (wrackref2_mailOf.s0 N none (fun (x818 : List Int × Int × List Int × List Int × Bool × List Int × List Int × List Int × Int × List Int × List Int × Bool × List Int × List Int × Unit) =>
                                                            let m0_819 : List Int := x818.1
                                                            let m0_820 : Int := x818.2.1
                                                            let m0_821 : List Int := x818.2.2.1
                                                            let m0_822 : List Int := x818.2.2.2.1
                                                            let m0_823 : Bool := x818.2.2.2.2.1
                                                            let m0_824 : List Int := x818.2.2.2.2.2.1
                                                            let m0_825 : List Int := x818.2.2.2.2.2.2.1
                                                            let m1_826 : List Int := x818.2.2.2.2.2.2.2.1
                                                            let m1_827 : Int := x818.2.2.2.2.2.2.2.2.1
                                                            let m1_828 : List Int := x818.2.2.2.2.2.2.2.2.2.1
                                                            let m1_829 : List Int := x818.2.2.2.2.2.2.2.2.2.2.1
                                                            let m1_830 : Bool := x818.2.2.2.2.2.2.2.2.2.2.2.1
                                                            let m1_831 : List Int := x818.2.2.2.2.2.2.2.2.2.2.2.2.1
                                                            let m1_832 : List Int := x818.2.2.2.2.2.2.2.2.2.2.2.2.2.1
                                                            some ((m1_826, (m1_827, (m1_828, (m1_829, (m1_830, (m1_831, m1_832)))))), true)) (t93_817, ())) none N ((cut r13_747 (((1 : Int) + (1 : Int)) + (1 : Int)) (((1 : Int) + (1 : Int)) + t91_816)), (0 : Int), [], (0 : Int), [], [], false, [], [], (getI [] r17_748 (2 : Int)), (atoiI (getI [] r17_748 (3 : Int))).1, (getI [] r17_748 (1 : Int)), t51_755, false, t85_814, [], ())) none) none) none) none) none) none) none) none) none) none
                                else
                                  bindO (
                                    let t57_833 : Bool := (decide (((r13_747.length : Int) - (1 : Int)) > (0 : Int)))
                                    if t57_833 = true then
                                      gate (inR (0 : Int) ((r13_747.length : Int) - (1 : Int))) (
                                        gate (inR ((1 : Int) + (0 : Int)) (r13_747.length : Int)) (
                                          let t62_834 : Bool := (decide ((getI [] r13_747 ((1 : Int) + (0 : Int))) = [103, 111, 110, 101]))
                                          some t62_834) none) none
                                    else
                                      some false) (fun (c63_835 : Bool) =>
                                    if c63_835 = true then
                                      gate (bounds ((r13_747.length : Int) - (1 : Int)) (1 : Int) ((r13_747.length : Int) - (1 : Int))) (
                                        bindO (
                                          if (!((atoiI (getI [] r17_748 (3 : Int))).2)) = true then
                                            some true
                                          else
                                            let t71_836 : Int := (((1 : Int) + ((r13_747.length : Int) - (1 : Int))) - ((1 : Int) + (1 : Int)))
                                            if (decide (t71_836 = (0 : Int))) = true then
                                              some true
                                            else
                                              gate (inR (0 : Int) (((1 : Int) + ((r13_747.length : Int) - (1 : Int))) - ((1 : Int) + (1 : Int)))) (
                                                gate (inR (((1 : Int) + (1 : Int)) + (0 : Int)) (r13_747.length : Int)) (
                                                  let t77_837 : List Int := (getI [] r13_747 (((1 : Int) + (1 : Int)) + (0 : Int)))
                                                  bindO (strings_HasPrefix N t77_837 [97, 98, 111, 117, 116, 32]) (fun r78_838 =>
                                                    some (!r78_838)) none) none) none) (fun (c80_839 : Bool) =>
                                          if c80_839 = true then
                                            some (((getI [] r17_748 (2 : Int)), ((atoiI (getI [] r17_748 (3 : Int))).1, ((getI [] r17_748 (1 : Int)), ([], (true, ([], [])))))), false)
                                          else
                                            gate (inR (0 : Int) (((1 : Int) + ((r13_747.length : Int) - (1 : Int))) - ((1 : Int) + (1 : Int)))) (
                                              gate (inR (((1 : Int) + (1 : Int)) + (0 : Int)) (r13_747.length : Int)) (
                                                let t84_840 : List Int := (getI [] r13_747 (((1 : Int) + (1 : Int)) + (0 : Int)))
                                                gate (bounds (t84_840.length : Int) (6 : Int) (t84_840.length : Int)) (
                                                  let t85_841 : List Int := (cut t84_840 (6 : Int) (t84_840.length : Int))
                                                  let t89_842 : Int := (((1 : Int) + ((r13_747.length : Int) - (1 : Int))) - ((1 : Int) + (1 : Int)))
                                                  let t91_843 : Int := (maxI (1 : Int) (IntKind.wrap .i64 (t89_842 - (1 : Int))))
                                                  gate (bounds (((1 : Int) + ((r13_747.length : Int) - (1 : Int))) - ((1 : Int) + (1 : Int))) (1 : Int) t91_843) (
                                                    let t93_844 : Int := ((((1 : Int) + (1 : Int)) + t91_843) - (((1 : Int) + (1 : Int)) + (1 : Int)))
                                                    iter (wrackref2_mailOf.s0 N none (fun (x845 : List Int × Int × List Int × List Int × Bool × List Int × List Int × List Int × Int × List Int × List Int × Bool × List Int × List Int × Unit) =>
                                                      let m0_846 : List Int := x845.1
                                                      let m0_847 : Int := x845.2.1
                                                      let m0_848 : List Int := x845.2.2.1
                                                      let m0_849 : List Int := x845.2.2.2.1
                                                      let m0_850 : Bool := x845.2.2.2.2.1
                                                      let m0_851 : List Int := x845.2.2.2.2.2.1
                                                      let m0_852 : List Int := x845.2.2.2.2.2.2.1
                                                      let m1_853 : List Int := x845.2.2.2.2.2.2.2.1
                                                      let m1_854 : Int := x845.2.2.2.2.2.2.2.2.1
                                                      let m1_855 : List Int := x845.2.2.2.2.2.2.2.2.2.1
                                                      let m1_856 : List Int := x845.2.2.2.2.2.2.2.2.2.2.1
                                                      let m1_857 : Bool := x845.2.2.2.2.2.2.2.2.2.2.2.1
                                                      let m1_858 : List Int := x845.2.2.2.2.2.2.2.2.2.2.2.2.1
                                                      let m1_859 : List Int := x845.2.2.2.2.2.2.2.2.2.2.2.2.2.1
                                                      some ((m1_853, (m1_854, (m1_855, (m1_856, (m1_857, (m1_858, m1_859)))))), true)) (t93_844, ())) none N ((cut r13_747 (((1 : Int) + (1 : Int)) + (1 : Int)) (((1 : Int) + (1 : Int)) + t91_843)), (0 : Int), [], (0 : Int), [], [], false, [], [], (getI [] r17_748 (2 : Int)), (atoiI (getI [] r17_748 (3 : Int))).1, (getI [] r17_748 (1 : Int)), [], true, t85_841, [], ())) none) none) none) none) none) none
                                    else
                                      bindO (
                                        if (!((atoiI (getI [] r17_748 (3 : Int))).2)) = true then
                                          some true
                                        else
                                          let t72_860 : Bool := (decide (((r13_747.length : Int) - (1 : Int)) = (0 : Int)))
                                          if t72_860 = true then
                                            some true
                                          else
                                            gate (inR (0 : Int) ((r13_747.length : Int) - (1 : Int))) (
                                              gate (inR ((1 : Int) + (0 : Int)) (r13_747.length : Int)) (
                                                bindO (strings_HasPrefix N (getI [] r13_747 ((1 : Int) + (0 : Int))) [97, 98, 111, 117, 116, 32]) (fun r78_861 =>
                                                  some (!r78_861)) none) none) none) (fun (c80_862 : Bool) =>
                                        if c80_862 = true then
                                          some (((getI [] r17_748 (2 : Int)), ((atoiI (getI [] r17_748 (3 : Int))).1, ((getI [] r17_748 (1 : Int)), ([], (false, ([], [])))))), false)
                                        else
                                          gate (inR (0 : Int) ((r13_747.length : Int) - (1 : Int))) (
                                            gate (inR ((1 : Int) + (0 : Int)) (r13_747.length : Int)) (
                                              gate (bounds ((getI [] r13_747 ((1 : Int) + (0 : Int))).length : Int) (6 : Int) ((getI [] r13_747 ((1 : Int) + (0 : Int))).length : Int)) (
                                                let t85_863 : List Int := (cut (getI [] r13_747 ((1 : Int) + (0 : Int))) (6 : Int) ((getI [] r13_747 ((1 : Int) + (0 : Int))).length : Int))
                                                let t90_864 : Int := (IntKind.wrap .i64 (((r13_747.length : Int) - (1 : Int)) - (1 : Int)))
                                                gate (bounds ((r13_747.length : Int) - (1 : Int)) (1 : Int) (maxI (1 : Int) t90_864)) (
                                                  let t93_865 : Int := (((1 : Int) + (maxI (1 : Int) t90_864)) - ((1 : Int) + (1 : Int)))
                                                  iter (wrackref2_mailOf.s0 N none (fun (x866 : List Int × Int × List Int × List Int × Bool × List Int × List Int × List Int × Int × List Int × List Int × Bool × List Int × List Int × Unit) =>
                                                    let m0_867 : List Int := x866.1
                                                    let m0_868 : Int := x866.2.1
                                                    let m0_869 : List Int := x866.2.2.1
                                                    let m0_870 : List Int := x866.2.2.2.1
                                                    let m0_871 : Bool := x866.2.2.2.2.1
                                                    let m0_872 : List Int := x866.2.2.2.2.2.1
                                                    let m0_873 : List Int := x866.2.2.2.2.2.2.1
                                                    let m1_874 : List Int := x866.2.2.2.2.2.2.2.1
                                                    let m1_875 : Int := x866.2.2.2.2.2.2.2.2.1
                                                    let m1_876 : List Int := x866.2.2.2.2.2.2.2.2.2.1
                                                    let m1_877 : List Int := x866.2.2.2.2.2.2.2.2.2.2.1
                                                    let m1_878 : Bool := x866.2.2.2.2.2.2.2.2.2.2.2.1
                                                    let m1_879 : List Int := x866.2.2.2.2.2.2.2.2.2.2.2.2.1
                                                    let m1_880 : List Int := x866.2.2.2.2.2.2.2.2.2.2.2.2.2.1
                                                    some ((m1_874, (m1_875, (m1_876, (m1_877, (m1_878, (m1_879, m1_880)))))), true)) (t93_865, ())) none N ((cut r13_747 ((1 : Int) + (1 : Int)) ((1 : Int) + (maxI (1 : Int) t90_864))), (0 : Int), [], (0 : Int), [], [], false, [], [], (getI [] r17_748 (2 : Int)), (atoiI (getI [] r17_748 (3 : Int))).1, (getI [] r17_748 (1 : Int)), [], false, t85_863, [], ())) none) none) none) none) none) none) none) none) none) none) none) none) none) none) none) none) none) none) none) none
def wrackref2_MailText.s0 {R : Type} (N : Nat) (s : R) (k0 : (List (List Int) × Unit) → R) (c947 : Int × Unit) (again : (List (List Int) × List (List Int) × Int × Unit) → R) (v948 : List (List Int) × List (List Int) × Int × Unit) : R :=
  let v45_949 : Int := c947.1
  let l3_950 : List (List Int) := v948.1
  let v44_951 : List (List Int) := v948.2.1
  let v46_952 : Int := v948.2.2.1
  if (decide (v46_952 < v45_949)) = true then
    gate (inR v46_952 (v44_951.length : Int)) (
      gate (inR v46_952 (v44_951.length : Int)) (
        bindO (strings_HasPrefix N (getI [] v44_951 v46_952) [46]) (fun r51_953 =>
          bindO ((
            if r51_953 = true then
              gate (decide ([46].length + (getI [] v44_951 v46_952).length ≤ 140737488355328)) (
                some (l3_950, ([46] ++ (getI [] v44_951 v46_952)), v44_951, ())) none
            else
              some (l3_950, (getI [] v44_951 v46_952), v44_951, ()) : Option (List (List Int) × List Int × List (List Int) × Unit))) (fun j954 =>
            let l3_955 : List (List Int) := j954.1
            let s6_956 : List Int := j954.2.1
            let v44_957 : List (List Int) := j954.2.2.1
            gate (roomFor (l3_955.length + [s6_956].length) 16) (
              again ((l3_955 ++ [s6_956]), v44_957, (IntKind.wrap .i64 (v46_952 + (1 : Int))), ())) s) s) s) s) s
  else
    k0 (l3_950, ())
def wrackref2_MailText (N : Nat) (m0 : List Int × Int × List Int × List Int × Bool × List Int × List Int) : Option (List Int) :=
  bindO (itoaF m0.2.1) (fun r13_916 =>
    let b14_917 : List (List Int) := [[109, 97, 105, 108], m0.2.2.1, m0.1, r13_916]
    bindO (joinF b14_917 [32]) (fun r15_918 =>
      bindO ((
        if (!decide (m0.2.2.2.1 = [])) = true then
          gate (decide ([114, 101, 102, 32].length + m0.2.2.2.1.length ≤ 140737488355328)) (
            gate (roomFor ([r15_918].length + [([114, 101, 102, 32] ++ m0.2.2.2.1)].length) 16) (
              let b25_920 : List (List Int) := ([r15_918] ++ [([114, 101, 102, 32] ++ m0.2.2.2.1)])
              some (b25_920, m0.1, m0.2.1, m0.2.2.1, m0.2.2.2.1, m0.2.2.2.2.1, m0.2.2.2.2.2.1, m0.2.2.2.2.2.2, ())) none) none
        else
          some ([r15_918], m0.1, m0.2.1, m0.2.2.1, m0.2.2.2.1, m0.2.2.2.2.1, m0.2.2.2.2.2.1, m0.2.2.2.2.2.2, ()) : Option (List (List Int) × List Int × Int × List Int × List Int × Bool × List Int × List Int × Unit))) (fun j921 =>
        let l3_922 : List (List Int) := j921.1
        let m0_923 : List Int := j921.2.1
        let m0_924 : Int := j921.2.2.1
        let m0_925 : List Int := j921.2.2.2.1
        let m0_926 : List Int := j921.2.2.2.2.1
        let m0_927 : Bool := j921.2.2.2.2.2.1
        let m0_928 : List Int := j921.2.2.2.2.2.2.1
        let m0_929 : List Int := j921.2.2.2.2.2.2.2.1
        bindO ((
          if m0_927 = true then
            gate (roomFor (l3_922.length + [[103, 111, 110, 101]].length) 16) (
              some ((l3_922 ++ [[103, 111, 110, 101]]), m0_923, m0_924, m0_925, m0_926, m0_927, m0_928, m0_929, ())) none
          else
            some (l3_922, m0_923, m0_924, m0_925, m0_926, m0_927, m0_928, m0_929, ()) : Option (List (List Int) × List Int × Int × List Int × List Int × Bool × List Int × List Int × Unit))) (fun j930 =>
          let l3_931 : List (List Int) := j930.1
          let m0_932 : List Int := j930.2.1
          let m0_933 : Int := j930.2.2.1
          let m0_934 : List Int := j930.2.2.2.1
          let m0_935 : List Int := j930.2.2.2.2.1
          let m0_936 : Bool := j930.2.2.2.2.2.1
          let m0_937 : List Int := j930.2.2.2.2.2.2.1
          let m0_938 : List Int := j930.2.2.2.2.2.2.2.1
          gate (decide ([97, 98, 111, 117, 116, 32].length + m0_937.length ≤ 140737488355328)) (
            gate (roomFor (l3_931.length + [([97, 98, 111, 117, 116, 32] ++ m0_937)].length) 16) (
              let b36_939 : List (List Int) := (l3_931 ++ [([97, 98, 111, 117, 116, 32] ++ m0_937)])
              bindO (strings_Split N m0_938 [10]) (fun r39_940 =>
                let t43_941 : Int := (IntKind.wrap .i64 ((r39_940.length : Int) - (1 : Int)))
                gate (bounds (r39_940.length : Int) (0 : Int) t43_941) (
                  iter (wrackref2_MailText.s0 N none (fun (x958 : List (List Int) × Unit) =>
                    let l3_959 : List (List Int) := x958.1
                    gate (roomFor (l3_959.length + [[46], []].length) 16) (
                      bindO (joinF (l3_959 ++ [[46], []]) [10]) (fun r62_960 =>
                        some r62_960) none) none) ((t43_941 - (0 : Int)), ())) none N (b36_939, (cut r39_940 (0 : Int) t43_941), (0 : Int), ())) none) none) none) none) none) none) none) none
def slices_Clone_mail_Mail (N : Nat) (s0 : List (List Int × Int × List Int × List Int × Bool × List Int × List Int)) : Option (List (List Int × Int × List Int × List Int × Bool × List Int × List Int)) :=
  let b5_963 : List (List Int × Int × List Int × List Int × Bool × List Int × List Int) := ([] : List (List Int × Int × List Int × List Int × Bool × List Int × List Int))
  gate (roomFor (b5_963.length + s0.length) 96) (
    some (b5_963 ++ s0)) none
def strings_Contains (N : Nat) (s0 : List Int) (substr1 : List Int) : Option Bool :=
  bindO (indexG s0 substr1) (fun r7_967 =>
    some (decide (r7_967 ≥ (0 : Int)))) none
def wrackref2_Word (N : Nat) (s0 : List Int) : Option Bool :=
  bindO (
    if (decide ((s0.length : Int) > (0 : Int))) = true then
      if (decide ((s0.length : Int) ≤ (12 : Int))) = true then
        gate (bounds (s0.length : Int) (0 : Int) (1 : Int)) (
          bindO (strings_Contains N [97, 98, 99, 100, 101, 102, 103, 104, 105, 106, 107, 108, 109, 110, 111, 112, 113, 114, 115, 116, 117, 118, 119, 120, 121, 122] (cut s0 (0 : Int) (1 : Int))) (fun r14_975 =>
            if r14_975 = true then
              bindO (trimF s0 [97, 98, 99, 100, 101, 102, 103, 104, 105, 106, 107, 108, 109, 110, 111, 112, 113, 114, 115, 116, 117, 118, 119, 120, 121, 122, 48, 49, 50, 51, 52, 53, 54, 55, 56, 57, 45]) (fun r18_976 =>
                some (decide (r18_976 = []))) none
            else
              some false) none) none
      else
        some false
    else
      some false) (fun (c2_977 : Bool) =>
    some c2_977) none
def wrackref2_MailErr_1.s0 {R : Type} (N : Nat) (s : R) (k0 : Unit → R) (kr : (Bool × Unit) → R) (c991 : List Int × Int × Unit) (again : (Int × Unit) → R) (v992 : Int × Unit) : R :=
  let s0_993 : List Int := c991.1
  let v5_994 : Int := c991.2.1
  let v6_995 : Int := v992.1
  if (decide (v6_995 < v5_994)) = true then
    bindO (
      gate (inR v6_995 (s0_993.length : Int)) (
        let t12_998 : Bool := (decide ((getI 0 s0_993 v6_995) < (32 : Int)))
        if t12_998 = true then
          some true
        else
          gate (inR v6_995 (s0_993.length : Int)) (
            let t17_999 : Bool := (decide ((getI 0 s0_993 v6_995) > (126 : Int)))
            some t17_999) none) none) (fun (c18_1000 : Bool) =>
      if c18_1000 = true then
        kr (false, ())
      else
        again ((IntKind.wrap .i64 (v6_995 + (1 : Int))), ())) s
  else
    k0 ()
def wrackref2_MailErr_1 (N : Nat) (s0 : List Int) : Option Bool :=
  iter (wrackref2_MailErr_1.s0 N none (fun (x1001 : Unit) =>
    some true) (fun (x1002 : Bool × Unit) =>
    let v2_1003 : Bool := x1002.1
    some v2_1003) (s0, (s0.length : Int), ())) none N ((0 : Int), ())
def wrackref2_MailErr.s1 {R : Type} (N : Nat) (s : R) (k3 : (List (List Int × Bool) × List Int × Int × List Int × List Int × Bool × List Int × List Int × Unit) → R) (kr : (Int × Unit) → R) (c1352 : List (List Int × Int × List Int × List Int × Bool × List Int × List Int) × Int × Int × Int × Unit) (again : (List (List Int × Bool) × List (List Int) × Int × List Int × Int × List Int × List Int × Bool × List Int × List Int × Unit) → R) (v1353 : List (List Int × Bool) × List (List Int) × Int × List Int × Int × List Int × List Int × Bool × List Int × List Int × Unit) : R :=
  let v13_1354 : List (List Int × Int × List Int × List Int × Bool × List Int × List Int) := c1352.1
  let v14_1355 : Int := c1352.2.1
  let v15_1356 : Int := c1352.2.2.1
  let v72_1357 : Int := c1352.2.2.2.1
  let seen3_1358 : List (List Int × Bool) := v1353.1
  let v71_1359 : List (List Int) := v1353.2.1
  let v73_1360 : Int := v1353.2.2.1
  let m1_1361 : List Int := v1353.2.2.2.1
  let m1_1362 : Int := v1353.2.2.2.2.1
  let m1_1363 : List Int := v1353.2.2.2.2.2.1
  let m1_1364 : List Int := v1353.2.2.2.2.2.2.1
  let m1_1365 : Bool := v1353.2.2.2.2.2.2.2.1
  let m1_1366 : List Int := v1353.2.2.2.2.2.2.2.2.1
  let m1_1367 : List Int := v1353.2.2.2.2.2.2.2.2.2.1
  if (decide (v73_1360 < v72_1357)) = true then
    gate (inR v73_1360 (v71_1359.length : Int)) (
      gate (inR v73_1360 (v71_1359.length : Int)) (
        bindO (wrackref2_MailErr_1 N (getI [] v71_1359 v73_1360)) (fun r79_1368 =>
          if (!r79_1368) = true then
            kr ((3 : Int), ())
          else
            again (seen3_1358, v71_1359, (IntKind.wrap .i64 (v73_1360 + (1 : Int))), m1_1361, m1_1362, m1_1363, m1_1364, m1_1365, m1_1366, m1_1367, ())) s) s) s
  else
    k3 (seen3_1358, m1_1361, m1_1362, m1_1363, m1_1364, m1_1365, m1_1366, m1_1367, ())
def wrackref2_MailErr.s0 {R : Type} (N : Nat) (s : R) (k0 : Unit → R) (kr : (Int × Unit) → R) (c1238 : List (List Int × Int × List Int × List Int × Bool × List Int × List Int) × Int × Unit) (again : (List (List Int × Bool) × Int × Unit) → R) (v1239 : List (List Int × Bool) × Int × Unit) : R :=
  let v13_1240 : List (List Int × Int × List Int × List Int × Bool × List Int × List Int) := c1238.1
  let v14_1241 : Int := c1238.2.1
  let seen3_1242 : List (List Int × Bool) := v1239.1
  let v15_1243 : Int := v1239.2.1
  if (decide (v15_1243 < v14_1241)) = true then
    gate (inR v15_1243 (v13_1240.length : Int)) (
      let t17_1244 : List Int × Int × List Int × List Int × Bool × List Int × List Int := (getI ([], ((0 : Int), ([], ([], (false, ([], [])))))) v13_1240 v15_1243)
      bindO (
        bindO (wrackref2_Word N t17_1244.1) (fun r22_1248 =>
          if (!r22_1248) = true then
            some true
          else
            bindO (wrackref2_Word N t17_1244.2.2.1) (fun r27_1249 =>
              if (!r27_1249) = true then
                some true
              else
                if (!decide (t17_1244.2.2.2.1 = [])) = true then
                  bindO (wrackref2_Word N t17_1244.2.2.2.1) (fun r37_1250 =>
                    some (!r37_1250)) none
                else
                  some false) none) none) (fun (c19_1251 : Bool) =>
        if c19_1251 = true then
          kr ((6 : Int), ())
        else
          bindO (
            if (decide (t17_1244.2.1 < (0 : Int))) = true then
              some true
            else
              some (decide (t17_1244.2.1 ≥ (4294967296 : Int)))) (fun (c41_1295 : Bool) =>
            if c41_1295 = true then
              kr ((21 : Int), ())
            else
              bindO (wrackref2_MailErr_1 N t17_1244.2.2.2.2.2.1) (fun r54_1317 =>
                bindO ((
                  if (!r54_1317) = true then
                    some (seen3_1242, (!r54_1317), t17_1244.1, t17_1244.2.1, t17_1244.2.2.1, t17_1244.2.2.2.1, t17_1244.2.2.2.2.1, t17_1244.2.2.2.2.2.1, t17_1244.2.2.2.2.2.2, ())
                  else
                    bindO (
                      if (!decide (t17_1244.2.2.2.2.2.2 = [])) = true then
                        let t65_1325 : Int := (IntKind.wrap .i64 ((t17_1244.2.2.2.2.2.2.length : Int) - (1 : Int)))
                        gate (inR t65_1325 (t17_1244.2.2.2.2.2.2.length : Int)) (
                          let t67_1326 : Bool := (!decide ((getI 0 t17_1244.2.2.2.2.2.2 t65_1325) = (10 : Int)))
                          some t67_1326) none
                      else
                        some false) (fun (c50_1327 : Bool) =>
                      some (seen3_1242, c50_1327, t17_1244.1, t17_1244.2.1, t17_1244.2.2.1, t17_1244.2.2.2.1, t17_1244.2.2.2.2.1, t17_1244.2.2.2.2.2.1, t17_1244.2.2.2.2.2.2, ())) none : Option (List (List Int × Bool) × Bool × List Int × Int × List Int × List Int × Bool × List Int × List Int × Unit))) (fun j1328 =>
                  let seen3_1329 : List (List Int × Bool) := j1328.1
                  let v50_1330 : Bool := j1328.2.1
                  let m1_1331 : List Int := j1328.2.2.1
                  let m1_1332 : Int := j1328.2.2.2.1
                  let m1_1333 : List Int := j1328.2.2.2.2.1
                  let m1_1334 : List Int := j1328.2.2.2.2.2.1
                  let m1_1335 : Bool := j1328.2.2.2.2.2.2.1
                  let m1_1336 : List Int := j1328.2.2.2.2.2.2.2.1
                  let m1_1337 : List Int := j1328.2.2.2.2.2.2.2.2.1
                  if v50_1330 = true then
                    kr ((3 : Int), ())
                  else
                    bindO (strings_Split N m1_1337 [10]) (fun r71_1338 =>
                      iter (wrackref2_MailErr.s1 N s (fun (x1369 : List (List Int × Bool) × List Int × Int × List Int × List Int × Bool × List Int × List Int × Unit) =>
                        let seen3_1370 : List (List Int × Bool) := x1369.1
                        let m1_1371 : List Int := x1369.2.1
                        let m1_1372 : Int := x1369.2.2.1
                        let m1_1373 : List Int := x1369.2.2.2.1
                        let m1_1374 : List Int := x1369.2.2.2.2.1
                        let m1_1375 : Bool := x1369.2.2.2.2.2.1
                        let m1_1376 : List Int := x1369.2.2.2.2.2.2.1
                        let m1_1377 : List Int := x1369.2.2.2.2.2.2.2.1
                        let t85_1378 : Bool := ((mapGet (k := .str) (v := .bool) seen3_1370 m1_1373).getD false)
                        if t85_1378 = true then
                          kr ((7 : Int), ())
                        else
                          again ((mapPut (k := .str) (v := .bool) seen3_1370 m1_1373 true), (IntKind.wrap .i64 (v15_1243 + (1 : Int))), ())) (fun (x1379 : Int × Unit) =>
                        let v2_1380 : Int := x1379.1
                        kr (v2_1380, ())) (v13_1240, v14_1241, v15_1243, (r71_1338.length : Int), ())) s N (seen3_1329, r71_1338, (0 : Int), m1_1331, m1_1332, m1_1333, m1_1334, m1_1335, m1_1336, m1_1337, ())) s) s) s) s) s) s
  else
    k0 ()
def wrackref2_MailErr (N : Nat) (l0 : List (List Int × Int × List Int × List Int × Bool × List Int × List Int)) : Option Int :=
  if (decide ((l0.length : Int) > (60 : Int))) = true then
    some (9 : Int)
  else
    iter (wrackref2_MailErr.s0 N none (fun (x1381 : Unit) =>
      some (0 : Int)) (fun (x1382 : Int × Unit) =>
      let v2_1383 : Int := x1382.1
      some v2_1383) (l0, (l0.length : Int), ())) none N (([] : List (List Int × Bool)), (0 : Int), ())
def wrackref2_MailBox.s0 {R : Type} (N : Nat) (s : R) (kr : (List (List Int × Int × List Int × List Int × Bool × List Int × List Int) × Int × Unit) → R) (c1422 : List Int × Unit) (again : (List (List Int × Int × List Int × List Int × Bool × List Int × List Int) × Int × Unit) → R) (v1423 : List (List Int × Int × List Int × List Int × Bool × List Int × List Int) × Int × Unit) : R :=
  let s0_1424 : List Int := c1422.1
  let out4_1425 : List (List Int × Int × List Int × List Int × Bool × List Int × List Int) := v1423.1
  let at5_1426 : Int := v1423.2.1
  gate (bounds (s0_1424.length : Int) at5_1426 (s0_1424.length : Int)) (
    let t12_1427 : List Int := (cut s0_1424 at5_1426 (s0_1424.length : Int))
    gate (decide ([10].length + t12_1427.length ≤ 140737488355328)) (
      bindO (indexG ([10] ++ t12_1427) [10, 46, 10]) (fun r14_1428 =>
        if (decide (r14_1428 < (0 : Int))) = true then
          kr (out4_1425, at5_1426, ())
        else
          let t24_1429 : Int := (IntKind.wrap .i64 ((IntKind.wrap .i64 (at5_1426 + r14_1428)) + (2 : Int)))
          gate (bounds (s0_1424.length : Int) at5_1426 t24_1429) (
            bindO (wrackref2_mailOf N (cut s0_1424 at5_1426 t24_1429)) (fun r28_1430 =>
              if (!r28_1430.2) = true then
                kr (out4_1425, at5_1426, ())
              else
                bindO (wrackref2_MailText N r28_1430.1) (fun r35_1435 =>
                  let t37_1436 : Bool := (!decide (r35_1435 = (cut s0_1424 at5_1426 t24_1429)))
                  if t37_1436 = true then
                    kr (out4_1425, at5_1426, ())
                  else
                    bindO (slices_Clone_mail_Mail N out4_1425) (fun r41_1437 =>
                      gate (roomFor (r41_1437.length + [r28_1430.1].length) 96) (
                        bindO (wrackref2_MailErr N (r41_1437 ++ [r28_1430.1])) (fun r45_1438 =>
                          if (!decide (r45_1438 = (0 : Int))) = true then
                            kr (out4_1425, at5_1426, ())
                          else
                            gate (roomFor (out4_1425.length + [r28_1430.1].length) 96) (
                              let t56_1439 : Int := ((cut s0_1424 at5_1426 t24_1429).length : Int)
                              again ((out4_1425 ++ [r28_1430.1]), (IntKind.wrap .i64 (at5_1426 + t56_1439)), ())) s) s) s) s) s) s) s) s) s) s
def wrackref2_MailBox (N : Nat) (s0 : List Int) : Option (List (List Int × Int × List Int × List Int × Bool × List Int × List Int) × Int) :=
  iter (wrackref2_MailBox.s0 N none (fun (x1440 : List (List Int × Int × List Int × List Int × Bool × List Int × List Int) × Int × Unit) =>
    let v2_1441 : List (List Int × Int × List Int × List Int × Bool × List Int × List Int) := x1440.1
    let v3_1442 : Int := x1440.2.1
    some (v2_1441, v3_1442)) (s0, ())) none N ([], (0 : Int), ())
def slices_Equal_mail_Mail.s0 {R : Type} (N : Nat) (s : R) (k0 : Unit → R) (kr : (Bool × Unit) → R) (c1458 : List (List Int × Int × List Int × List Int × Bool × List Int × List Int) × List (List Int × Int × List Int × List Int × Bool × List Int × List Int) × Int × Unit) (again : (Int × Unit) → R) (v1459 : Int × Unit) : R :=
  let s10_1460 : List (List Int × Int × List Int × List Int × Bool × List Int × List Int) := c1458.1
  let s21_1461 : List (List Int × Int × List Int × List Int × Bool × List Int × List Int) := c1458.2.1
  let v12_1462 : Int := c1458.2.2.1
  let v13_1463 : Int := v1459.1
  if (decide (v13_1463 < v12_1462)) = true then
    gate (inR v13_1463 (s10_1460.length : Int)) (
      let t18_1464 : List Int × Int × List Int × List Int × Bool × List Int × List Int := (getI ([], ((0 : Int), ([], ([], (false, ([], [])))))) s10_1460 v13_1463)
      gate (inR v13_1463 (s21_1461.length : Int)) (
        let t22_1465 : List Int × Int × List Int × List Int × Bool × List Int × List Int := (getI ([], ((0 : Int), ([], ([], (false, ([], [])))))) s21_1461 v13_1463)
        let t24_1466 : Bool := (!(decide (t18_1464.1 = t22_1465.1) && (decide (t18_1464.2.1 = t22_1465.2.1) && (decide (t18_1464.2.2.1 = t22_1465.2.2.1) && (decide (t18_1464.2.2.2.1 = t22_1465.2.2.2.1) && ((t18_1464.2.2.2.2.1 == t22_1465.2.2.2.2.1) && (decide (t18_1464.2.2.2.2.2.1 = t22_1465.2.2.2.2.2.1) && (decide (t18_1464.2.2.2.2.2.2 = t22_1465.2.2.2.2.2.2) && true))))))))
        if t24_1466 = true then
          kr (false, ())
        else
          again ((IntKind.wrap .i64 (v13_1463 + (1 : Int))), ())) s) s
  else
    k0 ()
def slices_Equal_mail_Mail (N : Nat) (s10 : List (List Int × Int × List Int × List Int × Bool × List Int × List Int)) (s21 : List (List Int × Int × List Int × List Int × Bool × List Int × List Int)) : Option Bool :=
  let t10_1454 : Bool := (!decide ((s10.length : Int) = (s21.length : Int)))
  if t10_1454 = true then
    some false
  else
    iter (slices_Equal_mail_Mail.s0 N none (fun (x1467 : Unit) =>
      some true) (fun (x1468 : Bool × Unit) =>
      let v4_1469 : Bool := x1468.1
      some v4_1469) (s10, s21, (s10.length : Int), ())) none N ((0 : Int), ())
def wracklaw2_MailReads (N : Nat) (s0 : List Int) : Option Bool :=
  bindO (mail_Read N s0) (fun r13_1479 =>
    bindO (mail_Repair N s0) (fun r19_1480 =>
      if (decide ((s0.length : Int) > (65536 : Int))) = true then
        bindO (
          bindO (wracklaw2_mails N) (fun r26_1488 =>
            if r26_1488 = true then
              if (decide (r13_1479.2.2 = (2 : Int))) = true then
                if (decide (r19_1480.2.2 = r13_1479.2.2)) = true then
                  let t39_1489 : Bool := (decide ((r13_1479.1.length : Int) = (0 : Int)))
                  if t39_1489 = true then
                    if (decide (r13_1479.2.1 = (0 : Int))) = true then
                      if (decide (r19_1480.1 = [])) = true then
                        some (decide (r19_1480.2.1 = (0 : Int)))
                      else
                        some false
                    else
                      some false
                  else
                    some false
                else
                  some false
              else
                some false
            else
              some false) none) (fun (c2_1490 : Bool) =>
          some c2_1490) none
      else
        bindO (wrackref2_MailBox N s0) (fun r55_1491 =>
          bindO (
            bindO (wracklaw2_mails N) (fun r58_1496 =>
              if (!r58_1496) = true then
                some true
              else
                if (!decide (r19_1480.2.2 = (0 : Int))) = true then
                  some true
                else
                  gate (bounds (s0.length : Int) (0 : Int) r55_1491.2) (
                    let t69_1497 : Bool := (!decide (r19_1480.1 = (cut s0 (0 : Int) r55_1491.2)))
                    if t69_1497 = true then
                      some true
                    else
                      let t76_1498 : Int := (IntKind.wrap .i64 ((s0.length : Int) - r55_1491.2))
                      if (!decide (r19_1480.2.1 = t76_1498)) = true then
                        some true
                      else
                        bindO (slices_Equal_mail_Mail N r13_1479.1 r55_1491.1) (fun r82_1499 =>
                          some (!r82_1499)) none) none) none) (fun (c84_1500 : Bool) =>
            if c84_1500 = true then
              some false
            else
              if (decide (r55_1491.2 = (s0.length : Int))) = true then
                bindO (
                  if (decide (r13_1479.2.2 = (0 : Int))) = true then
                    some (decide (r13_1479.2.1 = (0 : Int)))
                  else
                    some false) (fun (c2_1502 : Bool) =>
                  some c2_1502) none
              else
                bindO (
                  if (decide (r13_1479.2.2 = (3 : Int))) = true then
                    some (decide (r13_1479.2.1 = r55_1491.2))
                  else
                    some false) (fun (c2_1503 : Bool) =>
                  some c2_1503) none) none) none) none) none
end Go.Proofs.YtnklmlnkiepdiaaGreatDoor
