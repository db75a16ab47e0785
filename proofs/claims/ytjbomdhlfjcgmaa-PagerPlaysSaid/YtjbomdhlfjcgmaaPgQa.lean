/-
  The law PagerPlays: arm 0 of its switch.
-/
import Derived.Test.YtjbomdhlfjcgmaaPgQ
import Derived.Deep.DeepCutAuto
import Derived.Deep.CutRange
import Derived.Deep.CutBlock
namespace Go.Proofs.Ytjbomdhlfjcgmaa
set_option linter.unusedSimpArgs false
set_option linter.unusedVariables false
open Go.RowKit
attribute [local irreducible] atF woP newP

set_option maxHeartbeats 12800000 in
set_option maxRecDepth 100000 in
theorem plays_arm0 {w w6 : World} {bl k db pb4 cb : Nat} {a9 a10 aq : Option Addr} {c9 c10 cq : Nat} {ps qs : List PageD} {rt bs : List UInt8} {sq nw wn : Nat} {kd nn xk : Int} {F4 G4 : Nat → Prop} {D4 : DiskS} {S4 : PgS} {C4 : Comm}
    {v0 v1 v2 v3 v4 v6 v8 v15 v18 v19 v20 v21 v22 v23 v24 v25 v26 v27 v28 v29 v30 v31 v32 v33 v34 v35 v36 v37 v38 v39 v40 v41 v42 v43 v44 v45 v46 v47 v48 v49 v50 v51 v52 v53 v54 v55 v56 v57 v58 v59 v60 v61 v62 v63 v64 v65 v66 v67 v68 v69 v70 v71 v72 v73 v74 v75 v76 v77 v78 v79 v80 v81 v82 v84 v85 v86 v87 v88 v89 v90 v91 v92 v93 v94 v95 v96 v97 v98 v99 v100 v101 v102 v103 v104 v105 v106 v107 v108 v109 v110 v111 v112 v113 v114 v115 v116 v117 v118 v119 v120 v121 v122 v123 v124 v125 v126 v127 v128 v129 v130 v131 v132 v133 v134 v135 v136 v137 v138 v139 v140 v141 v142 v143 v144 v145 v146 v147 v148 v149 v150 v151 v152 v153 v154 v155 v156 v157 v158 v159 v160 v161 v162 v163 v164 v165 v166 v167 v168 v169 v170 v171 v172 v173 v174 v175 v176 v177 v178 v179 v180 v181 v182 v183 v184 v185 v186 v187 v188 v189 v190 v191 v192 v193 v194 v195 v196 v197 v198 v199 v200 v201 v202 v203 v204 v205 v206 v207 v208 v209 v210 v211 v212 v213 v214 v215 v216 v217 v218 v219 v220 v221 v222 v223 v224 v225 v226 v227 v228 v229 v230 v231 v232 v233 v234 v235 v236 v237 v238 v239 v240 v241 v242 v243 v244 v245 v246 v247 v248 v249 v250 v251 v252 v253 v254 v255 v256 v257 v258 v259 v260 v261 v262 v263 v264 v265 v266 v267 v268 v269 v270 v271 v272 v273 v274 v275 v276 v277 v278 v279 v280 v281 v282 v283 v284 v285 v286 v287 v288 v289 v290 v291 v292 v293 v294 v295 v296 v297 v298 v299 v300 v301 : Value}
    (HBL : Hid (64 ≤ bl ∧ bl < 164)) (hkm : k < 120)
    (X5 : Hid (PlS w w6 bl k pb4 db (.slice a9 ps.length c9) ps (.slice a10 qs.length c10) qs rt sq nw wn F4 G4 D4 S4 C4 ∧ CAt w w6 F4 G4 (.slice a9 ps.length c9) (.slice a10 qs.length c10) cb ⟨kd, nn, .slice aq bs.length cq, bs⟩))
    (HXK : Hid ((Lit.int .i64 xk).wf = true))
    {J K' : Act → World → Prop} {Q' : Exit → Act → World → Prop}
    (hJ : ∀ a' w', (∃ u4 u7 u8 u9 u10 u11 u12 u13 u14 u18 u19 u20 u21 u22 u23 u24 u25 u84 u85 u86 u87 u88 u89 u90 u91 u92 u93 u94 u95 u96 u97 u98 u99 u100 u101 u102 u103 u104 u105 u106 u107 u108 u109 u110 u111 u112 u113 u114 u115 u116 u117 u118 u119 u120 u121 u122 u123 u124 u125 u126 u127 u128 u129 u130 u131 u132 u133 u134 u135 u136 u137 u138 u139 u140 u141 u142 u143 u144 u145 u146 u147 u148 u149 u150 u151 u152 u153 u154 u155 u156 u157 u158 u159 u160 u161 u162 u163 u164 u165 u166 u167 u168 u169 u170 u171 u172 u173 u174 u175 u176 u177 u178 u179 u180 u181 u182 u183 u184 u185 u186 u187 u188 u189 u190 u191 u192 u193 u194 u195 u196 u197 u198 u199 u200 u201 u202 u203 u204 u205 u206 u207 u208 u209 u210 u211 u212 u213 u214 u215 u216 u217 u218 u219 u220 u221 u222 u223 u224 u225 u226 u227 u228 u229 u230 u231 u232 u233 u234 u235 u236 u237 u238 u239 u240 u241 u242 u243 u244 u245 u246 u247 u248 u249 u250 u251 u252 u253 u254 u255 u256 u257 u258 u259 : Value, PlE w w' bl (k + 1) db u7 u9 u10 u11 u12 u13 u14 ∧ a' = ⟨#[v0, v1, v2, v3, u4, .pointer (some ⟨db, 0, none⟩), v6, u7, u8, u9, u10, u11, u12, u13, u14, v15, .pointer (some ⟨cb, 0, none⟩), .int .i64 xk, u18, u19, u20, u21, u22, u23, u24, u25, v26, v27, v28, v29, v30, v31, v32, v33, v34, v35, v36, v37, v38, v39, v40, v41, v42, v43, v44, v45, v46, v47, v48, v49, v50, v51, v52, v53, v54, v55, v56, v57, v58, v59, v60, v61, v62, v63, v64, v65, v66, v67, v68, v69, v70, v71, v72, v73, v74, v75, v76, v77, v78, v79, v80, v81, v82, .int .i64 ((0 : Nat) : Int), u84, u85, u86, u87, u88, u89, u90, u91, u92, u93, u94, u95, u96, u97, u98, u99, u100, u101, u102, u103, u104, u105, u106, u107, u108, u109, u110, u111, u112, u113, u114, u115, u116, u117, u118, u119, u120, u121, u122, u123, u124, u125, u126, u127, u128, u129, u130, u131, u132, u133, u134, u135, u136, u137, u138, u139, u140, u141, u142, u143, u144, u145, u146, u147, u148, u149, u150, u151, u152, u153, u154, u155, u156, u157, u158, u159, u160, u161, u162, u163, u164, u165, u166, u167, u168, u169, u170, u171, u172, u173, u174, u175, u176, u177, u178, u179, u180, u181, u182, u183, u184, u185, u186, u187, u188, u189, u190, u191, u192, u193, u194, u195, u196, u197, u198, u199, u200, u201, u202, u203, u204, u205, u206, u207, u208, u209, u210, u211, u212, u213, u214, u215, u216, u217, u218, u219, u220, u221, u222, u223, u224, u225, u226, u227, u228, u229, u230, u231, u232, u233, u234, u235, u236, u237, u238, u239, u240, u241, u242, u243, u244, u245, u246, u247, u248, u249, u250, u251, u252, u253, u254, u255, u256, u257, u258, u259, v260, v261, v262, v263, v264, v265, v266, v267, v268, v269, v270, v271, v272, v273, v274, v275, v276, v277, v278, v279, v280, v281, v282, v283, v284, v285, v286, v287, v288, v289, v290, v291, v292, v293, v294, v295, v296, v297, v298, v299, v300, v301], []⟩) → J a' w')
    (hK : ∀ a' w', Met J a' w' → K' a' w')
    (hC : ∀ a' w', (∃ u4 u7 u8 u9 u10 u11 u12 u13 u14 u18 u19 u20 u21 u22 u23 u24 u25 u84 u85 u86 u87 u88 u89 u90 u91 u92 u93 u94 u95 u96 u97 u98 u99 u100 u101 u102 u103 u104 u105 u106 u107 u108 u109 u110 u111 u112 u113 u114 u115 u116 u117 u118 u119 u120 u121 u122 u123 u124 u125 u126 u127 u128 u129 u130 u131 u132 u133 u134 u135 u136 u137 u138 u139 u140 u141 u142 u143 u144 u145 u146 u147 u148 u149 u150 u151 u152 u153 u154 u155 u156 u157 u158 u159 u160 u161 u162 u163 u164 u165 u166 u167 u168 u169 u170 u171 u172 u173 u174 u175 u176 u177 u178 u179 u180 u181 u182 u183 u184 u185 u186 u187 u188 u189 u190 u191 u192 u193 u194 u195 u196 u197 u198 u199 u200 u201 u202 u203 u204 u205 u206 u207 u208 u209 u210 u211 u212 u213 u214 u215 u216 u217 u218 u219 u220 u221 u222 u223 u224 u225 u226 u227 u228 u229 u230 u231 u232 u233 u234 u235 u236 u237 u238 u239 u240 u241 u242 u243 u244 u245 u246 u247 u248 u249 u250 u251 u252 u253 u254 u255 u256 u257 u258 u259 : Value, PlE w w' bl (k + 1) db u7 u9 u10 u11 u12 u13 u14 ∧ a' = ⟨#[v0, v1, v2, v3, u4, .pointer (some ⟨db, 0, none⟩), v6, u7, u8, u9, u10, u11, u12, u13, u14, v15, .pointer (some ⟨cb, 0, none⟩), .int .i64 xk, u18, u19, u20, u21, u22, u23, u24, u25, v26, v27, v28, v29, v30, v31, v32, v33, v34, v35, v36, v37, v38, v39, v40, v41, v42, v43, v44, v45, v46, v47, v48, v49, v50, v51, v52, v53, v54, v55, v56, v57, v58, v59, v60, v61, v62, v63, v64, v65, v66, v67, v68, v69, v70, v71, v72, v73, v74, v75, v76, v77, v78, v79, v80, v81, v82, .int .i64 ((0 : Nat) : Int), u84, u85, u86, u87, u88, u89, u90, u91, u92, u93, u94, u95, u96, u97, u98, u99, u100, u101, u102, u103, u104, u105, u106, u107, u108, u109, u110, u111, u112, u113, u114, u115, u116, u117, u118, u119, u120, u121, u122, u123, u124, u125, u126, u127, u128, u129, u130, u131, u132, u133, u134, u135, u136, u137, u138, u139, u140, u141, u142, u143, u144, u145, u146, u147, u148, u149, u150, u151, u152, u153, u154, u155, u156, u157, u158, u159, u160, u161, u162, u163, u164, u165, u166, u167, u168, u169, u170, u171, u172, u173, u174, u175, u176, u177, u178, u179, u180, u181, u182, u183, u184, u185, u186, u187, u188, u189, u190, u191, u192, u193, u194, u195, u196, u197, u198, u199, u200, u201, u202, u203, u204, u205, u206, u207, u208, u209, u210, u211, u212, u213, u214, u215, u216, u217, u218, u219, u220, u221, u222, u223, u224, u225, u226, u227, u228, u229, u230, u231, u232, u233, u234, u235, u236, u237, u238, u239, u240, u241, u242, u243, u244, u245, u246, u247, u248, u249, u250, u251, u252, u253, u254, u255, u256, u257, u258, u259, v260, v261, v262, v263, v264, v265, v266, v267, v268, v269, v270, v271, v272, v273, v274, v275, v276, v277, v278, v279, v280, v281, v282, v283, v284, v285, v286, v287, v288, v289, v290, v291, v292, v293, v294, v295, v296, v297, v298, v299, v300, v301], []⟩) → Q' (.exit 1) a' w') :
    Code.wp Try.prog (Code.block 2 playsSw) (Exit.then K' Q') ⟨#[v0, v1, v2, v3, v4, .pointer (some ⟨db, 0, none⟩), v6, .pointer (some ⟨pb4, 0, none⟩), v8, .slice a9 ps.length c9, .slice a10 qs.length c10, .string (strB rt), .int .i64 (sq : Int), .int .i64 (nw : Int), .int .i64 (wn : Int), v15, .pointer (some ⟨cb, 0, none⟩), .int .i64 xk, v18, v19, v20, v21, v22, v23, v24, v25, v26, v27, v28, v29, v30, v31, v32, v33, v34, v35, v36, v37, v38, v39, v40, v41, v42, v43, v44, v45, v46, v47, v48, v49, v50, v51, v52, v53, v54, v55, v56, v57, v58, v59, v60, v61, v62, v63, v64, v65, v66, v67, v68, v69, v70, v71, v72, v73, v74, v75, v76, v77, v78, v79, v80, v81, v82, .int .i64 ((0 : Nat) : Int), v84, v85, v86, v87, v88, v89, v90, v91, v92, v93, v94, v95, v96, v97, v98, v99, v100, v101, v102, v103, v104, v105, v106, v107, v108, v109, v110, v111, v112, v113, v114, v115, v116, v117, v118, v119, v120, v121, v122, v123, v124, v125, v126, v127, v128, v129, v130, v131, v132, v133, v134, v135, v136, v137, v138, v139, v140, v141, v142, v143, v144, v145, v146, v147, v148, v149, v150, v151, v152, v153, v154, v155, v156, v157, v158, v159, v160, v161, v162, v163, v164, v165, v166, v167, v168, v169, v170, v171, v172, v173, v174, v175, v176, v177, v178, v179, v180, v181, v182, v183, v184, v185, v186, v187, v188, v189, v190, v191, v192, v193, v194, v195, v196, v197, v198, v199, v200, v201, v202, v203, v204, v205, v206, v207, v208, v209, v210, v211, v212, v213, v214, v215, v216, v217, v218, v219, v220, v221, v222, v223, v224, v225, v226, v227, v228, v229, v230, v231, v232, v233, v234, v235, v236, v237, v238, v239, v240, v241, v242, v243, v244, v245, v246, v247, v248, v249, v250, v251, v252, v253, v254, v255, v256, v257, v258, v259, v260, v261, v262, v263, v264, v265, v266, v267, v268, v269, v270, v271, v272, v273, v274, v275, v276, v277, v278, v279, v280, v281, v282, v283, v284, v285, v286, v287, v288, v289, v290, v291, v292, v293, v294, v295, v296, v297, v298, v299, v300, v301], []⟩ w6 := by
  have HB0 : Hid ((Lit.int .i64 kd).wf = true ∧ CallOk w ⟨kd, nn, .slice aq bs.length cq, bs⟩) := Lib.hid ⟨X5.out.2.ok.kd, X5.out.2.ok⟩
  have hps : (ps.length : Int) ≤ 120 := by have := X5.out.1.lps; omega
  have hqs : (qs.length : Int) ≤ 120 := by have := X5.out.1.lqs; omega
  have hnw : (nw : Int) ≤ 120 := by have := X5.out.1.lnw; omega
  have hsq : (sq : Int) ≤ 120 := by have := X5.out.1.lsq; omega
  have hwn : (wn : Int) ≤ 48000 := by have := X5.out.1.lwn; omega
  clear hkm
  have kc0 : w6.cell? ⟨cb, 0, none⟩ = some (.int .i64 kd) := X5.out.2.cells.1
  have kc1 : w6.cell? ⟨cb, 1, none⟩ = some (.int .i64 nn) := X5.out.2.cells.2.1
  have kc2 : w6.cell? ⟨cb, 2, none⟩ = some (.slice aq bs.length cq) := X5.out.2.cells.2.2
  conv => arg 2; arg 2; whnf
  by_cases hL : 2000 < bs.length
  · have hL' : (2000 : Int) < (bs.length : Int) := by omega
    clear hL
    go_upto_region 9999 with (fail)
    first | (refine hC _ _ ?_) | skip
    (repeat apply Exists.intro)
    exact ⟨X5.out.1.mono.pack, rfl⟩
  · have hL' : ¬ (2000 : Int) < (bs.length : Int) := by omega
    clear hL
    obtain ⟨L, hL2⟩ : ∃ L, L = S4.left := ⟨_, rfl⟩
    have HL := Lib.hid hL2
    have HLN : Hid (0 ≤ L) := Lib.hid (by rw [hL2]; exact left_pos X5.out.1.up.up.inv)
    clear hL2
    go_upto_region 23 with (go_at_call 18; go_must (refine (ub_left X5.out.1.up).mono ?_; rw [← HL.out]; rintro e w7 ⟨rfl, hup, nd, hw⟩; have X7 : Hid (PlS w w7 bl k pb4 db (.slice a9 ps.length c9) ps (.slice a10 qs.length c10) qs rt sq nw wn F4 G4 D4 S4 C4 ∧ CAt w w7 F4 G4 (.slice a9 ps.length c9) (.slice a10 qs.length c10) cb ⟨kd, nn, .slice aq bs.length cq, bs⟩) := Lib.hid (by rw [hw]; exact ⟨X5.out.1.drewN nd, X5.out.2.drewN nd⟩); clear hup hw; (try dsimp only)))
    have kc7 : w7.cell? ⟨cb, 2, none⟩ = some (.slice aq bs.length cq) := X7.out.2.cells.2.2
    have kb : (w7.alloc (.cells #[] 5)).cell? ⟨cb, 2, none⟩ = some (.slice aq bs.length cq) := Lib.cell?_alloc_some _ kc7
    clear kc0 kc1 kc2
    by_cases h5 : 496 < bs.length
    · have h5' : (496 : Int) < (bs.length : Int) := by omega
      have H5 := Lib.hid h5
      clear h5
      go_upto_region 24 with (first
        | (at_builtin; go_must (refine wpList_copy_rowZ w7 rfl (.tmp 94) (.tmp 96) rfl rfl rfl (.slice aq bs.length cq) bs rfl X7.out.2.reads HB0.out.2.fit ?_; intro a8 c8 w8 hrow hB; have X8 : Hid ((PlS w w8 bl k pb4 db (.slice a9 ps.length c9) ps (.slice a10 qs.length c10) qs rt sq nw wn F4 G4 D4 S4 C4 ∧ CAt w w8 F4 G4 (.slice a9 ps.length c9) (.slice a10 qs.length c10) cb ⟨kd, nn, .slice aq bs.length cq, bs⟩) ∧ Row w8 w7.heap.size (.slice a8 bs.length c8) bs) := Lib.hid ⟨⟨X7.out.1.below hB, X7.out.2.below hB⟩, hrow⟩; clear hrow hB))
        | (go_at_call 12; go_must (refine (pg_alloc_long X8.out.1.1.up.up.on X8.out.1.1.up.alive a8 bs.length c8 H5.out).mono ?_; rintro e w9 ⟨rfl, nd2, hw⟩; have X9 : Hid (PlS w w9 bl k pb4 db (.slice a9 ps.length c9) ps (.slice a10 qs.length c10) qs rt sq nw wn F4 G4 D4 S4 C4 ∧ CAt w w9 F4 G4 (.slice a9 ps.length c9) (.slice a10 qs.length c10) cb ⟨kd, nn, .slice aq bs.length cq, bs⟩) := Lib.hid (by rw [hw]; exact ⟨X8.out.1.1.drewN nd2, X8.out.1.2.drewN nd2⟩); clear hw; (try dsimp only))))
      have kc9 : w9.cell? ⟨cb, 2, none⟩ = some (.slice aq bs.length cq) := X9.out.2.cells.2.2
      clear kc7 kb
      go_upto_region 9999 with (fail)
      first | (refine hC _ _ ?_) | skip
      (repeat apply Exists.intro)
      exact ⟨X9.out.1.mono.pack, rfl⟩
    · have h5' : ¬ (496 : Int) < (bs.length : Int) := by omega
      have H5 : Hid (bs.length ≤ 496) := Lib.hid (by omega)
      clear h5
      by_cases hz : L = 0
      · have hz' : ¬ (0 : Int) < L := by omega
        have HZ := Lib.hid hz
        clear hz
        go_upto_region 24 with (first
          | (at_builtin; go_must (refine wpList_copy_rowZ w7 rfl (.tmp 94) (.tmp 96) rfl rfl rfl (.slice aq bs.length cq) bs rfl X7.out.2.reads HB0.out.2.fit ?_; intro a8 c8 w8 hrow hB; have X8 : Hid ((PlS w w8 bl k pb4 db (.slice a9 ps.length c9) ps (.slice a10 qs.length c10) qs rt sq nw wn F4 G4 D4 S4 C4 ∧ CAt w w8 F4 G4 (.slice a9 ps.length c9) (.slice a10 qs.length c10) cb ⟨kd, nn, .slice aq bs.length cq, bs⟩) ∧ Row w8 w7.heap.size (.slice a8 bs.length c8) bs) := Lib.hid ⟨⟨X7.out.1.below hB, X7.out.2.below hB⟩, hrow⟩; clear hrow hB))
          | (go_at_call 12; go_must (refine (pg_alloc_full X8.out.1.1.up.up.on X8.out.1.1.up.up.inv.left_le X8.out.1.1.up.alive a8 bs.length c8 H5.out (HL.out.symm.trans HZ.out)).mono ?_; rintro e w9 ⟨rfl, nd2, hw⟩; have X9 : Hid (PlS w w9 bl k pb4 db (.slice a9 ps.length c9) ps (.slice a10 qs.length c10) qs rt sq nw wn F4 G4 D4 S4 C4 ∧ CAt w w9 F4 G4 (.slice a9 ps.length c9) (.slice a10 qs.length c10) cb ⟨kd, nn, .slice aq bs.length cq, bs⟩) := Lib.hid (by rw [hw]; exact ⟨X8.out.1.1.drewN nd2, X8.out.1.2.drewN nd2⟩); clear hw; (try dsimp only))))
        have kc9 : w9.cell? ⟨cb, 2, none⟩ = some (.slice aq bs.length cq) := X9.out.2.cells.2.2
        clear kc7 kb
        go_upto_region 9999 with (fail)
        go_meet
        exact X9.out.1.mono.pack
      · have hz' : (0 : Int) < L := by have := HLN.out; omega
        have HZ : Hid (S4.left ≠ 0) := Lib.hid (by rw [← HL.out]; exact hz)
        clear hz
        go_upto_region 24 with (first
          | (at_builtin; go_must (refine wpList_copy_rowZ w7 rfl (.tmp 94) (.tmp 96) rfl rfl rfl (.slice aq bs.length cq) bs rfl X7.out.2.reads HB0.out.2.fit ?_; intro a8 c8 w8 hrow hB; have X8 : Hid ((PlS w w8 bl k pb4 db (.slice a9 ps.length c9) ps (.slice a10 qs.length c10) qs rt sq nw wn F4 G4 D4 S4 C4 ∧ CAt w w8 F4 G4 (.slice a9 ps.length c9) (.slice a10 qs.length c10) cb ⟨kd, nn, .slice aq bs.length cq, bs⟩) ∧ Row w8 w7.heap.size (.slice a8 bs.length c8) bs) := Lib.hid ⟨⟨X7.out.1.below hB, X7.out.2.below hB⟩, hrow⟩; clear hrow hB))
          | (go_at_call 12; go_must (refine (ub_alloc X8.out.1.1.up _ bs X8.out.2.reads H5.out (fun j hj => (X7.out.1.up.far_new (X8.out.2.blk j hj).1).1) HZ.out).mono ?_; rintro e w9 ⟨n, S9, F9, rfl, hup, hq, hm⟩; have X9 := Lib.hid (And.intro hup (And.intro hq (And.intro hm (X8.out.1.2.turn hm.left hup.bel)))); clear hup hq hm; (try dsimp only))))
        have kc9 : w9.cell? ⟨cb, 2, none⟩ = some (.slice aq bs.length cq) := X9.out.2.2.2.cells.2.2
        have HR9 : Hid (PRow w9 w.heap.size (.slice a9 ps.length c9) ps ∧ PRow w9 w.heap.size (.slice a10 qs.length c10) qs) := Lib.hid (by
          have := X8.out.1.1.two.turn X9.out.1 X9.out.2.2.1.left
          exact ⟨this.ra, this.rd⟩)
        have HA1 : Hid (atF ps (n : Int) 0 = -1 ∧ atF qs (n : Int) 0 = -1) := Lib.hid ⟨X8.out.1.1.ma.at_no (fun _ => by rw [Int.toNat_natCast]; exact X9.out.2.1.2.2.1), X8.out.1.1.md.at_no (fun _ => by rw [Int.toNat_natCast]; exact X9.out.2.1.2.2.2.1)⟩
        have hn1 : ¬ (n : Int) < 1 := by
          have h1 := X9.out.2.1.1
          have h2 : firstN D4.blocks = 2 + 2 * mapsN D4.blocks := rfl
          omega
        have HNW : Hid ((Lit.int .i64 (n : Int)).wf = true) := Lib.hid (wf_small n (by have := X9.out.2.1.2.1; have := X8.out.1.1.up.up.inv.wf.hi; have := X8.out.1.1.up.up.inv.bl; omega))
        have hcv9 : (convert 22 9 (.slice aq bs.length cq)).run Try.prog w9 = .ok (.string (strB bs)) w9 := conv_Z X9.out.2.2.2.reads
        clear kc7 kb
        go_upto_region 9999 with (first
          | (go_at_call_of 28 (Value.slice a9 ps.length c9); go_must (refine (law3_at HR9.out.1 (by have := hps; omega) (n : Int) HNW.out).mono ?_; rw [HA1.out.1]; rintro e w' ⟨rfl, rfl⟩; (try dsimp only)))
          | (go_at_call_of 28 (Value.slice a10 qs.length c10); go_must (refine (law3_at HR9.out.2 (by have := hqs; omega) (n : Int) HNW.out).mono ?_; rw [HA1.out.2]; rintro e w' ⟨rfl, rfl⟩; (try dsimp only)))
          | (at_builtin; go_must (refine wpList_append_page rfl (.tmp 136) (.tmp 142) rfl w9 w.heap.size (.slice a9 ps.length c9) ps (n, bs) rfl HR9.out.1 X9.out.1.bel.size rfl (by have := hps; omega) ?_; intro g10 c10' w10 hrow hap; have X10 := Lib.hid (X8.out.1.1.alloc X9.out.1 X9.out.2.2.1 X9.out.2.1.2.2.1 X9.out.2.1.2.2.2.2.1 X9.out.2.1.2.2.2.2.2.2.2 hrow hap); clear hrow hap)))
        go_meet
        exact X10.out.pack
end Go.Proofs.Ytjbomdhlfjcgmaa
