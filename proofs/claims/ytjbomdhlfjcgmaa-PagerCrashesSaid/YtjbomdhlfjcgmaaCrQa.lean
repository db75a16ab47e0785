/-
  The law PagerCrashes: arms of its switch.
-/
import Derived.Test.YtjbomdhlfjcgmaaCrQ
import Derived.Deep.DeepCutAuto
import Derived.Deep.CutRange
import Derived.Deep.CutBlock
namespace Go.Proofs.Ytjbomdhlfjcgmaa
set_option linter.unusedSimpArgs false
set_option linter.unusedVariables false
open Go.RowKit
attribute [local irreducible] atF woP newP

set_option maxHeartbeats 12800000 in
set_option maxRecDepth 100000 in
theorem crash_arm0 {w w6 : World} {k db pb4 cb : Nat} {a11 a12 aq : Option Addr} {c11 c12 cq : Nat} {ps qs : List PageD} {rt bs : List UInt8} {kd nn : Int} {F4 G4 : Nat → Prop} {D4 : DiskS} {S4 : PgS} {C4 : Comm}
    {v0 v1 v2 v3 v4 v5 v6 v8 v10 v13 v15 v16 v17 v19 v20 v21 v22 v23 v24 v25 v26 v27 v28 v29 v30 v31 v32 v33 v34 v35 v36 v37 v38 v39 v40 v41 v42 v43 v44 v45 v46 v47 v48 v49 v50 v51 v52 v53 v54 v55 v56 v57 v58 v59 v60 v62 v63 v64 v65 v66 v67 v68 v69 v70 v71 v72 v73 v74 v75 v76 v77 v78 v79 v80 v81 v82 v83 v84 v85 v86 v87 v88 v89 v90 v91 v92 v93 v94 v95 v96 v97 v98 v99 v100 v101 v102 v103 v104 v105 v106 v107 v108 v109 v110 v111 v112 v113 v114 v115 v116 v117 v118 v119 v120 v121 v122 v123 v124 v125 v126 v127 v128 v129 v130 v131 v132 v133 v134 v135 v136 v137 v138 v139 v140 v141 v142 v143 v144 v145 v146 v147 v148 v149 v150 v151 v152 v153 v154 v155 v156 v157 v158 v159 v160 v161 v162 v163 v164 v165 v166 v167 v168 v169 v170 v171 v172 v173 v174 v175 v176 v177 v178 : Value}
    (hkm : k < 60)
    (X5 : Hid (CrS w w6 k pb4 db (.slice a11 ps.length c11) ps (.slice a12 qs.length c12) qs rt F4 G4 D4 S4 C4 ∧ CAt w w6 F4 G4 (.slice a11 ps.length c11) (.slice a12 qs.length c12) cb ⟨kd, nn, .slice aq bs.length cq, bs⟩))
    {Q : Exit → Act → World → Prop}
    (hN : ∀ a' w', (∃ u11 u12 u13 u14 u15 u16 u19 u20 u21 u62 u63 u64 u65 u66 u67 u68 u69 u70 u71 u72 u73 u74 u75 u76 u77 u78 u79 u80 u81 u82 u83 u84 u85 u86 u87 u88 u89 u90 u91 u92 u93 u94 u95 u96 u97 u98 u99 u100 u101 u102 u103 u104 u105 u106 u107 u108 u109 u110 u111 u112 u113 u114 u115 u116 u117 u118 u119 u120 u121 u122 u123 u124 u125 u126 u127 u128 u129 u130 u131 u132 u133 u134 u135 : Value, CrE w w' (k + 1) db (.pointer (some ⟨pb4, 0, none⟩)) u11 u12 u14 ∧ a' = ⟨#[v0, v1, v2, v3, v4, v5, v6, .pointer (some ⟨db, 0, none⟩), v8, .pointer (some ⟨pb4, 0, none⟩), v10, u11, u12, u13, u14, u15, u16, v17, .pointer (some ⟨cb, 0, none⟩), u19, u20, u21, v22, v23, v24, v25, v26, v27, v28, v29, v30, v31, v32, v33, v34, v35, v36, v37, v38, v39, v40, v41, v42, v43, v44, v45, v46, v47, v48, v49, v50, v51, v52, v53, v54, v55, v56, v57, v58, v59, v60, .int .i64 ((0 : Nat) : Int), u62, u63, u64, u65, u66, u67, u68, u69, u70, u71, u72, u73, u74, u75, u76, u77, u78, u79, u80, u81, u82, u83, u84, u85, u86, u87, u88, u89, u90, u91, u92, u93, u94, u95, u96, u97, u98, u99, u100, u101, u102, u103, u104, u105, u106, u107, u108, u109, u110, u111, u112, u113, u114, u115, u116, u117, u118, u119, u120, u121, u122, u123, u124, u125, u126, u127, u128, u129, u130, u131, u132, u133, u134, u135, v136, v137, v138, v139, v140, v141, v142, v143, v144, v145, v146, v147, v148, v149, v150, v151, v152, v153, v154, v155, v156, v157, v158, v159, v160, v161, v162, v163, v164, v165, v166, v167, v168, v169, v170, v171, v172, v173, v174, v175, v176, v177, v178], []⟩) → Q .normal a' w')
    (hC : ∀ a' w', (∃ u11 u12 u13 u14 u15 u16 u19 u20 u21 u62 u63 u64 u65 u66 u67 u68 u69 u70 u71 u72 u73 u74 u75 u76 u77 u78 u79 u80 u81 u82 u83 u84 u85 u86 u87 u88 u89 u90 u91 u92 u93 u94 u95 u96 u97 u98 u99 u100 u101 u102 u103 u104 u105 u106 u107 u108 u109 u110 u111 u112 u113 u114 u115 u116 u117 u118 u119 u120 u121 u122 u123 u124 u125 u126 u127 u128 u129 u130 u131 u132 u133 u134 u135 : Value, CrE w w' (k + 1) db (.pointer (some ⟨pb4, 0, none⟩)) u11 u12 u14 ∧ a' = ⟨#[v0, v1, v2, v3, v4, v5, v6, .pointer (some ⟨db, 0, none⟩), v8, .pointer (some ⟨pb4, 0, none⟩), v10, u11, u12, u13, u14, u15, u16, v17, .pointer (some ⟨cb, 0, none⟩), u19, u20, u21, v22, v23, v24, v25, v26, v27, v28, v29, v30, v31, v32, v33, v34, v35, v36, v37, v38, v39, v40, v41, v42, v43, v44, v45, v46, v47, v48, v49, v50, v51, v52, v53, v54, v55, v56, v57, v58, v59, v60, .int .i64 ((0 : Nat) : Int), u62, u63, u64, u65, u66, u67, u68, u69, u70, u71, u72, u73, u74, u75, u76, u77, u78, u79, u80, u81, u82, u83, u84, u85, u86, u87, u88, u89, u90, u91, u92, u93, u94, u95, u96, u97, u98, u99, u100, u101, u102, u103, u104, u105, u106, u107, u108, u109, u110, u111, u112, u113, u114, u115, u116, u117, u118, u119, u120, u121, u122, u123, u124, u125, u126, u127, u128, u129, u130, u131, u132, u133, u134, u135, v136, v137, v138, v139, v140, v141, v142, v143, v144, v145, v146, v147, v148, v149, v150, v151, v152, v153, v154, v155, v156, v157, v158, v159, v160, v161, v162, v163, v164, v165, v166, v167, v168, v169, v170, v171, v172, v173, v174, v175, v176, v177, v178], []⟩) → Q (.exit 1) a' w')
    (hP : ∀ c (a : Act) d v w, Q (.panic c) (a.put d v) w → Q (.panic c) a w) :
    Code.wp Try.prog (Code.block 2 crashSw) Q ⟨#[v0, v1, v2, v3, v4, v5, v6, .pointer (some ⟨db, 0, none⟩), v8, .pointer (some ⟨pb4, 0, none⟩), v10, .slice a11 ps.length c11, .slice a12 qs.length c12, v13, .string (strB rt), v15, v16, v17, .pointer (some ⟨cb, 0, none⟩), v19, v20, v21, v22, v23, v24, v25, v26, v27, v28, v29, v30, v31, v32, v33, v34, v35, v36, v37, v38, v39, v40, v41, v42, v43, v44, v45, v46, v47, v48, v49, v50, v51, v52, v53, v54, v55, v56, v57, v58, v59, v60, .int .i64 ((0 : Nat) : Int), v62, v63, v64, v65, v66, v67, v68, v69, v70, v71, v72, v73, v74, v75, v76, v77, v78, v79, v80, v81, v82, v83, v84, v85, v86, v87, v88, v89, v90, v91, v92, v93, v94, v95, v96, v97, v98, v99, v100, v101, v102, v103, v104, v105, v106, v107, v108, v109, v110, v111, v112, v113, v114, v115, v116, v117, v118, v119, v120, v121, v122, v123, v124, v125, v126, v127, v128, v129, v130, v131, v132, v133, v134, v135, v136, v137, v138, v139, v140, v141, v142, v143, v144, v145, v146, v147, v148, v149, v150, v151, v152, v153, v154, v155, v156, v157, v158, v159, v160, v161, v162, v163, v164, v165, v166, v167, v168, v169, v170, v171, v172, v173, v174, v175, v176, v177, v178], []⟩ w6 := by
  have hps : (ps.length : Int) ≤ 60 := by have := X5.out.1.lps; omega
  have hqs : (qs.length : Int) ≤ 60 := by have := X5.out.1.lqs; omega
  have HKM := Lib.hid hkm
  clear hkm
  have kc0 : w6.cell? ⟨cb, 0, none⟩ = some (.int .i64 kd) := X5.out.2.cells.1
  have kc1 : w6.cell? ⟨cb, 1, none⟩ = some (.int .i64 nn) := X5.out.2.cells.2.1
  have kc2 : w6.cell? ⟨cb, 2, none⟩ = some (.slice aq bs.length cq) := X5.out.2.cells.2.2
  conv => arg 2; arg 2; whnf
  by_cases hL : 496 < bs.length
  · have hL' : (496 : Int) < (bs.length : Int) := by omega
    clear hL
    go_upto_region 9999 with (fail)
    first | (refine hC _ _ ?_) | skip
    (repeat apply Exists.intro)
    exact ⟨X5.out.1.mono.pack, rfl⟩
  · have hL' : ¬ (496 : Int) < (bs.length : Int) := by omega
    have H5 : Hid (bs.length ≤ 496) := Lib.hid (by omega)
    clear hL
    by_cases hz : S4.left = 0
    · have HZ := Lib.hid hz
      clear hz
      go_upto_region 19 with (go_at_call 12; go_must (refine (pg_alloc_full X5.out.1.two.up.up.on X5.out.1.two.up.up.inv.left_le X5.out.1.two.up.alive aq bs.length cq H5.out HZ.out).mono ?_; rintro e w9 ⟨rfl, nd2, hw⟩; have X9 := Lib.hid (X5.out.1.drewN nd2); rw [← hw] at X9; clear hw; (try dsimp only)))
      clear kc0 kc1 kc2
      go_upto_region 9999 with (fail)
      first | (refine hN _ _ ?_) | skip
      (repeat apply Exists.intro)
      exact ⟨X9.out.mono.pack, rfl⟩
    · have HZ := Lib.hid hz
      clear hz
      go_upto_region 19 with (go_at_call 12; go_must (refine (uc_alloc X5.out.1.two.up _ bs X5.out.2.reads H5.out ((X5.out.2.farZ X5.out.1.two.up.own).imp id fun h j hj => (h j hj).1) HZ.out).mono ?_; rintro e w9 ⟨n, S9, F9, rfl, hup, h1, h2, hm⟩; have X9 := Lib.hid (And.intro hup (And.intro h1 (And.intro h2 (And.intro hm (X5.out.2.turn hm.left hup.bel))))); clear hup h1 h2 hm; (try dsimp only)))
      have kc9 : w9.cell? ⟨cb, 2, none⟩ = some (.slice aq bs.length cq) := X9.out.2.2.2.2.cells.2.2
      have HR9 : Hid (PRow w9 w.heap.size (.slice a11 ps.length c11) ps) := Lib.hid (X5.out.1.two.turn X9.out.1 X9.out.2.2.2.1.left).ra
      have hcv9 : (convert 22 9 (.slice aq bs.length cq)).run Try.prog w9 = .ok (.string (strB bs)) w9 := conv_Z X9.out.2.2.2.2.reads
      clear kc0 kc1 kc2
      go_upto_region 9999 with (at_builtin; go_must (refine wpList_append_page rfl (.tmp 77) (.tmp 83) rfl w9 w.heap.size (.slice a11 ps.length c11) ps (n, bs) rfl HR9.out X9.out.1.bel.size rfl (by have := hps; omega) ?_; intro g10 c10' w10 hrow hap; have X10 := Lib.hid (X5.out.1.alloc X9.out.1 X9.out.2.2.2.1 X9.out.2.1 X9.out.2.2.1 hrow hap); clear hrow hap))
      first | (refine hN _ _ ?_) | skip
      (repeat apply Exists.intro)
      exact ⟨X10.out.pack, rfl⟩
end Go.Proofs.Ytjbomdhlfjcgmaa
