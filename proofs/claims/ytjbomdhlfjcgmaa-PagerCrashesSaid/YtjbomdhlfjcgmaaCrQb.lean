/-
  The law PagerCrashes: arms of its switch.
-/
import Derived.Test.YtjbomdhlfjcgmaaCrQ
import Derived.Deep.DeepCutAuto
import Derived.Deep.CutRange
import Derived.Deep.CutBlock
namespace Go.Proofs.Ytjbomdhlfjcgmaa
set_option linter.unusedSimpArgs false
set_option linter.unusedVariables false
open Go.RowKit
attribute [local irreducible] atF woP newP

set_option maxHeartbeats 12800000 in
set_option maxRecDepth 100000 in
theorem crash_arm1 {w w6 : World} {k db pb4 cb : Nat} {a11 a12 aq : Option Addr} {c11 c12 cq : Nat} {ps qs : List PageD} {rt bs : List UInt8} {kd nn : Int} {F4 G4 : Nat → Prop} {D4 : DiskS} {S4 : PgS} {C4 : Comm}
    {v0 v1 v2 v3 v4 v5 v6 v8 v10 v13 v15 v16 v17 v19 v20 v21 v22 v23 v24 v25 v26 v27 v28 v29 v30 v31 v32 v33 v34 v35 v36 v37 v38 v39 v40 v41 v42 v43 v44 v45 v46 v47 v48 v49 v50 v51 v52 v53 v54 v55 v56 v57 v58 v59 v60 v62 v63 v64 v65 v66 v67 v68 v69 v70 v71 v72 v73 v74 v75 v76 v77 v78 v79 v80 v81 v82 v83 v84 v85 v86 v87 v88 v89 v90 v91 v92 v93 v94 v95 v96 v97 v98 v99 v100 v101 v102 v103 v104 v105 v106 v107 v108 v109 v110 v111 v112 v113 v114 v115 v116 v117 v118 v119 v120 v121 v122 v123 v124 v125 v126 v127 v128 v129 v130 v131 v132 v133 v134 v135 v136 v137 v138 v139 v140 v141 v142 v143 v144 v145 v146 v147 v148 v149 v150 v151 v152 v153 v154 v155 v156 v157 v158 v159 v160 v161 v162 v163 v164 v165 v166 v167 v168 v169 v170 v171 v172 v173 v174 v175 v176 v177 v178 : Value}
    (hkm : k < 60)
    (X5 : Hid (CrS w w6 k pb4 db (.slice a11 ps.length c11) ps (.slice a12 qs.length c12) qs rt F4 G4 D4 S4 C4 ∧ CAt w w6 F4 G4 (.slice a11 ps.length c11) (.slice a12 qs.length c12) cb ⟨kd, nn, .slice aq bs.length cq, bs⟩))
    {Q : Exit → Act → World → Prop}
    (hN : ∀ a' w', (∃ u11 u12 u13 u14 u15 u16 u19 u20 u21 u62 u63 u64 u65 u66 u67 u68 u69 u70 u71 u72 u73 u74 u75 u76 u77 u78 u79 u80 u81 u82 u83 u84 u85 u86 u87 u88 u89 u90 u91 u92 u93 u94 u95 u96 u97 u98 u99 u100 u101 u102 u103 u104 u105 u106 u107 u108 u109 u110 u111 u112 u113 u114 u115 u116 u117 u118 u119 u120 u121 u122 u123 u124 u125 u126 u127 u128 u129 u130 u131 u132 u133 u134 u135 : Value, CrE w w' (k + 1) db (.pointer (some ⟨pb4, 0, none⟩)) u11 u12 u14 ∧ a' = ⟨#[v0, v1, v2, v3, v4, v5, v6, .pointer (some ⟨db, 0, none⟩), v8, .pointer (some ⟨pb4, 0, none⟩), v10, u11, u12, u13, u14, u15, u16, v17, .pointer (some ⟨cb, 0, none⟩), u19, u20, u21, v22, v23, v24, v25, v26, v27, v28, v29, v30, v31, v32, v33, v34, v35, v36, v37, v38, v39, v40, v41, v42, v43, v44, v45, v46, v47, v48, v49, v50, v51, v52, v53, v54, v55, v56, v57, v58, v59, v60, .int .i64 ((1 : Nat) : Int), u62, u63, u64, u65, u66, u67, u68, u69, u70, u71, u72, u73, u74, u75, u76, u77, u78, u79, u80, u81, u82, u83, u84, u85, u86, u87, u88, u89, u90, u91, u92, u93, u94, u95, u96, u97, u98, u99, u100, u101, u102, u103, u104, u105, u106, u107, u108, u109, u110, u111, u112, u113, u114, u115, u116, u117, u118, u119, u120, u121, u122, u123, u124, u125, u126, u127, u128, u129, u130, u131, u132, u133, u134, u135, v136, v137, v138, v139, v140, v141, v142, v143, v144, v145, v146, v147, v148, v149, v150, v151, v152, v153, v154, v155, v156, v157, v158, v159, v160, v161, v162, v163, v164, v165, v166, v167, v168, v169, v170, v171, v172, v173, v174, v175, v176, v177, v178], []⟩) → Q .normal a' w')
    (hC : ∀ a' w', (∃ u11 u12 u13 u14 u15 u16 u19 u20 u21 u62 u63 u64 u65 u66 u67 u68 u69 u70 u71 u72 u73 u74 u75 u76 u77 u78 u79 u80 u81 u82 u83 u84 u85 u86 u87 u88 u89 u90 u91 u92 u93 u94 u95 u96 u97 u98 u99 u100 u101 u102 u103 u104 u105 u106 u107 u108 u109 u110 u111 u112 u113 u114 u115 u116 u117 u118 u119 u120 u121 u122 u123 u124 u125 u126 u127 u128 u129 u130 u131 u132 u133 u134 u135 : Value, CrE w w' (k + 1) db (.pointer (some ⟨pb4, 0, none⟩)) u11 u12 u14 ∧ a' = ⟨#[v0, v1, v2, v3, v4, v5, v6, .pointer (some ⟨db, 0, none⟩), v8, .pointer (some ⟨pb4, 0, none⟩), v10, u11, u12, u13, u14, u15, u16, v17, .pointer (some ⟨cb, 0, none⟩), u19, u20, u21, v22, v23, v24, v25, v26, v27, v28, v29, v30, v31, v32, v33, v34, v35, v36, v37, v38, v39, v40, v41, v42, v43, v44, v45, v46, v47, v48, v49, v50, v51, v52, v53, v54, v55, v56, v57, v58, v59, v60, .int .i64 ((1 : Nat) : Int), u62, u63, u64, u65, u66, u67, u68, u69, u70, u71, u72, u73, u74, u75, u76, u77, u78, u79, u80, u81, u82, u83, u84, u85, u86, u87, u88, u89, u90, u91, u92, u93, u94, u95, u96, u97, u98, u99, u100, u101, u102, u103, u104, u105, u106, u107, u108, u109, u110, u111, u112, u113, u114, u115, u116, u117, u118, u119, u120, u121, u122, u123, u124, u125, u126, u127, u128, u129, u130, u131, u132, u133, u134, u135, v136, v137, v138, v139, v140, v141, v142, v143, v144, v145, v146, v147, v148, v149, v150, v151, v152, v153, v154, v155, v156, v157, v158, v159, v160, v161, v162, v163, v164, v165, v166, v167, v168, v169, v170, v171, v172, v173, v174, v175, v176, v177, v178], []⟩) → Q (.exit 1) a' w')
    (hP : ∀ c (a : Act) d v w, Q (.panic c) (a.put d v) w → Q (.panic c) a w) :
    Code.wp Try.prog (Code.block 2 crashSw) Q ⟨#[v0, v1, v2, v3, v4, v5, v6, .pointer (some ⟨db, 0, none⟩), v8, .pointer (some ⟨pb4, 0, none⟩), v10, .slice a11 ps.length c11, .slice a12 qs.length c12, v13, .string (strB rt), v15, v16, v17, .pointer (some ⟨cb, 0, none⟩), v19, v20, v21, v22, v23, v24, v25, v26, v27, v28, v29, v30, v31, v32, v33, v34, v35, v36, v37, v38, v39, v40, v41, v42, v43, v44, v45, v46, v47, v48, v49, v50, v51, v52, v53, v54, v55, v56, v57, v58, v59, v60, .int .i64 ((1 : Nat) : Int), v62, v63, v64, v65, v66, v67, v68, v69, v70, v71, v72, v73, v74, v75, v76, v77, v78, v79, v80, v81, v82, v83, v84, v85, v86, v87, v88, v89, v90, v91, v92, v93, v94, v95, v96, v97, v98, v99, v100, v101, v102, v103, v104, v105, v106, v107, v108, v109, v110, v111, v112, v113, v114, v115, v116, v117, v118, v119, v120, v121, v122, v123, v124, v125, v126, v127, v128, v129, v130, v131, v132, v133, v134, v135, v136, v137, v138, v139, v140, v141, v142, v143, v144, v145, v146, v147, v148, v149, v150, v151, v152, v153, v154, v155, v156, v157, v158, v159, v160, v161, v162, v163, v164, v165, v166, v167, v168, v169, v170, v171, v172, v173, v174, v175, v176, v177, v178], []⟩ w6 := by
  have hps : (ps.length : Int) ≤ 60 := by have := X5.out.1.lps; omega
  have hqs : (qs.length : Int) ≤ 60 := by have := X5.out.1.lqs; omega
  have HKM := Lib.hid hkm
  clear hkm
  have kc0 : w6.cell? ⟨cb, 0, none⟩ = some (.int .i64 kd) := X5.out.2.cells.1
  have kc1 : w6.cell? ⟨cb, 1, none⟩ = some (.int .i64 nn) := X5.out.2.cells.2.1
  have kc2 : w6.cell? ⟨cb, 2, none⟩ = some (.slice aq bs.length cq) := X5.out.2.cells.2.2
  conv => arg 2; arg 2; whnf
  by_cases hl : 0 < ps.length
  · have hl' : (0 : Int) < (ps.length : Int) := by omega
    obtain ⟨_, g9, rfl⟩ := X5.out.1.two.ra.form hl
    have HWN := Lib.hid (law3_within nn ps.length hl (by have := hps; omega) X5.out.2.ok.n)
    clear hl
    go_upto_region 24 with (go_at_call 16; go_must (refine (HWN.out _).mono ?_; rintro e w' ⟨r2, hr2, rfl, rfl⟩; have hr2' : (r2 : Int) < (ps.length : Int) := (by omega); obtain ⟨p2, hp2⟩ : ∃ p, ps[r2]? = some p := ⟨_, List.getElem?_eq_getElem hr2⟩; obtain ⟨kp, _⟩ := X5.out.1.two.ra.cell r2 p2 hp2; have HP2 := Lib.hid (List.mem_of_getElem? hp2); clear hr2 hp2; (try dsimp only)))
    have HN : Hid (nowP S4 C4 p2.1 = some p2.2) := Lib.hid ((X5.out.1.ma.mem p2.1 p2.2).2 HP2.out)
    have HPW : Hid ((Lit.int .i64 (p2.1 : Int)).wf = true) := Lib.hid (by
      obtain ⟨z1, z2, z3⟩ := now_range X5.out.1.two.up.up.inv HN.out
      have := X5.out.1.two.up.up.inv.ok.wf.hi
      exact wf_small p2.1 (by omega))
    go_upto_region 9999 with (first
      | (go_at_call 21; go_must (refine (uc_free X5.out.1.two.up p2.1 p2.2 HN.out).mono ?_; rintro e w7 ⟨rfl, hup, hk7⟩; have X7 := Lib.hid (And.intro hup (And.intro hk7 (X5.out.1.two.turn hup (Moves.of_keeps hk7).left).ra)); clear hup hk7; (try dsimp only)))
      | (go_at_call 23; go_must (refine (law3_without X7.out.2.2 (by have := hps; omega) (p2.1 : Int) HPW.out).mono ?_; rintro e w8 ⟨v8, rfl, hrow, hB⟩; have X8 := Lib.hid (X5.out.1.free HN.out X7.out.1 X7.out.2.1 hrow hB); obtain ⟨a8, c8, rfl⟩ := hrow.len; clear hrow hB; (try dsimp only))))
    first | (refine hN _ _ ?_) | skip
    (repeat apply Exists.intro)
    exact ⟨X8.out.mono.pack, rfl⟩
  · have hl' : ¬ (0 : Int) < (ps.length : Int) := by omega
    clear hl
    go_upto_region 9999 with (fail)
    first | (refine hN _ _ ?_) | skip
    (repeat apply Exists.intro)
    exact ⟨X5.out.1.mono.pack, rfl⟩

set_option maxHeartbeats 12800000 in
set_option maxRecDepth 100000 in
theorem crash_arm4 {w w6 : World} {k db pb4 cb : Nat} {a11 a12 aq : Option Addr} {c11 c12 cq : Nat} {ps qs : List PageD} {rt bs : List UInt8} {kd nn : Int} {F4 G4 : Nat → Prop} {D4 : DiskS} {S4 : PgS} {C4 : Comm}
    {v0 v1 v2 v3 v4 v5 v6 v8 v10 v13 v15 v16 v17 v19 v20 v21 v22 v23 v24 v25 v26 v27 v28 v29 v30 v31 v32 v33 v34 v35 v36 v37 v38 v39 v40 v41 v42 v43 v44 v45 v46 v47 v48 v49 v50 v51 v52 v53 v54 v55 v56 v57 v58 v59 v60 v62 v63 v64 v65 v66 v67 v68 v69 v70 v71 v72 v73 v74 v75 v76 v77 v78 v79 v80 v81 v82 v83 v84 v85 v86 v87 v88 v89 v90 v91 v92 v93 v94 v95 v96 v97 v98 v99 v100 v101 v102 v103 v104 v105 v106 v107 v108 v109 v110 v111 v112 v113 v114 v115 v116 v117 v118 v119 v120 v121 v122 v123 v124 v125 v126 v127 v128 v129 v130 v131 v132 v133 v134 v135 v136 v137 v138 v139 v140 v141 v142 v143 v144 v145 v146 v147 v148 v149 v150 v151 v152 v153 v154 v155 v156 v157 v158 v159 v160 v161 v162 v163 v164 v165 v166 v167 v168 v169 v170 v171 v172 v173 v174 v175 v176 v177 v178 : Value}
    (hkm : k < 60)
    (X5 : Hid (CrS w w6 k pb4 db (.slice a11 ps.length c11) ps (.slice a12 qs.length c12) qs rt F4 G4 D4 S4 C4 ∧ CAt w w6 F4 G4 (.slice a11 ps.length c11) (.slice a12 qs.length c12) cb ⟨kd, nn, .slice aq bs.length cq, bs⟩))
    {Q : Exit → Act → World → Prop}
    (hN : ∀ a' w', (∃ u11 u12 u13 u14 u15 u16 u19 u20 u21 u62 u63 u64 u65 u66 u67 u68 u69 u70 u71 u72 u73 u74 u75 u76 u77 u78 u79 u80 u81 u82 u83 u84 u85 u86 u87 u88 u89 u90 u91 u92 u93 u94 u95 u96 u97 u98 u99 u100 u101 u102 u103 u104 u105 u106 u107 u108 u109 u110 u111 u112 u113 u114 u115 u116 u117 u118 u119 u120 u121 u122 u123 u124 u125 u126 u127 u128 u129 u130 u131 u132 u133 u134 u135 : Value, CrE w w' (k + 1) db (.pointer (some ⟨pb4, 0, none⟩)) u11 u12 u14 ∧ a' = ⟨#[v0, v1, v2, v3, v4, v5, v6, .pointer (some ⟨db, 0, none⟩), v8, .pointer (some ⟨pb4, 0, none⟩), v10, u11, u12, u13, u14, u15, u16, v17, .pointer (some ⟨cb, 0, none⟩), u19, u20, u21, v22, v23, v24, v25, v26, v27, v28, v29, v30, v31, v32, v33, v34, v35, v36, v37, v38, v39, v40, v41, v42, v43, v44, v45, v46, v47, v48, v49, v50, v51, v52, v53, v54, v55, v56, v57, v58, v59, v60, .int .i64 ((4 : Nat) : Int), u62, u63, u64, u65, u66, u67, u68, u69, u70, u71, u72, u73, u74, u75, u76, u77, u78, u79, u80, u81, u82, u83, u84, u85, u86, u87, u88, u89, u90, u91, u92, u93, u94, u95, u96, u97, u98, u99, u100, u101, u102, u103, u104, u105, u106, u107, u108, u109, u110, u111, u112, u113, u114, u115, u116, u117, u118, u119, u120, u121, u122, u123, u124, u125, u126, u127, u128, u129, u130, u131, u132, u133, u134, u135, v136, v137, v138, v139, v140, v141, v142, v143, v144, v145, v146, v147, v148, v149, v150, v151, v152, v153, v154, v155, v156, v157, v158, v159, v160, v161, v162, v163, v164, v165, v166, v167, v168, v169, v170, v171, v172, v173, v174, v175, v176, v177, v178], []⟩) → Q .normal a' w')
    (hC : ∀ a' w', (∃ u11 u12 u13 u14 u15 u16 u19 u20 u21 u62 u63 u64 u65 u66 u67 u68 u69 u70 u71 u72 u73 u74 u75 u76 u77 u78 u79 u80 u81 u82 u83 u84 u85 u86 u87 u88 u89 u90 u91 u92 u93 u94 u95 u96 u97 u98 u99 u100 u101 u102 u103 u104 u105 u106 u107 u108 u109 u110 u111 u112 u113 u114 u115 u116 u117 u118 u119 u120 u121 u122 u123 u124 u125 u126 u127 u128 u129 u130 u131 u132 u133 u134 u135 : Value, CrE w w' (k + 1) db (.pointer (some ⟨pb4, 0, none⟩)) u11 u12 u14 ∧ a' = ⟨#[v0, v1, v2, v3, v4, v5, v6, .pointer (some ⟨db, 0, none⟩), v8, .pointer (some ⟨pb4, 0, none⟩), v10, u11, u12, u13, u14, u15, u16, v17, .pointer (some ⟨cb, 0, none⟩), u19, u20, u21, v22, v23, v24, v25, v26, v27, v28, v29, v30, v31, v32, v33, v34, v35, v36, v37, v38, v39, v40, v41, v42, v43, v44, v45, v46, v47, v48, v49, v50, v51, v52, v53, v54, v55, v56, v57, v58, v59, v60, .int .i64 ((4 : Nat) : Int), u62, u63, u64, u65, u66, u67, u68, u69, u70, u71, u72, u73, u74, u75, u76, u77, u78, u79, u80, u81, u82, u83, u84, u85, u86, u87, u88, u89, u90, u91, u92, u93, u94, u95, u96, u97, u98, u99, u100, u101, u102, u103, u104, u105, u106, u107, u108, u109, u110, u111, u112, u113, u114, u115, u116, u117, u118, u119, u120, u121, u122, u123, u124, u125, u126, u127, u128, u129, u130, u131, u132, u133, u134, u135, v136, v137, v138, v139, v140, v141, v142, v143, v144, v145, v146, v147, v148, v149, v150, v151, v152, v153, v154, v155, v156, v157, v158, v159, v160, v161, v162, v163, v164, v165, v166, v167, v168, v169, v170, v171, v172, v173, v174, v175, v176, v177, v178], []⟩) → Q (.exit 1) a' w')
    (hP : ∀ c (a : Act) d v w, Q (.panic c) (a.put d v) w → Q (.panic c) a w) :
    Code.wp Try.prog (Code.block 2 crashSw) Q ⟨#[v0, v1, v2, v3, v4, v5, v6, .pointer (some ⟨db, 0, none⟩), v8, .pointer (some ⟨pb4, 0, none⟩), v10, .slice a11 ps.length c11, .slice a12 qs.length c12, v13, .string (strB rt), v15, v16, v17, .pointer (some ⟨cb, 0, none⟩), v19, v20, v21, v22, v23, v24, v25, v26, v27, v28, v29, v30, v31, v32, v33, v34, v35, v36, v37, v38, v39, v40, v41, v42, v43, v44, v45, v46, v47, v48, v49, v50, v51, v52, v53, v54, v55, v56, v57, v58, v59, v60, .int .i64 ((4 : Nat) : Int), v62, v63, v64, v65, v66, v67, v68, v69, v70, v71, v72, v73, v74, v75, v76, v77, v78, v79, v80, v81, v82, v83, v84, v85, v86, v87, v88, v89, v90, v91, v92, v93, v94, v95, v96, v97, v98, v99, v100, v101, v102, v103, v104, v105, v106, v107, v108, v109, v110, v111, v112, v113, v114, v115, v116, v117, v118, v119, v120, v121, v122, v123, v124, v125, v126, v127, v128, v129, v130, v131, v132, v133, v134, v135, v136, v137, v138, v139, v140, v141, v142, v143, v144, v145, v146, v147, v148, v149, v150, v151, v152, v153, v154, v155, v156, v157, v158, v159, v160, v161, v162, v163, v164, v165, v166, v167, v168, v169, v170, v171, v172, v173, v174, v175, v176, v177, v178], []⟩ w6 := by
  have hps : (ps.length : Int) ≤ 60 := by have := X5.out.1.lps; omega
  have hqs : (qs.length : Int) ≤ 60 := by have := X5.out.1.lqs; omega
  have HKM := Lib.hid hkm
  clear hkm
  have kc0 : w6.cell? ⟨cb, 0, none⟩ = some (.int .i64 kd) := X5.out.2.cells.1
  have kc1 : w6.cell? ⟨cb, 1, none⟩ = some (.int .i64 nn) := X5.out.2.cells.2.1
  have kc2 : w6.cell? ⟨cb, 2, none⟩ = some (.slice aq bs.length cq) := X5.out.2.cells.2.2
  conv => arg 2; arg 2; whnf
  go_upto_region 9999 with (first
    | (go_at_call 24; go_must (refine (uc_abort X5.out.1.two.up).mono ?_; rintro e w7 ⟨rfl, F7, hup, hm⟩; have X7 := Lib.hid (And.intro hup (And.intro hm (X5.out.1.two.turn hup hm.left).rd)); clear hup hm; (try dsimp only)))
    | (go_at_call 22; go_must (refine (dk_dead X7.out.1.up.on.dk).mono ?_; rw [X7.out.1.alive]; rintro e w' ⟨rfl, rfl⟩; (try dsimp only)))
    | (at_builtin; go_must (refine wpList_copy_pages w7 rfl (.tmp 133) (.tmp 134) rfl rfl rfl w.heap.size (.slice a12 qs.length c12) qs rfl X7.out.2.2 (by have := hqs; omega) ?_; intro a13 c13 w10 hrow hB; have X10 := Lib.hid (X5.out.1.abort X7.out.1 X7.out.2.1 hrow hB); clear hrow hB)))
  first | (refine hN _ _ ?_) | skip
  (repeat apply Exists.intro)
  exact ⟨X10.out.mono.pack, rfl⟩
end Go.Proofs.Ytjbomdhlfjcgmaa
