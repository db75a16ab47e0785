/-
  The law PagerCrashes: arms of its switch.
-/
import Derived.Test.YtjbomdhlfjcgmaaCrQ
import Derived.Deep.DeepCutAuto
import Derived.Deep.CutRange
import Derived.Deep.CutBlock
namespace Go.Proofs.Ytjbomdhlfjcgmaa
set_option linter.unusedSimpArgs false
set_option linter.unusedVariables false
open Go.RowKit
attribute [local irreducible] atF woP newP

set_option maxHeartbeats 12800000 in
set_option maxRecDepth 100000 in
theorem crash_arm2 {w w6 : World} {k db pb4 cb : Nat} {a11 a12 aq : Option Addr} {c11 c12 cq : Nat} {ps qs : List PageD} {rt bs : List UInt8} {kd nn : Int} {F4 G4 : Nat → Prop} {D4 : DiskS} {S4 : PgS} {C4 : Comm}
    {v0 v1 v2 v3 v4 v5 v6 v8 v10 v13 v15 v16 v17 v19 v20 v21 v22 v23 v24 v25 v26 v27 v28 v29 v30 v31 v32 v33 v34 v35 v36 v37 v38 v39 v40 v41 v42 v43 v44 v45 v46 v47 v48 v49 v50 v51 v52 v53 v54 v55 v56 v57 v58 v59 v60 v62 v63 v64 v65 v66 v67 v68 v69 v70 v71 v72 v73 v74 v75 v76 v77 v78 v79 v80 v81 v82 v83 v84 v85 v86 v87 v88 v89 v90 v91 v92 v93 v94 v95 v96 v97 v98 v99 v100 v101 v102 v103 v104 v105 v106 v107 v108 v109 v110 v111 v112 v113 v114 v115 v116 v117 v118 v119 v120 v121 v122 v123 v124 v125 v126 v127 v128 v129 v130 v131 v132 v133 v134 v135 v136 v137 v138 v139 v140 v141 v142 v143 v144 v145 v146 v147 v148 v149 v150 v151 v152 v153 v154 v155 v156 v157 v158 v159 v160 v161 v162 v163 v164 v165 v166 v167 v168 v169 v170 v171 v172 v173 v174 v175 v176 v177 v178 : Value}
    (hkm : k < 60)
    (X5 : Hid (CrS w w6 k pb4 db (.slice a11 ps.length c11) ps (.slice a12 qs.length c12) qs rt F4 G4 D4 S4 C4 ∧ CAt w w6 F4 G4 (.slice a11 ps.length c11) (.slice a12 qs.length c12) cb ⟨kd, nn, .slice aq bs.length cq, bs⟩))
    {Q : Exit → Act → World → Prop}
    (hN : ∀ a' w', (∃ u11 u12 u13 u14 u15 u16 u19 u20 u21 u62 u63 u64 u65 u66 u67 u68 u69 u70 u71 u72 u73 u74 u75 u76 u77 u78 u79 u80 u81 u82 u83 u84 u85 u86 u87 u88 u89 u90 u91 u92 u93 u94 u95 u96 u97 u98 u99 u100 u101 u102 u103 u104 u105 u106 u107 u108 u109 u110 u111 u112 u113 u114 u115 u116 u117 u118 u119 u120 u121 u122 u123 u124 u125 u126 u127 u128 u129 u130 u131 u132 u133 u134 u135 : Value, CrE w w' (k + 1) db (.pointer (some ⟨pb4, 0, none⟩)) u11 u12 u14 ∧ a' = ⟨#[v0, v1, v2, v3, v4, v5, v6, .pointer (some ⟨db, 0, none⟩), v8, .pointer (some ⟨pb4, 0, none⟩), v10, u11, u12, u13, u14, u15, u16, v17, .pointer (some ⟨cb, 0, none⟩), u19, u20, u21, v22, v23, v24, v25, v26, v27, v28, v29, v30, v31, v32, v33, v34, v35, v36, v37, v38, v39, v40, v41, v42, v43, v44, v45, v46, v47, v48, v49, v50, v51, v52, v53, v54, v55, v56, v57, v58, v59, v60, .int .i64 ((2 : Nat) : Int), u62, u63, u64, u65, u66, u67, u68, u69, u70, u71, u72, u73, u74, u75, u76, u77, u78, u79, u80, u81, u82, u83, u84, u85, u86, u87, u88, u89, u90, u91, u92, u93, u94, u95, u96, u97, u98, u99, u100, u101, u102, u103, u104, u105, u106, u107, u108, u109, u110, u111, u112, u113, u114, u115, u116, u117, u118, u119, u120, u121, u122, u123, u124, u125, u126, u127, u128, u129, u130, u131, u132, u133, u134, u135, v136, v137, v138, v139, v140, v141, v142, v143, v144, v145, v146, v147, v148, v149, v150, v151, v152, v153, v154, v155, v156, v157, v158, v159, v160, v161, v162, v163, v164, v165, v166, v167, v168, v169, v170, v171, v172, v173, v174, v175, v176, v177, v178], []⟩) → Q .normal a' w')
    (hC : ∀ a' w', (∃ u11 u12 u13 u14 u15 u16 u19 u20 u21 u62 u63 u64 u65 u66 u67 u68 u69 u70 u71 u72 u73 u74 u75 u76 u77 u78 u79 u80 u81 u82 u83 u84 u85 u86 u87 u88 u89 u90 u91 u92 u93 u94 u95 u96 u97 u98 u99 u100 u101 u102 u103 u104 u105 u106 u107 u108 u109 u110 u111 u112 u113 u114 u115 u116 u117 u118 u119 u120 u121 u122 u123 u124 u125 u126 u127 u128 u129 u130 u131 u132 u133 u134 u135 : Value, CrE w w' (k + 1) db (.pointer (some ⟨pb4, 0, none⟩)) u11 u12 u14 ∧ a' = ⟨#[v0, v1, v2, v3, v4, v5, v6, .pointer (some ⟨db, 0, none⟩), v8, .pointer (some ⟨pb4, 0, none⟩), v10, u11, u12, u13, u14, u15, u16, v17, .pointer (some ⟨cb, 0, none⟩), u19, u20, u21, v22, v23, v24, v25, v26, v27, v28, v29, v30, v31, v32, v33, v34, v35, v36, v37, v38, v39, v40, v41, v42, v43, v44, v45, v46, v47, v48, v49, v50, v51, v52, v53, v54, v55, v56, v57, v58, v59, v60, .int .i64 ((2 : Nat) : Int), u62, u63, u64, u65, u66, u67, u68, u69, u70, u71, u72, u73, u74, u75, u76, u77, u78, u79, u80, u81, u82, u83, u84, u85, u86, u87, u88, u89, u90, u91, u92, u93, u94, u95, u96, u97, u98, u99, u100, u101, u102, u103, u104, u105, u106, u107, u108, u109, u110, u111, u112, u113, u114, u115, u116, u117, u118, u119, u120, u121, u122, u123, u124, u125, u126, u127, u128, u129, u130, u131, u132, u133, u134, u135, v136, v137, v138, v139, v140, v141, v142, v143, v144, v145, v146, v147, v148, v149, v150, v151, v152, v153, v154, v155, v156, v157, v158, v159, v160, v161, v162, v163, v164, v165, v166, v167, v168, v169, v170, v171, v172, v173, v174, v175, v176, v177, v178], []⟩) → Q (.exit 1) a' w')
    (hP : ∀ c (a : Act) d v w, Q (.panic c) (a.put d v) w → Q (.panic c) a w) :
    Code.wp Try.prog (Code.block 2 crashSw) Q ⟨#[v0, v1, v2, v3, v4, v5, v6, .pointer (some ⟨db, 0, none⟩), v8, .pointer (some ⟨pb4, 0, none⟩), v10, .slice a11 ps.length c11, .slice a12 qs.length c12, v13, .string (strB rt), v15, v16, v17, .pointer (some ⟨cb, 0, none⟩), v19, v20, v21, v22, v23, v24, v25, v26, v27, v28, v29, v30, v31, v32, v33, v34, v35, v36, v37, v38, v39, v40, v41, v42, v43, v44, v45, v46, v47, v48, v49, v50, v51, v52, v53, v54, v55, v56, v57, v58, v59, v60, .int .i64 ((2 : Nat) : Int), v62, v63, v64, v65, v66, v67, v68, v69, v70, v71, v72, v73, v74, v75, v76, v77, v78, v79, v80, v81, v82, v83, v84, v85, v86, v87, v88, v89, v90, v91, v92, v93, v94, v95, v96, v97, v98, v99, v100, v101, v102, v103, v104, v105, v106, v107, v108, v109, v110, v111, v112, v113, v114, v115, v116, v117, v118, v119, v120, v121, v122, v123, v124, v125, v126, v127, v128, v129, v130, v131, v132, v133, v134, v135, v136, v137, v138, v139, v140, v141, v142, v143, v144, v145, v146, v147, v148, v149, v150, v151, v152, v153, v154, v155, v156, v157, v158, v159, v160, v161, v162, v163, v164, v165, v166, v167, v168, v169, v170, v171, v172, v173, v174, v175, v176, v177, v178], []⟩ w6 := by
  have hps : (ps.length : Int) ≤ 60 := by have := X5.out.1.lps; omega
  have hqs : (qs.length : Int) ≤ 60 := by have := X5.out.1.lqs; omega
  have HKM := Lib.hid hkm
  clear hkm
  have kc0 : w6.cell? ⟨cb, 0, none⟩ = some (.int .i64 kd) := X5.out.2.cells.1
  have kc1 : w6.cell? ⟨cb, 1, none⟩ = some (.int .i64 nn) := X5.out.2.cells.2.1
  have kc2 : w6.cell? ⟨cb, 2, none⟩ = some (.slice aq bs.length cq) := X5.out.2.cells.2.2
  conv => arg 2; arg 2; whnf
  by_cases h64 : 64 < bs.length
  · have h64' : (64 : Int) < (bs.length : Int) := by omega
    clear h64
    go_upto_region 9999 with (fail)
    first | (refine hC _ _ ?_) | skip
    (repeat apply Exists.intro)
    exact ⟨X5.out.1.mono.pack, rfl⟩
  · have h64' : ¬ (64 : Int) < (bs.length : Int) := by omega
    have H64 : Hid (bs.length ≤ 64) := Lib.hid (by omega)
    clear h64
    go_upto_region 29 with (fail)
    refine wp_region_held_drew (S := fun w' => w'.cell? ⟨cb, 2, none⟩ = some (.slice aq bs.length cq) ∧ (convert 22 9 (.slice aq bs.length cq)).run Try.prog w' = .ok (.string (strB bs)) w') (by kernel_rfl) ⟨kc2, conv_Z X5.out.2.reads⟩ (fun hHeld => ?_)
    have qS := hHeld
    clear hHeld
    refine wpAnyH_take (i := 1) (oi := { dst := some 114, op := Op.move (.tmp 11), type := 47, pos := "law.go:216", after := #[], guard := none }) (v := ?_) rfl (by kernel_rfl) (by kernel_rfl) (by kernel_rfl) (fun _ _ _ h => hP _ _ _ _ _ h) (Or.inl ⟨by rfl, ?_⟩) qS ?_
    rotate_left
    · intro w hSw
      (try dsimp only at hSw)
      go_simp
      all_goals with_reducible rfl
    simp only [Act.put, List.setIfInBounds_toArray, List.set_cons_zero, List.set_cons_succ]
    refine wpAnyH_take (i := 3) (oi := { dst := some 116, op := Op.fieldAddr 49 (.tmp 18) 2, type := 0, pos := "law.go:216", after := #[{ on := 6, ground := .gcOnly .lateStores }], guard := none }) (v := ?_) rfl (by kernel_rfl) (by kernel_rfl) (by kernel_rfl) (fun _ _ _ h => hP _ _ _ _ _ h) (Or.inl ⟨by rfl, ?_⟩) qS ?_
    rotate_left
    · intro w hSw
      (try dsimp only at hSw)
      go_simp
      all_goals with_reducible rfl
    simp only [Act.put, List.setIfInBounds_toArray, List.set_cons_zero, List.set_cons_succ]
    refine wpAnyH_take (i := 4) (oi := { dst := some 117, op := Op.load 22 (.tmp 116), type := 22, pos := "law.go:216", after := #[{ on := 3, ground := .data }, { on := 6, ground := .gcOnly .lateStores }], guard := none }) (v := ?_) rfl (by kernel_rfl) (by kernel_rfl) (by kernel_rfl) (fun _ _ _ h => hP _ _ _ _ _ h) (Or.inl ⟨by rfl, ?_⟩) qS ?_
    rotate_left
    · intro w hSw
      (try dsimp only at hSw)
      go_simp
      all_goals with_reducible rfl
    simp only [Act.put, List.setIfInBounds_toArray, List.set_cons_zero, List.set_cons_succ]
    refine wpAnyH_take (i := 5) (oi := { dst := some 118, op := Op.convert 22 9 (.tmp 117), type := 9, pos := "law.go:216", after := #[{ on := 4, ground := .data }, { on := 6, ground := .gcOnly .lateStores }], guard := none }) (v := ?_) rfl (by kernel_rfl) (by kernel_rfl) (by kernel_rfl) (fun _ _ _ h => hP _ _ _ _ _ h) (Or.inl ⟨by rfl, ?_⟩) qS ?_
    rotate_left
    · intro w hSw
      (try dsimp only at hSw)
      go_simp
      all_goals with_reducible rfl
    simp only [Act.put, List.setIfInBounds_toArray, List.set_cons_zero, List.set_cons_succ]
    refine H_one (i := 0) (o := { dst := some 113, op := Op.buildSlice 47 0 #[], type := 47, pos := "law.go:216", after := #[], guard := none }) (by kernel_rfl) rfl (fun K hK => ?_)
    go_simp
    have hY : Below w6.heap.size w6 (w6.drew.alloc (.cells #[] 51)) := (Below.refl _ w6).drew.trans (below_any w6.drew _)
    refine hK.out _ _ ⟨(X5.out.2.below hY).cells.2.2, conv_Z (X5.out.2.below hY).reads⟩ ?_
    clear hK K
    (try simp only [Act.put, List.setIfInBounds_toArray, List.set_cons_zero, List.set_cons_succ])
    refine H_one (i := 2) (o := { dst := some 115, op := Op.call { callee := Callee.builtin Builtin.append, args := #[.tmp 113, .tmp 114], argTypes := #[47, 47] }, type := 47, pos := "law.go:216", after := #[{ on := 0, ground := .data }, { on := 1, ground := .data }], guard := none }) (by kernel_rfl) rfl (fun K hK => ?_)
    refine step_copy_pages w6.drew rfl (.tmp 113) (.tmp 114) rfl rfl rfl w.heap.size (.slice a11 ps.length c11) ps rfl X5.out.1.two.ra (by have := hps; omega) ?_
    intro a8 c8 w8 hrow hB
    have hB8 : Below w6.heap.size w6 w8 := (Below.refl _ w6).drew.trans hB
    have X8 : Hid (PRow w8 w6.heap.size (.slice a8 ps.length c8) ps ∧ Below w6.heap.size w6 w8) := Lib.hid ⟨hrow, hB8⟩
    refine hK.out _ _ ⟨(X5.out.2.below hB8).cells.2.2, conv_Z (X5.out.2.below hB8).reads⟩ ?_
    clear hK K hrow hB hB8 hY qS
    (try simp only [Act.put, List.setIfInBounds_toArray, List.set_cons_zero, List.set_cons_succ])
    have qS : w8.cell? ⟨cb, 2, none⟩ = some (.slice aq bs.length cq) ∧ (convert 22 9 (.slice aq bs.length cq)).run Try.prog w8 = .ok (.string (strB bs)) w8 := ⟨(X5.out.2.below X8.out.2).cells.2.2, conv_Z (X5.out.2.below X8.out.2).reads⟩
    refine wpAnyH_take (i := 6) (oi := { dst := some 13, op := Op.assign (.tmp 115), type := 47, pos := "law.go:216", after := #[{ on := 2, ground := .data }, { on := 2, ground := .chain }, { on := 0, ground := .phase }, { on := 1, ground := .phase }, { on := 2, ground := .phase }, { on := 3, ground := .textOnly .lateStores }, { on := 4, ground := .textOnly .lateStores }, { on := 5, ground := .textOnly .lateStores }], guard := none }) (v := ?_) rfl (by kernel_rfl) (by kernel_rfl) (by kernel_rfl) (fun _ _ _ h => hP _ _ _ _ _ h) (Or.inl ⟨by rfl, ?_⟩) qS ?_
    rotate_left
    · intro w hSw
      (try dsimp only at hSw)
      go_simp
      all_goals with_reducible rfl
    simp only [Act.put, List.setIfInBounds_toArray, List.set_cons_zero, List.set_cons_succ]
    refine wpAnyH_take (i := 7) (oi := { dst := some 15, op := Op.assign (.tmp 118), type := 9, pos := "law.go:216", after := #[{ on := 5, ground := .data }, { on := 6, ground := .chain }, { on := 0, ground := .phase }, { on := 1, ground := .phase }, { on := 2, ground := .phase }, { on := 3, ground := .phase }, { on := 4, ground := .phase }, { on := 5, ground := .phase }, { on := 6, ground := .phase }], guard := none }) (v := ?_) rfl (by kernel_rfl) (by kernel_rfl) (by kernel_rfl) (fun _ _ _ h => hP _ _ _ _ _ h) (Or.inl ⟨by rfl, ?_⟩) qS ?_
    rotate_left
    · intro w hSw
      (try dsimp only at hSw)
      go_simp
      all_goals with_reducible rfl
    simp only [Act.put, List.setIfInBounds_toArray, List.set_cons_zero, List.set_cons_succ]
    refine wpAnyH_done (by kernel_rfl) ?_ _
    have X9 : Hid (CrS w w8 k pb4 db (.slice a11 ps.length c11) ps (.slice a12 qs.length c12) qs rt F4 G4 D4 S4 C4 ∧ Cl2 w w8 pb4 db F4 G4 D4 S4 C4 (.slice a11 ps.length c11) ps (.slice a8 ps.length c8) ps ∧ CAt w w8 F4 G4 (.slice a11 ps.length c11) (.slice a12 qs.length c12) cb ⟨kd, nn, .slice aq bs.length cq, bs⟩) := Lib.hid ⟨X5.out.1.below X8.out.2, X5.out.1.two.newD X8.out.1 X8.out.2, X5.out.2.below X8.out.2⟩
    have kc8 : w8.cell? ⟨cb, 2, none⟩ = some (.slice aq bs.length cq) := X9.out.2.2.cells.2.2
    have HSQ : Hid (C4.seq + 1 < 1000000000000000000) := Lib.hid (by have := X9.out.1.seq; have := HKM.out; omega)
    clear kc0 kc1 kc2 qS
    go_upto_region 9999 with (go_at_call 13; go_must (refine (uc_commit X9.out.1.two.up aq cq bs X9.out.2.2.reads H64.out (X9.out.2.2.farZ X9.out.1.two.up.own) HSQ.out).mono ?_; rintro e w9 ⟨F9, G9, D9, hm, ⟨rfl, hup⟩ | ⟨rfl, hde, hd⟩⟩; all_goals (first | (have XA := Lib.hid (X9.out.1.commit X9.out.2.1 hup hm); clear hup hm) | (have XD := Lib.hid (And.intro (X9.out.1.died hd hm (by have := HKM.out; omega)) hde); clear hde hd hm)); all_goals (try dsimp only)))
    · first | (refine hN _ _ ?_) | skip
      (repeat apply Exists.intro)
      first | exact ⟨XA.out.pack, rfl⟩ | exact ⟨XD.out.1.dies XD.out.2, rfl⟩
    · first | (refine hN _ _ ?_) | skip
      (repeat apply Exists.intro)
      first | exact ⟨XD.out.1.dies XD.out.2, rfl⟩ | exact ⟨XA.out.pack, rfl⟩

set_option maxHeartbeats 12800000 in
set_option maxRecDepth 100000 in
theorem crash_arm3 {w w6 : World} {k db pb4 cb : Nat} {a11 a12 aq : Option Addr} {c11 c12 cq : Nat} {ps qs : List PageD} {rt bs : List UInt8} {kd nn : Int} {F4 G4 : Nat → Prop} {D4 : DiskS} {S4 : PgS} {C4 : Comm}
    {v0 v1 v2 v3 v4 v5 v6 v8 v10 v13 v15 v16 v17 v19 v20 v21 v22 v23 v24 v25 v26 v27 v28 v29 v30 v31 v32 v33 v34 v35 v36 v37 v38 v39 v40 v41 v42 v43 v44 v45 v46 v47 v48 v49 v50 v51 v52 v53 v54 v55 v56 v57 v58 v59 v60 v62 v63 v64 v65 v66 v67 v68 v69 v70 v71 v72 v73 v74 v75 v76 v77 v78 v79 v80 v81 v82 v83 v84 v85 v86 v87 v88 v89 v90 v91 v92 v93 v94 v95 v96 v97 v98 v99 v100 v101 v102 v103 v104 v105 v106 v107 v108 v109 v110 v111 v112 v113 v114 v115 v116 v117 v118 v119 v120 v121 v122 v123 v124 v125 v126 v127 v128 v129 v130 v131 v132 v133 v134 v135 v136 v137 v138 v139 v140 v141 v142 v143 v144 v145 v146 v147 v148 v149 v150 v151 v152 v153 v154 v155 v156 v157 v158 v159 v160 v161 v162 v163 v164 v165 v166 v167 v168 v169 v170 v171 v172 v173 v174 v175 v176 v177 v178 : Value}
    (hkm : k < 60)
    (X5 : Hid (CrS w w6 k pb4 db (.slice a11 ps.length c11) ps (.slice a12 qs.length c12) qs rt F4 G4 D4 S4 C4 ∧ CAt w w6 F4 G4 (.slice a11 ps.length c11) (.slice a12 qs.length c12) cb ⟨kd, nn, .slice aq bs.length cq, bs⟩))
    {Q : Exit → Act → World → Prop}
    (hN : ∀ a' w', (∃ u11 u12 u13 u14 u15 u16 u19 u20 u21 u62 u63 u64 u65 u66 u67 u68 u69 u70 u71 u72 u73 u74 u75 u76 u77 u78 u79 u80 u81 u82 u83 u84 u85 u86 u87 u88 u89 u90 u91 u92 u93 u94 u95 u96 u97 u98 u99 u100 u101 u102 u103 u104 u105 u106 u107 u108 u109 u110 u111 u112 u113 u114 u115 u116 u117 u118 u119 u120 u121 u122 u123 u124 u125 u126 u127 u128 u129 u130 u131 u132 u133 u134 u135 : Value, CrE w w' (k + 1) db (.pointer (some ⟨pb4, 0, none⟩)) u11 u12 u14 ∧ a' = ⟨#[v0, v1, v2, v3, v4, v5, v6, .pointer (some ⟨db, 0, none⟩), v8, .pointer (some ⟨pb4, 0, none⟩), v10, u11, u12, u13, u14, u15, u16, v17, .pointer (some ⟨cb, 0, none⟩), u19, u20, u21, v22, v23, v24, v25, v26, v27, v28, v29, v30, v31, v32, v33, v34, v35, v36, v37, v38, v39, v40, v41, v42, v43, v44, v45, v46, v47, v48, v49, v50, v51, v52, v53, v54, v55, v56, v57, v58, v59, v60, .int .i64 ((3 : Nat) : Int), u62, u63, u64, u65, u66, u67, u68, u69, u70, u71, u72, u73, u74, u75, u76, u77, u78, u79, u80, u81, u82, u83, u84, u85, u86, u87, u88, u89, u90, u91, u92, u93, u94, u95, u96, u97, u98, u99, u100, u101, u102, u103, u104, u105, u106, u107, u108, u109, u110, u111, u112, u113, u114, u115, u116, u117, u118, u119, u120, u121, u122, u123, u124, u125, u126, u127, u128, u129, u130, u131, u132, u133, u134, u135, v136, v137, v138, v139, v140, v141, v142, v143, v144, v145, v146, v147, v148, v149, v150, v151, v152, v153, v154, v155, v156, v157, v158, v159, v160, v161, v162, v163, v164, v165, v166, v167, v168, v169, v170, v171, v172, v173, v174, v175, v176, v177, v178], []⟩) → Q .normal a' w')
    (hC : ∀ a' w', (∃ u11 u12 u13 u14 u15 u16 u19 u20 u21 u62 u63 u64 u65 u66 u67 u68 u69 u70 u71 u72 u73 u74 u75 u76 u77 u78 u79 u80 u81 u82 u83 u84 u85 u86 u87 u88 u89 u90 u91 u92 u93 u94 u95 u96 u97 u98 u99 u100 u101 u102 u103 u104 u105 u106 u107 u108 u109 u110 u111 u112 u113 u114 u115 u116 u117 u118 u119 u120 u121 u122 u123 u124 u125 u126 u127 u128 u129 u130 u131 u132 u133 u134 u135 : Value, CrE w w' (k + 1) db (.pointer (some ⟨pb4, 0, none⟩)) u11 u12 u14 ∧ a' = ⟨#[v0, v1, v2, v3, v4, v5, v6, .pointer (some ⟨db, 0, none⟩), v8, .pointer (some ⟨pb4, 0, none⟩), v10, u11, u12, u13, u14, u15, u16, v17, .pointer (some ⟨cb, 0, none⟩), u19, u20, u21, v22, v23, v24, v25, v26, v27, v28, v29, v30, v31, v32, v33, v34, v35, v36, v37, v38, v39, v40, v41, v42, v43, v44, v45, v46, v47, v48, v49, v50, v51, v52, v53, v54, v55, v56, v57, v58, v59, v60, .int .i64 ((3 : Nat) : Int), u62, u63, u64, u65, u66, u67, u68, u69, u70, u71, u72, u73, u74, u75, u76, u77, u78, u79, u80, u81, u82, u83, u84, u85, u86, u87, u88, u89, u90, u91, u92, u93, u94, u95, u96, u97, u98, u99, u100, u101, u102, u103, u104, u105, u106, u107, u108, u109, u110, u111, u112, u113, u114, u115, u116, u117, u118, u119, u120, u121, u122, u123, u124, u125, u126, u127, u128, u129, u130, u131, u132, u133, u134, u135, v136, v137, v138, v139, v140, v141, v142, v143, v144, v145, v146, v147, v148, v149, v150, v151, v152, v153, v154, v155, v156, v157, v158, v159, v160, v161, v162, v163, v164, v165, v166, v167, v168, v169, v170, v171, v172, v173, v174, v175, v176, v177, v178], []⟩) → Q (.exit 1) a' w')
    (hP : ∀ c (a : Act) d v w, Q (.panic c) (a.put d v) w → Q (.panic c) a w) :
    Code.wp Try.prog (Code.block 2 crashSw) Q ⟨#[v0, v1, v2, v3, v4, v5, v6, .pointer (some ⟨db, 0, none⟩), v8, .pointer (some ⟨pb4, 0, none⟩), v10, .slice a11 ps.length c11, .slice a12 qs.length c12, v13, .string (strB rt), v15, v16, v17, .pointer (some ⟨cb, 0, none⟩), v19, v20, v21, v22, v23, v24, v25, v26, v27, v28, v29, v30, v31, v32, v33, v34, v35, v36, v37, v38, v39, v40, v41, v42, v43, v44, v45, v46, v47, v48, v49, v50, v51, v52, v53, v54, v55, v56, v57, v58, v59, v60, .int .i64 ((3 : Nat) : Int), v62, v63, v64, v65, v66, v67, v68, v69, v70, v71, v72, v73, v74, v75, v76, v77, v78, v79, v80, v81, v82, v83, v84, v85, v86, v87, v88, v89, v90, v91, v92, v93, v94, v95, v96, v97, v98, v99, v100, v101, v102, v103, v104, v105, v106, v107, v108, v109, v110, v111, v112, v113, v114, v115, v116, v117, v118, v119, v120, v121, v122, v123, v124, v125, v126, v127, v128, v129, v130, v131, v132, v133, v134, v135, v136, v137, v138, v139, v140, v141, v142, v143, v144, v145, v146, v147, v148, v149, v150, v151, v152, v153, v154, v155, v156, v157, v158, v159, v160, v161, v162, v163, v164, v165, v166, v167, v168, v169, v170, v171, v172, v173, v174, v175, v176, v177, v178], []⟩ w6 := by
  have hps : (ps.length : Int) ≤ 60 := by have := X5.out.1.lps; omega
  have hqs : (qs.length : Int) ≤ 60 := by have := X5.out.1.lqs; omega
  have HKM := Lib.hid hkm
  clear hkm
  have kc0 : w6.cell? ⟨cb, 0, none⟩ = some (.int .i64 kd) := X5.out.2.cells.1
  have kc1 : w6.cell? ⟨cb, 1, none⟩ = some (.int .i64 nn) := X5.out.2.cells.2.1
  have kc2 : w6.cell? ⟨cb, 2, none⟩ = some (.slice aq bs.length cq) := X5.out.2.cells.2.2
  conv => arg 2; arg 2; whnf
  by_cases h64 : 64 < bs.length
  · have h64' : (64 : Int) < (bs.length : Int) := by omega
    clear h64
    go_upto_region 9999 with (fail)
    first | (refine hC _ _ ?_) | skip
    (repeat apply Exists.intro)
    exact ⟨X5.out.1.mono.pack, rfl⟩
  · have h64' : ¬ (64 : Int) < (bs.length : Int) := by omega
    have H64 : Hid (bs.length ≤ 64) := Lib.hid (by omega)
    clear h64
    go_upto_region 29 with (fail)
    refine wp_region_held_drew (S := fun w' => w'.cell? ⟨cb, 2, none⟩ = some (.slice aq bs.length cq) ∧ (convert 22 9 (.slice aq bs.length cq)).run Try.prog w' = .ok (.string (strB bs)) w') (by kernel_rfl) ⟨kc2, conv_Z X5.out.2.reads⟩ (fun hHeld => ?_)
    have qS := hHeld
    clear hHeld
    refine wpAnyH_take (i := 1) (oi := { dst := some 114, op := Op.move (.tmp 11), type := 47, pos := "law.go:216", after := #[], guard := none }) (v := ?_) rfl (by kernel_rfl) (by kernel_rfl) (by kernel_rfl) (fun _ _ _ h => hP _ _ _ _ _ h) (Or.inl ⟨by rfl, ?_⟩) qS ?_
    rotate_left
    · intro w hSw
      (try dsimp only at hSw)
      go_simp
      all_goals with_reducible rfl
    simp only [Act.put, List.setIfInBounds_toArray, List.set_cons_zero, List.set_cons_succ]
    refine wpAnyH_take (i := 3) (oi := { dst := some 116, op := Op.fieldAddr 49 (.tmp 18) 2, type := 0, pos := "law.go:216", after := #[{ on := 6, ground := .gcOnly .lateStores }], guard := none }) (v := ?_) rfl (by kernel_rfl) (by kernel_rfl) (by kernel_rfl) (fun _ _ _ h => hP _ _ _ _ _ h) (Or.inl ⟨by rfl, ?_⟩) qS ?_
    rotate_left
    · intro w hSw
      (try dsimp only at hSw)
      go_simp
      all_goals with_reducible rfl
    simp only [Act.put, List.setIfInBounds_toArray, List.set_cons_zero, List.set_cons_succ]
    refine wpAnyH_take (i := 4) (oi := { dst := some 117, op := Op.load 22 (.tmp 116), type := 22, pos := "law.go:216", after := #[{ on := 3, ground := .data }, { on := 6, ground := .gcOnly .lateStores }], guard := none }) (v := ?_) rfl (by kernel_rfl) (by kernel_rfl) (by kernel_rfl) (fun _ _ _ h => hP _ _ _ _ _ h) (Or.inl ⟨by rfl, ?_⟩) qS ?_
    rotate_left
    · intro w hSw
      (try dsimp only at hSw)
      go_simp
      all_goals with_reducible rfl
    simp only [Act.put, List.setIfInBounds_toArray, List.set_cons_zero, List.set_cons_succ]
    refine wpAnyH_take (i := 5) (oi := { dst := some 118, op := Op.convert 22 9 (.tmp 117), type := 9, pos := "law.go:216", after := #[{ on := 4, ground := .data }, { on := 6, ground := .gcOnly .lateStores }], guard := none }) (v := ?_) rfl (by kernel_rfl) (by kernel_rfl) (by kernel_rfl) (fun _ _ _ h => hP _ _ _ _ _ h) (Or.inl ⟨by rfl, ?_⟩) qS ?_
    rotate_left
    · intro w hSw
      (try dsimp only at hSw)
      go_simp
      all_goals with_reducible rfl
    simp only [Act.put, List.setIfInBounds_toArray, List.set_cons_zero, List.set_cons_succ]
    refine H_one (i := 0) (o := { dst := some 113, op := Op.buildSlice 47 0 #[], type := 47, pos := "law.go:216", after := #[], guard := none }) (by kernel_rfl) rfl (fun K hK => ?_)
    go_simp
    have hY : Below w6.heap.size w6 (w6.drew.alloc (.cells #[] 51)) := (Below.refl _ w6).drew.trans (below_any w6.drew _)
    refine hK.out _ _ ⟨(X5.out.2.below hY).cells.2.2, conv_Z (X5.out.2.below hY).reads⟩ ?_
    clear hK K
    (try simp only [Act.put, List.setIfInBounds_toArray, List.set_cons_zero, List.set_cons_succ])
    refine H_one (i := 2) (o := { dst := some 115, op := Op.call { callee := Callee.builtin Builtin.append, args := #[.tmp 113, .tmp 114], argTypes := #[47, 47] }, type := 47, pos := "law.go:216", after := #[{ on := 0, ground := .data }, { on := 1, ground := .data }], guard := none }) (by kernel_rfl) rfl (fun K hK => ?_)
    refine step_copy_pages w6.drew rfl (.tmp 113) (.tmp 114) rfl rfl rfl w.heap.size (.slice a11 ps.length c11) ps rfl X5.out.1.two.ra (by have := hps; omega) ?_
    intro a8 c8 w8 hrow hB
    have hB8 : Below w6.heap.size w6 w8 := (Below.refl _ w6).drew.trans hB
    have X8 : Hid (PRow w8 w6.heap.size (.slice a8 ps.length c8) ps ∧ Below w6.heap.size w6 w8) := Lib.hid ⟨hrow, hB8⟩
    refine hK.out _ _ ⟨(X5.out.2.below hB8).cells.2.2, conv_Z (X5.out.2.below hB8).reads⟩ ?_
    clear hK K hrow hB hB8 hY qS
    (try simp only [Act.put, List.setIfInBounds_toArray, List.set_cons_zero, List.set_cons_succ])
    have qS : w8.cell? ⟨cb, 2, none⟩ = some (.slice aq bs.length cq) ∧ (convert 22 9 (.slice aq bs.length cq)).run Try.prog w8 = .ok (.string (strB bs)) w8 := ⟨(X5.out.2.below X8.out.2).cells.2.2, conv_Z (X5.out.2.below X8.out.2).reads⟩
    refine wpAnyH_take (i := 6) (oi := { dst := some 13, op := Op.assign (.tmp 115), type := 47, pos := "law.go:216", after := #[{ on := 2, ground := .data }, { on := 2, ground := .chain }, { on := 0, ground := .phase }, { on := 1, ground := .phase }, { on := 2, ground := .phase }, { on := 3, ground := .textOnly .lateStores }, { on := 4, ground := .textOnly .lateStores }, { on := 5, ground := .textOnly .lateStores }], guard := none }) (v := ?_) rfl (by kernel_rfl) (by kernel_rfl) (by kernel_rfl) (fun _ _ _ h => hP _ _ _ _ _ h) (Or.inl ⟨by rfl, ?_⟩) qS ?_
    rotate_left
    · intro w hSw
      (try dsimp only at hSw)
      go_simp
      all_goals with_reducible rfl
    simp only [Act.put, List.setIfInBounds_toArray, List.set_cons_zero, List.set_cons_succ]
    refine wpAnyH_take (i := 7) (oi := { dst := some 15, op := Op.assign (.tmp 118), type := 9, pos := "law.go:216", after := #[{ on := 5, ground := .data }, { on := 6, ground := .chain }, { on := 0, ground := .phase }, { on := 1, ground := .phase }, { on := 2, ground := .phase }, { on := 3, ground := .phase }, { on := 4, ground := .phase }, { on := 5, ground := .phase }, { on := 6, ground := .phase }], guard := none }) (v := ?_) rfl (by kernel_rfl) (by kernel_rfl) (by kernel_rfl) (fun _ _ _ h => hP _ _ _ _ _ h) (Or.inl ⟨by rfl, ?_⟩) qS ?_
    rotate_left
    · intro w hSw
      (try dsimp only at hSw)
      go_simp
      all_goals with_reducible rfl
    simp only [Act.put, List.setIfInBounds_toArray, List.set_cons_zero, List.set_cons_succ]
    refine wpAnyH_done (by kernel_rfl) ?_ _
    have X9 : Hid (CrS w w8 k pb4 db (.slice a11 ps.length c11) ps (.slice a12 qs.length c12) qs rt F4 G4 D4 S4 C4 ∧ Cl2 w w8 pb4 db F4 G4 D4 S4 C4 (.slice a11 ps.length c11) ps (.slice a8 ps.length c8) ps ∧ CAt w w8 F4 G4 (.slice a11 ps.length c11) (.slice a12 qs.length c12) cb ⟨kd, nn, .slice aq bs.length cq, bs⟩) := Lib.hid ⟨X5.out.1.below X8.out.2, X5.out.1.two.newD X8.out.1 X8.out.2, X5.out.2.below X8.out.2⟩
    have kc8 : w8.cell? ⟨cb, 2, none⟩ = some (.slice aq bs.length cq) := X9.out.2.2.cells.2.2
    have HSQ : Hid (C4.seq + 1 < 1000000000000000000) := Lib.hid (by have := X9.out.1.seq; have := HKM.out; omega)
    clear kc0 kc1 kc2 qS
    go_upto_region 9999 with (go_at_call 13; go_must (refine (uc_commit X9.out.1.two.up aq cq bs X9.out.2.2.reads H64.out (X9.out.2.2.farZ X9.out.1.two.up.own) HSQ.out).mono ?_; rintro e w9 ⟨F9, G9, D9, hm, ⟨rfl, hup⟩ | ⟨rfl, hde, hd⟩⟩; all_goals (first | (have XA := Lib.hid (X9.out.1.commit X9.out.2.1 hup hm); clear hup hm) | (have XD := Lib.hid (And.intro (X9.out.1.died hd hm (by have := HKM.out; omega)) hde); clear hde hd hm)); all_goals (try dsimp only)))
    · first | (refine hN _ _ ?_) | skip
      (repeat apply Exists.intro)
      first | exact ⟨XA.out.pack, rfl⟩ | exact ⟨XD.out.1.dies XD.out.2, rfl⟩
    · first | (refine hN _ _ ?_) | skip
      (repeat apply Exists.intro)
      first | exact ⟨XD.out.1.dies XD.out.2, rfl⟩ | exact ⟨XA.out.pack, rfl⟩
end Go.Proofs.Ytjbomdhlfjcgmaa
