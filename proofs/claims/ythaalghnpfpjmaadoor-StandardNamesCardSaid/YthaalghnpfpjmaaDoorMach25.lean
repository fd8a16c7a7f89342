import Derived.Test.YthaalghnpfpjmaaDoorProg
import Derived.Test.YthaalghnpfpjmaaDoorMach24
set_option linter.all false
set_option linter.unusedVariables false
set_option linter.unusedSimpArgs false
set_option maxRecDepth 100000
namespace Go.Sv
open Go.RowKit Go.Proofs
attribute [local irreducible] row pts star blk emp fact any attrsOf machAt tagAt

namespace FMach25
theorem cb_4 : callB Tryd.prog 4 = true := by kernel_rfl
theorem cb_5 : callB Tryd.prog 5 = true := by kernel_rfl
theorem cb_6 : callB Tryd.prog 6 = true := by kernel_rfl
theorem cb_7 : callB Tryd.prog 7 = true := by kernel_rfl
theorem el_22 : elemB Tryd.prog 22 3 1 8 = true := by kernel_rfl
theorem el_26 : elemB Tryd.prog 26 24 1 8 = true := by kernel_rfl
theorem sc_24 : scalarB Tryd.prog 24 = true := by kernel_rfl
theorem sc_3 : scalarB Tryd.prog 3 = true := by kernel_rfl
theorem sl_22 : sliceB Tryd.prog 22 3 1 = true := by kernel_rfl
theorem sl_26 : sliceB Tryd.prog 26 24 1 = true := by kernel_rfl
end FMach25
open FMach25
def l1 (k : Int) : List Int := [k, 0, 1, 2, 3, 4, 5, 6, 7, 8, 9, 10, 11, 12, 13, 14, 15, 16, 17, 18, 19, 20, 21, 22, 23, 24, -1]
def l2 : List Int := [0, 1, 2, 3, 4, 5, 6, 7, 8, 9, 10, 11, 12, 13, 14, 15, 16, 17, 18, 19, 20, 21, 22, 23]
theorem l1_at (k : Int) {i : Nat} (h : i < 27) : ∃ x, ((l1 k).map (Value.int .i64))[0 + i * 1]? = some (.int .i64 x) := by
  have hl : i < (l1 k).length := h
  exact ⟨(l1 k)[i], by rw [show 0 + i * 1 = i by omega, List.getElem?_map, List.getElem?_eq_getElem hl]; rfl⟩
theorem l2_at {i : Nat} (h : i < 24) : (l2.map (Value.int .i64))[0 + i * 1]? = some (.int .i64 (i : Int)) := by
  rw [show 0 + i * 1 = i by omega, List.getElem?_map, (by decide : ∀ j : Fin 24, l2[j.val]? = some (j.val : Int)) ⟨i, h⟩]
  rfl
theorem ints_cells (l : List Int) : ∀ v ∈ l.map (Value.int .i64), v.cells = #[v] := by
  intro v hv
  obtain ⟨x, _, rfl⟩ := List.mem_map.1 hv
  rfl

set_option maxHeartbeats 2000000 in
theorem law_c (G : HProp) (hX : MaxG G) (hAG : AscG G) (hW : WinG G) (k : Int) : Fm Tryd.prog 3 [.int .i64 k] G (.bool true) G := by
  intro β w0 F0 hM0
  refine enter Tryd.func3 (by rfl) 38 rfl rfl fun a0 Q hE0 hQ hN hP => ?_
  refine wp_seq_k fun K0 hK0 => ?_
  refine wp_region_lit ?_
  refine one fun C hC => val hE0 (R.assign hE0 rfl) rfl fun a1 hE1 => hC _ _ ?_
  clear hC C
  clear hE0 a0
  refine wpList_nil (hK0 _ _ ?_)
  clear hK0 K0
  replace hE1 := hE1.keep (E' := [(0, _), (2, _)]) ⟨rfl, rfl, trivial⟩
  refine wp_seq_k fun K1 hK1 => ?_
  refine wp_seq_k fun K2 hK2 => ?_
  refine wp_region_lit ?_
  refine one fun C hC => val hE1 (R.move hE1 rfl) rfl fun a2 hE2 => hC _ _ ?_
  clear hC C
  clear hE1 a1
  refine one fun C hC => litN (vs := (l1 k).map (Value.int .i64)) hE2 hM0 el_22 rfl (ints_cells _) rfl (by decide) (by decide) rfl fun b9 a3 w1 hE3 hM1 => hC _ _ ?_
  clear hC C hE2 hM0 a2
  refine one fun C hC => val hE3 (R.lenSlice hE3 3 1 sl_22 rfl) rfl fun a4 hE4 => hC _ _ ?_
  clear hC C
  clear hE3 a3
  refine one fun C hC => val hE4 (R.move hE4 rfl) rfl fun a5 hE5 => hC _ _ ?_
  clear hC C
  clear hE4 a4
  refine wpList_nil (hK2 _ _ ?_)
  clear hK2 K2
  replace hE5 := hE5.keep (E' := [(0, _), (2, _), (9, _), (10, _), (11, _)]) ⟨rfl, rfl, rfl, rfl, rfl, trivial⟩
  refine wp_block ?_
  refine loopR (σ := Nat) (fun i a w => Env 38 [] a [(9, .slice (some ⟨b9, 0, none⟩) 27 27), (10, .int .i64 27), (11, .int .i64 i)] ∧ Mem β w (star (pts b9 3 ((l1 k).map (Value.int .i64))) (star G F0)) ∧ True) (fun i => 27 - i) 0 ?_ ?_
  · exact ⟨hE5.keep (by refine ⟨?_, ?_, ?_, trivial⟩ <;> first | rfl | exact eqInt (by omega)), hM1.cast (by first | rfl | ac_rfl), trivial⟩
  · clear hE5 hM1 a5
    rintro i a6 w2 ⟨hE6, hM2, -⟩ K hK
    try dsimp only at hE6 hM2
    have hK3 : ∀ a w, K a w → K a w := fun _ _ h => h
    refine wp_seq_k fun K4 hK4 => ?_
    refine wp_region_lit ?_
    refine one fun C hC => val hE6 (R.lss hE6 rfl rfl) rfl fun a7 hE7 => hC _ _ ?_
    clear hC C
    clear hE6 a6
    refine wpList_nil (hK4 _ _ ?_)
    clear hK4 K4
    replace hE7 := hE7.keep (E' := [(9, _), (10, _), (11, _), (12, _)]) ⟨rfl, rfl, rfl, rfl, trivial⟩
    refine wp_seq_k fun K5 hK5 => ?_
    refine condR hE7 rfl ?_ ?_
    · intro hb1
      have ht1 := hb1
      try simp only [decide_eq_true_eq, decide_eq_false_iff_not, Bool.not_eq_true', Bool.not_eq_false', beq_iff_eq, Bool.and_eq_true, Bool.or_eq_true] at ht1
      refine wp_skip (hK5 _ _ ?_)
      refine wp_seq_k fun K6 hK6 => ?_
      refine wp_block ?_
      refine wp_seq_k fun K7 hK7 => ?_
      obtain ⟨x, hx⟩ := l1_at k (i := i) (by omega)
      refine wp_region_lit ?_
      refine one fun C hC => val hE7 (R.index hE7 3 1 sl_22 rfl rfl i rfl (by omega)) rfl fun a8 hE8 => hC _ _ ?_
      clear hC C
      clear hE7 a7
      refine one fun C hC => val hE8 (R.load hE8 sc_3 rfl hM2 hx) rfl fun a9 hE9 => hC _ _ ?_
      clear hC C
      clear hE8 a8
      refine one fun C hC => val hE9 (R.assign hE9 rfl) rfl fun a10 hE10 => hC _ _ ?_
      clear hC C
      clear hE9 a9
      refine wpList_nil (hK7 _ _ ?_)
      clear hK7 K7
      replace hE10 := hE10.keep (E' := [(4, _), (9, _), (10, _), (11, _), (12, _)]) ⟨rfl, rfl, rfl, rfl, rfl, trivial⟩
      refine wp_seq_k fun K8 hK8 => ?_
      refine wp_region_lit ?_
      refine one fun C hC => val hE10 (R.move hE10 rfl) rfl fun a11 hE11 => hC _ _ ?_
      clear hC C
      clear hE10 a10
      refine one fun C hC => callF hE11 (name_c x) cb_4 rfl hM2 rfl  fun  a12 w3 hE12 hM3 => hC _ _ ?_
      clear hC C hE11 hM2 a11
      refine one fun C hC => val hE12 (R.move hE12 rfl) rfl fun a13 hE13 => hC _ _ ?_
      clear hC C
      clear hE12 a12
      refine one fun C hC => callF hE13 (refName_c x) cb_5 rfl hM3 rfl  fun  a14 w4 hE14 hM4 => hC _ _ ?_
      clear hC C hE13 hM3 a13
      refine one fun C hC => val hE14 (R.sneq hE14 rfl rfl) rfl fun a15 hE15 => hC _ _ ?_
      clear hC C
      clear hE14 a14
      refine wpList_nil (hK8 _ _ ?_)
      clear hK8 K8
      replace hE15 := hE15.keep (E' := [(4, _), (9, _), (10, _), (11, _), (12, _), (19, _)]) ⟨rfl, rfl, rfl, rfl, rfl, rfl, trivial⟩
      refine condR hE15 rfl ?_ ?_
      · intro hb2
        have ht2 := hb2
        try simp only [decide_eq_true_eq, decide_eq_false_iff_not, Bool.not_eq_true', Bool.not_eq_false', beq_iff_eq, Bool.and_eq_true, Bool.or_eq_true] at ht2
        exact absurd hb2 (by simp)
      · intro hb2
        have ht2 := hb2
        try simp only [decide_eq_true_eq, decide_eq_false_iff_not, Bool.not_eq_true', Bool.not_eq_false', beq_iff_eq, Bool.and_eq_true, Bool.or_eq_true] at ht2
        refine wp_skip (hK6 _ _ ?_)
        refine wp_region_lit ?_
        refine one fun C hC => val hE15 (R.add64 hE15 rfl rfl (by omega) (by omega)) rfl fun a16 hE16 => hC _ _ ?_
        clear hC C
        clear hE15 a15
        refine one fun C hC => val hE16 (R.move hE16 rfl) rfl fun a17 hE17 => hC _ _ ?_
        clear hC C
        clear hE16 a16
        replace hE17 := hE17.keep (E' := [(4, _), (9, _), (10, _), (11, _), (12, _), (19, _)]) ⟨rfl, rfl, rfl, rfl, rfl, rfl, trivial⟩
        refine wpList_nil (hK3 _ _ ?_)
        exact hK (i + 1) _ _ ⟨hE17.keep (by refine ⟨?_, ?_, ?_, trivial⟩ <;> first | rfl | exact eqInt (by push_cast; rfl)), hM4.cast (by first | rfl | ac_rfl), trivial⟩ (by omega)
    · intro hb1
      have ht1 := hb1
      try simp only [decide_eq_true_eq, decide_eq_false_iff_not, Bool.not_eq_true', Bool.not_eq_false', beq_iff_eq, Bool.and_eq_true, Bool.or_eq_true] at ht1
      refine wp_exit (exitThen (exitThen (exitIn ?_)))
      refine hK1 _ _ ?_
      refine wp_seq_k fun K9 hK9 => ?_
      replace hM2 := hM2.cutB b9
      refine wp_region_lit ?_
      refine one fun C hC => litN (vs := l2.map (Value.int .i64)) hE7 hM2 el_26 rfl (ints_cells _) rfl (by decide) (by decide) rfl fun b21 a8 w3 hE8 hM3 => hC _ _ ?_
      clear hC C hE7 hM2 a7
      refine one fun C hC => val hE8 (R.assign hE8 rfl) rfl fun a9 hE9 => hC _ _ ?_
      clear hC C
      clear hE8 a8
      refine wpList_nil (hK9 _ _ ?_)
      clear hK9 K9
      replace hE9 := hE9.keep (E' := [(5, _), (9, _), (10, _), (11, _), (12, _)]) ⟨rfl, rfl, rfl, rfl, rfl, trivial⟩
      refine wp_seq_k fun K10 hK10 => ?_
      refine wp_seq_k fun K11 hK11 => ?_
      refine wp_region_lit ?_
      refine one fun C hC => val hE9 (R.move hE9 rfl) rfl fun a10 hE10 => hC _ _ ?_
      clear hC C
      clear hE9 a9
      refine one fun C hC => val hE10 (R.lenSlice hE10 24 1 sl_26 rfl) rfl fun a11 hE11 => hC _ _ ?_
      clear hC C
      clear hE10 a10
      refine one fun C hC => val hE11 (R.move hE11 rfl) rfl fun a12 hE12 => hC _ _ ?_
      clear hC C
      clear hE11 a11
      refine wpList_nil (hK11 _ _ ?_)
      clear hK11 K11
      replace hE12 := hE12.keep (E' := [(5, _), (9, _), (10, _), (11, _), (12, _), (22, _), (23, _), (24, _)]) ⟨rfl, rfl, rfl, rfl, rfl, rfl, rfl, rfl, trivial⟩
      refine wp_block ?_
      refine loopR (σ := Nat) (fun i a w => Env 38 [] a [(22, .slice (some ⟨b21, 0, none⟩) 24 24), (23, .int .i64 24), (24, .int .i64 i)] ∧ Mem β w (star (pts b21 24 (l2.map (Value.int .i64))) (star G F0)) ∧ True) (fun i => 24 - i) 0 ?_ ?_
      · exact ⟨hE12.keep (by refine ⟨?_, ?_, ?_, trivial⟩ <;> first | rfl | exact eqInt (by omega)), hM3.cast (by first | rfl | ac_rfl), trivial⟩
      · clear hE12 hM3 a12
        rintro i a13 w4 ⟨hE13, hM4, -⟩ K hK
        try dsimp only at hE13 hM4
        have hK12 : ∀ a w, K a w → K a w := fun _ _ h => h
        refine wp_seq_k fun K13 hK13 => ?_
        refine wp_region_lit ?_
        refine one fun C hC => val hE13 (R.lss hE13 rfl rfl) rfl fun a14 hE14 => hC _ _ ?_
        clear hC C
        clear hE13 a13
        refine wpList_nil (hK13 _ _ ?_)
        clear hK13 K13
        replace hE14 := hE14.keep (E' := [(22, _), (23, _), (24, _), (25, _)]) ⟨rfl, rfl, rfl, rfl, trivial⟩
        refine wp_seq_k fun K14 hK14 => ?_
        refine condR hE14 rfl ?_ ?_
        · intro hb2
          have ht2 := hb2
          try simp only [decide_eq_true_eq, decide_eq_false_iff_not, Bool.not_eq_true', Bool.not_eq_false', beq_iff_eq, Bool.and_eq_true, Bool.or_eq_true] at ht2
          refine wp_skip (hK14 _ _ ?_)
          refine wp_seq_k fun K15 hK15 => ?_
          refine wp_block ?_
          refine wp_seq_k fun K16 hK16 => ?_
          have hx := l2_at (i := i) (by omega)
          refine wp_region_lit ?_
          refine one fun C hC => val hE14 (R.move hE14 rfl) rfl fun a15 hE15 => hC _ _ ?_
          clear hC C
          clear hE14 a14
          refine one fun C hC => val hE15 (R.index hE15 24 1 sl_26 rfl rfl i rfl (by omega)) rfl fun a16 hE16 => hC _ _ ?_
          clear hC C
          clear hE15 a15
          refine one fun C hC => val hE16 (R.load hE16 sc_24 rfl hM4 hx) rfl fun a17 hE17 => hC _ _ ?_
          clear hC C
          clear hE16 a16
          refine one fun C hC => val hE17 (R.assign hE17 rfl) rfl fun a18 hE18 => hC _ _ ?_
          clear hC C
          clear hE17 a17
          refine one fun C hC => val hE18 (R.assign hE18 rfl) rfl fun a19 hE19 => hC _ _ ?_
          clear hC C
          clear hE18 a18
          refine wpList_nil (hK16 _ _ ?_)
          clear hK16 K16
          replace hE19 := hE19.keep (E' := [(6, _), (7, _), (22, _), (23, _), (24, _), (25, _)]) ⟨rfl, rfl, rfl, rfl, rfl, rfl, trivial⟩
          refine wp_seq_k fun K17 hK17 => ?_
          refine wp_region_lit ?_
          refine one fun C hC => val hE19 (R.move hE19 rfl) rfl fun a20 hE20 => hC _ _ ?_
          clear hC C
          clear hE19 a19
          refine one fun C hC => val hE20 (R.move hE20 rfl) rfl fun a21 hE21 => hC _ _ ?_
          clear hC C
          clear hE20 a20
          refine one fun C hC => val hE21 (R.neq hE21 rfl rfl) rfl fun a22 hE22 => hC _ _ ?_
          clear hC C
          clear hE21 a21
          refine wpList_nil (hK17 _ _ ?_)
          clear hK17 K17
          replace hE22 := hE22.keep (E' := [(6, _), (7, _), (22, _), (23, _), (24, _), (25, _), (31, _)]) ⟨rfl, rfl, rfl, rfl, rfl, rfl, rfl, trivial⟩
          refine condR hE22 rfl ?_ ?_
          · intro hb3
            have ht3 := hb3
            try simp only [decide_eq_true_eq, decide_eq_false_iff_not, Bool.not_eq_true', Bool.not_eq_false', beq_iff_eq, Bool.and_eq_true, Bool.or_eq_true] at ht3
            exact absurd hb3 (by simp)
          · intro hb3
            have ht3 := hb3
            try simp only [decide_eq_true_eq, decide_eq_false_iff_not, Bool.not_eq_true', Bool.not_eq_false', beq_iff_eq, Bool.and_eq_true, Bool.or_eq_true] at ht3
            refine wp_skip (hK15 _ _ ?_)
            refine wp_region_lit ?_
            refine one fun C hC => val hE22 (R.add64 hE22 rfl rfl (by omega) (by omega)) rfl fun a23 hE23 => hC _ _ ?_
            clear hC C
            clear hE22 a22
            refine one fun C hC => val hE23 (R.move hE23 rfl) rfl fun a24 hE24 => hC _ _ ?_
            clear hC C
            clear hE23 a23
            replace hE24 := hE24.keep (E' := [(6, _), (7, _), (22, _), (23, _), (24, _), (25, _), (31, _)]) ⟨rfl, rfl, rfl, rfl, rfl, rfl, rfl, trivial⟩
            refine wpList_nil (hK12 _ _ ?_)
            exact hK (i + 1) _ _ ⟨hE24.keep (by refine ⟨?_, ?_, ?_, trivial⟩ <;> first | rfl | exact eqInt (by push_cast; rfl)), hM4.cast (by first | rfl | ac_rfl), trivial⟩ (by omega)
        · intro hb2
          have ht2 := hb2
          try simp only [decide_eq_true_eq, decide_eq_false_iff_not, Bool.not_eq_true', Bool.not_eq_false', beq_iff_eq, Bool.and_eq_true, Bool.or_eq_true] at ht2
          refine wp_exit (exitThen (exitThen (exitIn ?_)))
          refine hK10 _ _ ?_
          refine wp_seq_k fun K18 hK18 => ?_
          replace hM4 := hM4.cutB b21
          refine wp_region_lit ?_
          refine one fun C hC => callF hE14 (num_c _) cb_6 rfl hM4 rfl  fun  a15 w5 hE15 hM5 => hC _ _ ?_
          clear hC C hE14 hM4 a14
          refine one fun C hC => val hE15 (R.eql hE15 rfl rfl) rfl fun a16 hE16 => hC _ _ ?_
          clear hC C
          clear hE15 a15
          refine one fun C hC => val hE16 (R.move hE16 rfl) rfl fun a17 hE17 => hC _ _ ?_
          clear hC C
          clear hE16 a16
          refine splitE hE17 (x := .tmp 35) rfl ?_ ?_
          · intro hb3
            have ht3 := hb3
            try simp only [decide_eq_true_eq, decide_eq_false_iff_not, Bool.not_eq_true', Bool.not_eq_false', beq_iff_eq, Bool.and_eq_true, Bool.or_eq_true] at ht3
            refine oneOn hE17 rfl rfl hb3 fun C hC => callM hE17 (awake_c G hX hAG hW) cb_7 rfl hM5 rfl  fun  a18 w6 hE18 hM6 => hC _ _ ?_
            clear hC C hE17 hM5 a17
            refine one fun C hC => val hE18 (R.pickT hE18 rfl hb3 rfl) rfl fun a19 hE19 => hC _ _ ?_
            clear hC C
            clear hE18 a18
            refine one fun C hC => val hE19 (R.assign hE19 rfl) rfl fun a20 hE20 => hC _ _ ?_
            clear hC C
            clear hE19 a19
            refine wpList_nil (hK18 _ _ ?_)
            clear hK18 K18
            replace hE20 := hE20.keep (E' := [(2, _), (22, _), (23, _), (24, _), (25, _)]) ⟨rfl, rfl, rfl, rfl, rfl, trivial⟩
            refine wp_ret (hQ _ _ ?_)
            exact back1 hE20 rfl rfl (Mem.done rfl hM6)
          · intro hb3
            have ht3 := hb3
            try simp only [decide_eq_true_eq, decide_eq_false_iff_not, Bool.not_eq_true', Bool.not_eq_false', beq_iff_eq, Bool.and_eq_true, Bool.or_eq_true] at ht3
            exact absurd hb3 (by simp)

end Go.Sv
