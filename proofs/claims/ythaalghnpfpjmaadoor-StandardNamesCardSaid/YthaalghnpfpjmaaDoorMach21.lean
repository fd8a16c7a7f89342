import Derived.Test.YthaalghnpfpjmaaDoorProg
import Derived.Test.YthaalghnpfpjmaaDoorMach20
set_option linter.all false
set_option linter.unusedVariables false
set_option linter.unusedSimpArgs false
set_option maxRecDepth 100000
namespace Go.Sv
open Go.RowKit Go.Proofs
attribute [local irreducible] row pts star blk emp fact any attrsOf machAt tagAt

namespace FMach21
theorem cb_12 : callB Tryd.prog 12 = true := by kernel_rfl
theorem cb_13 : callB Tryd.prog 13 = true := by kernel_rfl
theorem el_50 : elemB Tryd.prog 50 21 1 4 = true := by kernel_rfl
theorem st_9 : stringB Tryd.prog 9 = true := by kernel_rfl
end FMach21
open FMach21
def crFix (r : Int) : Int := if r = 13 then 10 else r
def streamOf (t : ByteArray) : List Int := (bytesInts t).map crFix
theorem streamOf_len (t : ByteArray) : (streamOf t).length = t.size := by rw [streamOf, List.length_map, bytesInts_length]
theorem streamOf_take {t : ByteArray} {j : Nat} (h : j < t.size) : (streamOf t).take (j + 1) = (streamOf t).take j ++ [crFix ((t.get! j).toNat : Int)] := by
  have hl : j < (streamOf t).length := by rw [streamOf_len]; exact h
  rw [List.take_add_one, List.getElem?_eq_getElem hl]
  congr 1
  have hb : j < t.data.toList.length := h
  simp only [Option.toList_some, List.cons.injEq, and_true]
  rw [get!_list t j h]
  simp [streamOf, bytesInts]
/-- Where internal/bytealg.MaxLen lies. -/
def MaxG (G : HProp) : Prop := ∃ E m R, G = star (pts 1 E [.int .i64 m]) R
theorem MaxG.cell {G : HProp} (h : MaxG G) {β : Base} {w : World} {F : HProp} (hM : Mem β w (star G F)) : ∃ m, w.cell? ⟨1, 0, none⟩ = some (.int .i64 m) := by
  obtain ⟨E, m, R, rfl⟩ := h
  exact ⟨m, (hM.cast (star_assoc _ _ _)).cell rfl⟩
theorem replaceAll_c (G : HProp) (hX : MaxG G) (s old new : ByteArray) (hs : s.size < 4294967281) (h1 : 1 ≤ old.size) (hlen : s.size + Lib.countB s old * new.size ≤ 140737488355328) : Fm Tryd.prog 12 [.string s, .string old, .string new] G (.string ⟨(Lib.replaceAll s.data.toList old.data.toList new.data.toList).toArray⟩) G := by
  intro β w F hM
  obtain ⟨m, hm⟩ := hX.cell hM
  refine (Tryd.strings_ReplaceAll s old new m w hs hm h1 hlen).mono fun e w' hh => ?_
  obtain ⟨rfl, hb⟩ := hh
  exact ⟨_, rfl, Mem.done rfl (hM.belowAt hb)⟩

set_option maxHeartbeats 400000 in
theorem mend_ascii (s : ByteArray) (hA : ascii s) : Fn Tryd.prog 13 [.string s] (.string s) := by
  intro β w0 F0 hM0
  replace hM0 := hM0.ofEmp
  refine enter Tryd.func13 (by rfl) 35 rfl rfl fun a0 Q hE0 hQ hN hP => ?_
  refine wp_seq_k fun K0 hK0 => ?_
  refine wp_region_lit ?_
  refine one fun C hC => val hE0 (R.assign hE0 rfl) rfl fun a1 hE1 => hC _ _ ?_
  clear hC C
  clear hE0 a0
  refine wpList_nil (hK0 _ _ ?_)
  clear hK0 K0
  replace hE1 := hE1.keep (E' := [(0, _), (2, _)]) ⟨rfl, rfl, trivial⟩
  refine wp_seq_k fun K1 hK1 => ?_
  refine wp_region_lit ?_
  refine one fun C hC => val hE1 (R.assign hE1 rfl) rfl fun a2 hE2 => hC _ _ ?_
  clear hC C
  clear hE1 a1
  refine wpList_nil (hK1 _ _ ?_)
  clear hK1 K1
  replace hE2 := hE2.keep (E' := [(0, _), (2, _), (3, _)]) ⟨rfl, rfl, rfl, trivial⟩
  refine wp_seq_k fun K2 hK2 => ?_
  refine wp_seq_k fun K3 hK3 => ?_
  refine wp_region_lit ?_
  refine one fun C hC => val hE2 (R.move hE2 rfl) rfl fun a3 hE3 => hC _ _ ?_
  clear hC C
  clear hE2 a2
  refine one fun C hC => rangeStr hE3 hM0 st_9 rfl rfl  fun b7 a4 w1 hE4 hM1 => hC _ _ ?_
  clear hC C hE3 hM0 a3
  refine wpList_nil (hK3 _ _ ?_)
  clear hK3 K3
  replace hE4 := hE4.keep (E' := [(0, _), (2, _), (3, _), (7, _)]) ⟨rfl, rfl, rfl, rfl, trivial⟩
  refine wp_block ?_
  refine loopR (σ := Nat) (fun j a w => Env 35 [] a [(0, .string s), (3, .bool true), (7, .pointer (some ⟨b7, 0, none⟩))] ∧ Mem β w (star (blk b7 (.stringIter s j)) F0) ∧ True) (fun j => s.size - j) 0 ?_ ?_
  · exact ⟨hE4.keep (by refine ⟨?_, ?_, ?_, trivial⟩ <;> first | rfl | exact eqInt (by omega)), hM1.cast (by first | rfl | ac_rfl), trivial⟩
  · clear hE4 hM1 a4
    rintro j a5 w2 ⟨hE5, hM2, -⟩ K hK
    try dsimp only at hE5 hM2
    have hK4 : ∀ a w, K a w → K a w := fun _ _ h => h
    refine wp_seq_k fun K5 hK5 => ?_
    refine wp_region_lit ?_
    refine one fun C hC => nextStr hE5 rfl hM2 rfl ?_ ?_
    · intro hit a6 w3 hE6 hM3
      refine hC _ _ ?_
      have hdc := decode_ascii (hA j hit)
      rw [hdc] at hE6 hM3
      have hby := hA j hit
      clear hC C hE5 hM2 a5
      refine one fun C hC => val hE6 (R.ext hE6 rfl rfl) rfl fun a7 hE7 => hC _ _ ?_
      clear hC C
      clear hE6 a6
      refine wpList_nil (hK5 _ _ ?_)
      clear hK5 K5
      replace hE7 := hE7.keep (E' := [(0, _), (3, _), (7, _), (8, _), (9, _)]) ⟨rfl, rfl, rfl, rfl, rfl, trivial⟩
      refine wp_seq_k fun K6 hK6 => ?_
      refine condT hE7 rfl rfl ?_
      refine wp_skip (hK6 _ _ ?_)
      refine wp_block ?_
      refine wp_seq_k fun K7 hK7 => ?_
      refine wp_region_lit ?_
      refine one fun C hC => val hE7 (R.ext hE7 rfl rfl) rfl fun a8 hE8 => hC _ _ ?_
      clear hC C
      clear hE7 a7
      refine one fun C hC => val hE8 (R.ext hE8 rfl rfl) rfl fun a9 hE9 => hC _ _ ?_
      clear hC C
      clear hE8 a8
      refine one fun C hC => val hE9 (R.assign hE9 rfl) rfl fun a10 hE10 => hC _ _ ?_
      clear hC C
      clear hE9 a9
      refine one fun C hC => val hE10 (R.assign hE10 rfl) rfl fun a11 hE11 => hC _ _ ?_
      clear hC C
      clear hE10 a10
      refine wpList_nil (hK7 _ _ ?_)
      clear hK7 K7
      replace hE11 := hE11.keep (E' := [(0, _), (3, _), (4, _), (5, _), (7, _), (8, _), (9, _)]) ⟨rfl, rfl, rfl, rfl, rfl, rfl, rfl, trivial⟩
      refine wp_seq_k fun K8 hK8 => ?_
      refine wp_region_lit ?_
      refine one fun C hC => val hE11 (R.move hE11 rfl) rfl fun a12 hE12 => hC _ _ ?_
      clear hC C
      clear hE11 a11
      refine one fun C hC => val hE12 (R.eql hE12 rfl rfl) rfl fun a13 hE13 => hC _ _ ?_
      clear hC C
      clear hE12 a12
      refine one fun C hC => val hE13 (R.move hE13 rfl) rfl fun a14 hE14 => hC _ _ ?_
      clear hC C
      clear hE13 a13
      refine splitE hE14 (x := .tmp 14) rfl ?_ ?_
      · intro hb1
        have ht1 := hb1
        try simp only [decide_eq_true_eq, decide_eq_false_iff_not, Bool.not_eq_true', Bool.not_eq_false', beq_iff_eq, Bool.and_eq_true, Bool.or_eq_true] at ht1
        exfalso
        omega
      · intro hb1
        have ht1 := hb1
        try simp only [decide_eq_true_eq, decide_eq_false_iff_not, Bool.not_eq_true', Bool.not_eq_false', beq_iff_eq, Bool.and_eq_true, Bool.or_eq_true] at ht1
        refine oneOff hE14 rfl rfl hb1 rfl fun a15 hE15 => ?_
        clear hE14 a14
        refine oneOff hE15 rfl rfl hb1 rfl fun a16 hE16 => ?_
        clear hE15 a15
        refine oneOff hE16 rfl rfl hb1 rfl fun a17 hE17 => ?_
        clear hE16 a16
        refine oneOff hE17 rfl rfl hb1 rfl fun a18 hE18 => ?_
        clear hE17 a17
        refine oneOff hE18 rfl rfl hb1 rfl fun a19 hE19 => ?_
        clear hE18 a18
        refine oneOff hE19 rfl rfl hb1 rfl fun a20 hE20 => ?_
        clear hE19 a19
        refine oneOffU hE20 rfl rfl rfl fun a21 hE21 => ?_
        clear hE20 a20
        refine oneOffU hE21 rfl rfl rfl fun a22 hE22 => ?_
        clear hE21 a21
        refine oneOffU hE22 rfl rfl rfl fun a23 hE23 => ?_
        clear hE22 a22
        refine oneOffU hE23 rfl rfl rfl fun a24 hE24 => ?_
        clear hE23 a23
        refine oneOffU hE24 rfl rfl rfl fun a25 hE25 => ?_
        clear hE24 a24
        refine oneOffU hE25 rfl rfl rfl fun a26 hE26 => ?_
        clear hE25 a25
        refine oneOff hE26 rfl rfl hb1 rfl fun a27 hE27 => ?_
        clear hE26 a26
        refine one fun C hC => val hE27 (R.pickF hE27 rfl hb1 rfl) rfl fun a28 hE28 => hC _ _ ?_
        clear hC C
        clear hE27 a27
        refine wpList_nil (hK8 _ _ ?_)
        clear hK8 K8
        replace hE28 := hE28.keep (E' := [(0, _), (3, _), (4, _), (5, _), (7, _), (8, _), (9, _), (28, _)]) ⟨rfl, rfl, rfl, rfl, rfl, rfl, rfl, rfl, trivial⟩
        refine condF hE28 rfl rfl ?_
        refine wp_skip (hK4 _ _ ?_)
        exact hK (j + 1) _ _ ⟨hE28.keep (by refine ⟨?_, ?_, ?_, trivial⟩ <;> first | rfl | exact eqInt (by push_cast; rfl)), hM3.cast (by first | rfl | ac_rfl), trivial⟩ (by omega)
    · intro hit a6 hE6 hMn
      refine hC _ _ ?_
      have hM3 := hMn
      clear hMn hC C hE5 hM2 a5
      refine one fun C hC => val hE6 (R.ext hE6 rfl rfl) rfl fun a7 hE7 => hC _ _ ?_
      clear hC C
      clear hE6 a6
      refine wpList_nil (hK5 _ _ ?_)
      clear hK5 K5
      replace hE7 := hE7.keep (E' := [(0, _), (3, _), (7, _), (8, _), (9, _)]) ⟨rfl, rfl, rfl, rfl, rfl, trivial⟩
      refine wp_seq_k fun K9 hK9 => ?_
      refine condF hE7 rfl rfl ?_
      refine wp_exit (exitThen (exitThen (exitIn ?_)))
      refine hK2 _ _ ?_
      refine wp_seq_k fun K10 hK10 => ?_
      refine wp_seq_k fun K11 hK11 => ?_
      refine wp_region_lit ?_
      refine one fun C hC => val hE7 (R.move hE7 rfl) rfl fun a8 hE8 => hC _ _ ?_
      clear hC C
      clear hE7 a7
      refine wpList_nil (hK11 _ _ ?_)
      clear hK11 K11
      replace hE8 := hE8.keep (E' := [(0, _), (3, _), (7, _), (8, _), (9, _), (29, _)]) ⟨rfl, rfl, rfl, rfl, rfl, rfl, trivial⟩
      refine condR hE8 rfl ?_ ?_
      · intro hb1
        have ht1 := hb1
        try simp only [decide_eq_true_eq, decide_eq_false_iff_not, Bool.not_eq_true', Bool.not_eq_false', beq_iff_eq, Bool.and_eq_true, Bool.or_eq_true] at ht1
        refine wp_seq_k fun K12 hK12 => ?_
        refine wp_region_lit ?_
        refine one fun C hC => val hE8 (R.move hE8 rfl) rfl fun a9 hE9 => hC _ _ ?_
        clear hC C
        clear hE8 a8
        refine one fun C hC => val hE9 (R.assign hE9 rfl) rfl fun a10 hE10 => hC _ _ ?_
        clear hC C
        clear hE9 a9
        refine wpList_nil (hK12 _ _ ?_)
        clear hK12 K12
        replace hE10 := hE10.keep (E' := [(0, _), (2, _), (3, _), (7, _), (8, _), (9, _), (29, _)]) ⟨rfl, rfl, rfl, rfl, rfl, rfl, rfl, trivial⟩
        refine wp_ret (hQ _ _ ?_)
        exact back1 hE10 rfl rfl (Mem.mkFact rfl hM3.drop)
      · intro hb1
        have ht1 := hb1
        try simp only [decide_eq_true_eq, decide_eq_false_iff_not, Bool.not_eq_true', Bool.not_eq_false', beq_iff_eq, Bool.and_eq_true, Bool.or_eq_true] at ht1
        exact absurd hb1 (by simp)

set_option maxHeartbeats 400000 in
theorem stream_ascii (G : HProp) (hX : MaxG G) (s t : ByteArray) (hA0 : ascii s) (hs : s.size ≤ 2000000) (hlen : s.size + Lib.countB s ⟨#[13, 10]⟩ * 1 ≤ 140737488355328) (ht : (⟨(Lib.replaceAll s.data.toList [13, 10] [10]).toArray⟩ : ByteArray) = t) (hA : ascii t) (hts : t.size ≤ 2000000) : Fx Tryd.prog 10 [.string s] G (fun q : Option Addr × Nat => .slice q.1 (streamOf t).length q.2) (fun q => star (row 21 1 rune q.1 q.2 (streamOf t)) G) := by
  intro β w0 F0 hM0
  refine enter Tryd.func10 (by rfl) 20 rfl rfl fun a0 Q hE0 hQ hN hP => ?_
  refine wp_seq_k fun K0 hK0 => ?_
  refine wp_region_lit ?_
  refine one fun C hC => val hE0 (R.assign hE0 rfl) rfl fun a1 hE1 => hC _ _ ?_
  clear hC C
  clear hE0 a0
  refine wpList_nil (hK0 _ _ ?_)
  clear hK0 K0
  replace hE1 := hE1.keep (E' := [(0, _), (2, _)]) ⟨rfl, rfl, trivial⟩
  refine wp_seq_k fun K1 hK1 => ?_
  refine wp_region_lit ?_
  refine one fun C hC => val hE1 (R.assign hE1 rfl) rfl fun a2 hE2 => hC _ _ ?_
  clear hC C
  clear hE1 a1
  refine wpList_nil (hK1 _ _ ?_)
  clear hK1 K1
  replace hE2 := hE2.keep (E' := [(0, _), (2, _), (3, _)]) ⟨rfl, rfl, rfl, trivial⟩
  refine wp_seq_k fun K2 hK2 => ?_
  refine wp_seq_k fun K3 hK3 => ?_
  refine wp_region_lit ?_
  refine one fun C hC => val hE2 (R.move hE2 rfl) rfl fun a3 hE3 => hC _ _ ?_
  clear hC C
  clear hE2 a2
  refine one fun C hC => callF hE3 (mend_ascii s hA0) cb_13 rfl hM0 rfl  fun  a4 w1 hE4 hM1 => hC _ _ ?_
  clear hC C hE3 hM0 a3
  refine one fun C hC => callM hE4 (replaceAll_c G hX s ⟨#[13, 10]⟩ ⟨#[10]⟩ (by omega) (by decide) hlen) cb_12 rfl hM1 rfl  fun  a5 w2 hE5 hM2 => hC _ _ ?_
  clear hC C hE4 hM1 a4
  rw [show (Lib.replaceAll s.data.toList (⟨#[13, 10]⟩ : ByteArray).data.toList (⟨#[10]⟩ : ByteArray).data.toList) = Lib.replaceAll s.data.toList [13, 10] [10] from rfl, ht] at hE5
  refine one fun C hC => rangeStr hE5 hM2 st_9 rfl rfl  fun b9 a6 w3 hE6 hM3 => hC _ _ ?_
  clear hC C hE5 hM2 a5
  refine wpList_nil (hK3 _ _ ?_)
  clear hK3 K3
  replace hE6 := hE6.keep (E' := [(0, _), (2, _), (3, _), (9, _)]) ⟨rfl, rfl, rfl, rfl, trivial⟩
  refine wp_block ?_
  have hM4 := hM3.row_nil 21 1 rune none
  clear hM3
  refine loopR (σ := Nat × Option Addr × Nat) (fun ⟨j, oA, oC⟩ a w => Env 20 [] a [(3, .slice oA ((streamOf t).take j).length oC), (9, .pointer (some ⟨b9, 0, none⟩))] ∧ Mem β w (star (blk b9 (.stringIter t j)) (star (row 21 1 rune oA oC ((streamOf t).take j)) (star G F0))) ∧ j ≤ t.size) (fun ⟨j, oA, oC⟩ => t.size - j) (0, none, 0) ?_ ?_
  · exact ⟨hE6.keep (by refine ⟨?_, ?_, trivial⟩ <;> first | rfl | exact eqInt (by omega)), hM4.cast (by first | rfl | ac_rfl), (by omega)⟩
  · clear hE6 hM4 a6
    rintro ⟨j, oA, oC⟩ a7 w5 ⟨hE7, hM5, hj⟩ K hK
    try dsimp only at hE7 hM5
    have hK4 : ∀ a w, K a w → K a w := fun _ _ h => h
    refine wp_seq_k fun K5 hK5 => ?_
    refine wp_region_lit ?_
    refine one fun C hC => nextStr hE7 rfl hM5 rfl ?_ ?_
    · intro hit a8 w6 hE8 hM6
      refine hC _ _ ?_
      have hdc := decode_ascii (hA j hit)
      rw [hdc] at hE8 hM6
      have hby := hA j hit
      clear hC C hE7 hM5 a7
      refine one fun C hC => val hE8 (R.ext hE8 rfl rfl) rfl fun a9 hE9 => hC _ _ ?_
      clear hC C
      clear hE8 a8
      refine wpList_nil (hK5 _ _ ?_)
      clear hK5 K5
      replace hE9 := hE9.keep (E' := [(3, _), (9, _), (10, _), (11, _)]) ⟨rfl, rfl, rfl, rfl, trivial⟩
      refine wp_seq_k fun K6 hK6 => ?_
      refine condT hE9 rfl rfl ?_
      refine wp_skip (hK6 _ _ ?_)
      refine wp_block ?_
      refine wp_seq_k fun K7 hK7 => ?_
      refine wp_region_lit ?_
      refine one fun C hC => val hE9 (R.ext hE9 rfl rfl) rfl fun a10 hE10 => hC _ _ ?_
      clear hC C
      clear hE9 a9
      refine one fun C hC => val hE10 (R.assign hE10 rfl) rfl fun a11 hE11 => hC _ _ ?_
      clear hC C
      clear hE10 a10
      refine wpList_nil (hK7 _ _ ?_)
      clear hK7 K7
      replace hE11 := hE11.keep (E' := [(3, _), (5, _), (9, _), (10, _), (11, _)]) ⟨rfl, rfl, rfl, rfl, rfl, trivial⟩
      refine wp_seq_k fun K8 hK8 => ?_
      refine wp_seq_k fun K9 hK9 => ?_
      refine wp_region_lit ?_
      refine one fun C hC => val hE11 (R.move hE11 rfl) rfl fun a12 hE12 => hC _ _ ?_
      clear hC C
      clear hE11 a11
      refine one fun C hC => val hE12 (R.eql hE12 rfl rfl) rfl fun a13 hE13 => hC _ _ ?_
      clear hC C
      clear hE12 a12
      refine wpList_nil (hK9 _ _ ?_)
      clear hK9 K9
      replace hE13 := hE13.keep (E' := [(3, _), (5, _), (9, _), (10, _), (11, _), (14, _)]) ⟨rfl, rfl, rfl, rfl, rfl, rfl, trivial⟩
      refine condR hE13 rfl ?_ ?_
      · intro hb1
        have ht1 := hb1
        try simp only [decide_eq_true_eq, decide_eq_false_iff_not, Bool.not_eq_true', Bool.not_eq_false', beq_iff_eq, Bool.and_eq_true, Bool.or_eq_true] at ht1
        refine wp_region_lit ?_
        refine one fun C hC => val hE13 (R.assign hE13 rfl) rfl fun a14 hE14 => hC _ _ ?_
        clear hC C
        clear hE13 a13
        replace hE14 := hE14.keep (E' := [(3, _), (5, _), (9, _), (10, _), (11, _), (14, _)]) ⟨rfl, rfl, rfl, rfl, rfl, rfl, trivial⟩
        refine wpList_nil (hK8 _ _ ?_)
        refine wp_region_lit ?_
        refine one fun C hC => val hE14 (R.move hE14 rfl) rfl fun a15 hE15 => hC _ _ ?_
        clear hC C
        clear hE14 a14
        refine one fun C hC => val hE15 (R.move hE15 rfl) rfl fun a16 hE16 => hC _ _ ?_
        clear hC C
        clear hE15 a15
        refine one fun C hC => lit1 hE16 hM6 4 el_50 rfl rfl rfl  fun b17 a17 w7 hE17 hM7 => hC _ _ ?_
        clear hC C hE16 hM6 a16
        have htl : ((streamOf t).take j).length = j := by rw [List.length_take, streamOf_len]; omega
        refine one fun C hC => appendL (enc := rune) (xs := (streamOf t).take j) hE17 [10] el_50 rfl rfl hM7 rfl rfl rfl (by rw [htl]; unfold maxLen; simp; omega) (by rw [htl]; simp; omega) rfl  fun A18 C18 a18 w8 hE18 hM8 => hC _ _ ?_
        clear hC C hE17 hM7 a17
        refine one fun C hC => val hE18 (R.assign hE18 rfl) rfl fun a19 hE19 => hC _ _ ?_
        clear hC C
        clear hE18 a18
        replace hE19 := hE19.keep (E' := [(3, _), (5, _), (9, _), (10, _), (11, _), (14, _)]) ⟨rfl, rfl, rfl, rfl, rfl, rfl, trivial⟩
        refine wpList_nil (hK4 _ _ ?_)
        have hx : crFix ((t.get! j).toNat : Int) = 10 := by unfold crFix; rw [if_pos (by omega)]
        rw [← hx, ← streamOf_take hit] at hM8 hE19
        exact hK (j + 1, A18, C18) _ _ ⟨hE19.keep (by refine ⟨?_, ?_, trivial⟩ <;> first | rfl | exact eqInt (by push_cast; rfl)), hM8.cast (by first | rfl | ac_rfl), (by (show j + 1 ≤ t.size); omega)⟩ ((by (show t.size - (j + 1) < t.size - j); omega))
      · intro hb1
        have ht1 := hb1
        try simp only [decide_eq_true_eq, decide_eq_false_iff_not, Bool.not_eq_true', Bool.not_eq_false', beq_iff_eq, Bool.and_eq_true, Bool.or_eq_true] at ht1
        refine wp_skip (hK8 _ _ ?_)
        refine wp_region_lit ?_
        refine one fun C hC => val hE13 (R.move hE13 rfl) rfl fun a14 hE14 => hC _ _ ?_
        clear hC C
        clear hE13 a13
        refine one fun C hC => val hE14 (R.move hE14 rfl) rfl fun a15 hE15 => hC _ _ ?_
        clear hC C
        clear hE14 a14
        refine one fun C hC => lit1 hE15 hM6 4 el_50 rfl rfl rfl  fun b17 a16 w7 hE16 hM7 => hC _ _ ?_
        clear hC C hE15 hM6 a15
        have htl : ((streamOf t).take j).length = j := by rw [List.length_take, streamOf_len]; omega
        refine one fun C hC => appendL (enc := rune) (xs := (streamOf t).take j) hE16 [((t.get! j).toNat : Int)] el_50 rfl rfl hM7 rfl rfl rfl (by rw [htl]; unfold maxLen; simp; omega) (by rw [htl]; simp; omega) rfl  fun A18 C18 a17 w8 hE17 hM8 => hC _ _ ?_
        clear hC C hE16 hM7 a16
        refine one fun C hC => val hE17 (R.assign hE17 rfl) rfl fun a18 hE18 => hC _ _ ?_
        clear hC C
        clear hE17 a17
        replace hE18 := hE18.keep (E' := [(3, _), (5, _), (9, _), (10, _), (11, _), (14, _)]) ⟨rfl, rfl, rfl, rfl, rfl, rfl, trivial⟩
        refine wpList_nil (hK4 _ _ ?_)
        have hx : crFix ((t.get! j).toNat : Int) = ((t.get! j).toNat : Int) := by unfold crFix; rw [if_neg (by omega)]
        rw [← hx, ← streamOf_take hit] at hM8 hE18
        exact hK (j + 1, A18, C18) _ _ ⟨hE18.keep (by refine ⟨?_, ?_, trivial⟩ <;> first | rfl | exact eqInt (by push_cast; rfl)), hM8.cast (by first | rfl | ac_rfl), (by (show j + 1 ≤ t.size); omega)⟩ ((by (show t.size - (j + 1) < t.size - j); omega))
    · intro hit a8 hE8 hMn
      refine hC _ _ ?_
      have hM6 := hMn
      clear hMn hC C hE7 hM5 a7
      refine one fun C hC => val hE8 (R.ext hE8 rfl rfl) rfl fun a9 hE9 => hC _ _ ?_
      clear hC C
      clear hE8 a8
      refine wpList_nil (hK5 _ _ ?_)
      clear hK5 K5
      replace hE9 := hE9.keep (E' := [(3, _), (9, _), (10, _), (11, _)]) ⟨rfl, rfl, rfl, rfl, trivial⟩
      refine wp_seq_k fun K10 hK10 => ?_
      refine condF hE9 rfl rfl ?_
      refine wp_exit (exitThen (exitThen (exitIn ?_)))
      refine hK2 _ _ ?_
      refine wp_seq_k fun K11 hK11 => ?_
      refine wp_region_lit ?_
      refine one fun C hC => val hE9 (R.move hE9 rfl) rfl fun a10 hE10 => hC _ _ ?_
      clear hC C
      clear hE9 a9
      refine one fun C hC => val hE10 (R.assign hE10 rfl) rfl fun a11 hE11 => hC _ _ ?_
      clear hC C
      clear hE10 a10
      refine wpList_nil (hK11 _ _ ?_)
      clear hK11 K11
      replace hE11 := hE11.keep (E' := [(2, _), (3, _), (9, _), (10, _), (11, _)]) ⟨rfl, rfl, rfl, rfl, rfl, trivial⟩
      refine wp_ret (hQ _ _ ?_)
      have hje : (streamOf t).take j = streamOf t := List.take_of_length_le (by rw [streamOf_len]; omega)
      rw [hje] at hE11 hM6
      refine back1 hE11 rfl rfl (Mem.doneX ((oA, oC) : Option Addr × Nat) rfl ?_)
      exact (hM6.drop).cast (by ac_rfl)

end Go.Sv
