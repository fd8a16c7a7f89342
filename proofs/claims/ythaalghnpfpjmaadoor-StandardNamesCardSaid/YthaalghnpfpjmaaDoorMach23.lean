import Derived.Test.YthaalghnpfpjmaaDoorProg
import Derived.Test.YthaalghnpfpjmaaDoorMach22
import Derived.Test.YthaalghnpfpjmaaDoorRules12
set_option linter.all false
set_option linter.unusedVariables false
set_option linter.unusedSimpArgs false
set_option maxRecDepth 100000
namespace Go.Sv
open Go.RowKit Go.Proofs
attribute [local irreducible] row pts star blk emp fact any attrsOf machAt tagAt

namespace FMach23
theorem al_155 : (Tryd.prog.info? 155).bind (·.zero) = some (.agg [.string ByteArray.empty, .string ByteArray.empty, .string ByteArray.empty, .string ByteArray.empty, .string ByteArray.empty, .string ByteArray.empty, .string ByteArray.empty, .string ByteArray.empty, .string ByteArray.empty, .string ByteArray.empty, .string ByteArray.empty, .string ByteArray.empty, .string ByteArray.empty, .string ByteArray.empty, .string ByteArray.empty, .string ByteArray.empty, .string ByteArray.empty, .string ByteArray.empty, .string ByteArray.empty, .string ByteArray.empty, .string ByteArray.empty, .string ByteArray.empty, .string ByteArray.empty, .string ByteArray.empty].toArray) := by kernel_rfl
theorem ar_24 : arrayB Tryd.prog 155 24 9 1 = true := by kernel_rfl
theorem cb_109 : callB Tryd.prog 109 = true := by kernel_rfl
theorem co_31 : concB Tryd.prog 31 = true := by kernel_rfl
theorem el_34 : elemB Tryd.prog 34 9 1 16 = true := by kernel_rfl
theorem sc_9 : scalarB Tryd.prog 9 = true := by kernel_rfl
theorem sl_34 : sliceB Tryd.prog 34 9 1 = true := by kernel_rfl
theorem ss_155 : structB Tryd.prog 155 24 = true := by kernel_rfl
end FMach23
open FMach23
/-- The faults' names. -/
def names : List ByteArray := [⟨#[97, 98, 115, 101, 110, 99, 101, 45, 111, 102, 45, 100, 105, 103, 105, 116, 115, 45, 105, 110, 45, 110, 117, 109, 101, 114, 105, 99, 45, 99, 104, 97, 114, 97, 99, 116, 101, 114, 45, 114, 101, 102, 101, 114, 101, 110, 99, 101]⟩, ⟨#[99, 104, 97, 114, 97, 99, 116, 101, 114, 45, 114, 101, 102, 101, 114, 101, 110, 99, 101, 45, 111, 117, 116, 115, 105, 100, 101, 45, 117, 110, 105, 99, 111, 100, 101, 45, 114, 97, 110, 103, 101]⟩, ⟨#[99, 111, 110, 116, 114, 111, 108, 45, 99, 104, 97, 114, 97, 99, 116, 101, 114, 45, 105, 110, 45, 105, 110, 112, 117, 116, 45, 115, 116, 114, 101, 97, 109]⟩, ⟨#[99, 111, 110, 116, 114, 111, 108, 45, 99, 104, 97, 114, 97, 99, 116, 101, 114, 45, 114, 101, 102, 101, 114, 101, 110, 99, 101]⟩, ⟨#[100, 117, 112, 108, 105, 99, 97, 116, 101, 45, 97, 116, 116, 114, 105, 98, 117, 116, 101]⟩, ⟨#[101, 110, 100, 45, 116, 97, 103, 45, 119, 105, 116, 104, 45, 97, 116, 116, 114, 105, 98, 117, 116, 101, 115]⟩, ⟨#[101, 110, 100, 45, 116, 97, 103, 45, 119, 105, 116, 104, 45, 116, 114, 97, 105, 108, 105, 110, 103, 45, 115, 111, 108, 105, 100, 117, 115]⟩, ⟨#[101, 111, 102, 45, 98, 101, 102, 111, 114, 101, 45, 116, 97, 103, 45, 110, 97, 109, 101]⟩, ⟨#[101, 111, 102, 45, 105, 110, 45, 116, 97, 103]⟩, ⟨#[105, 110, 118, 97, 108, 105, 100, 45, 102, 105, 114, 115, 116, 45, 99, 104, 97, 114, 97, 99, 116, 101, 114, 45, 111, 102, 45, 116, 97, 103, 45, 110, 97, 109, 101]⟩, ⟨#[109, 105, 115, 115, 105, 110, 103, 45, 97, 116, 116, 114, 105, 98, 117, 116, 101, 45, 118, 97, 108, 117, 101]⟩, ⟨#[109, 105, 115, 115, 105, 110, 103, 45, 101, 110, 100, 45, 116, 97, 103, 45, 110, 97, 109, 101]⟩, ⟨#[109, 105, 115, 115, 105, 110, 103, 45, 115, 101, 109, 105, 99, 111, 108, 111, 110, 45, 97, 102, 116, 101, 114, 45, 99, 104, 97, 114, 97, 99, 116, 101, 114, 45, 114, 101, 102, 101, 114, 101, 110, 99, 101]⟩, ⟨#[109, 105, 115, 115, 105, 110, 103, 45, 119, 104, 105, 116, 101, 115, 112, 97, 99, 101, 45, 98, 101, 116, 119, 101, 101, 110, 45, 97, 116, 116, 114, 105, 98, 117, 116, 101, 115]⟩, ⟨#[110, 111, 110, 99, 104, 97, 114, 97, 99, 116, 101, 114, 45, 99, 104, 97, 114, 97, 99, 116, 101, 114, 45, 114, 101, 102, 101, 114, 101, 110, 99, 101]⟩, ⟨#[110, 111, 110, 99, 104, 97, 114, 97, 99, 116, 101, 114, 45, 105, 110, 45, 105, 110, 112, 117, 116, 45, 115, 116, 114, 101, 97, 109]⟩, ⟨#[110, 117, 108, 108, 45, 99, 104, 97, 114, 97, 99, 116, 101, 114, 45, 114, 101, 102, 101, 114, 101, 110, 99, 101]⟩, ⟨#[115, 117, 114, 114, 111, 103, 97, 116, 101, 45, 99, 104, 97, 114, 97, 99, 116, 101, 114, 45, 114, 101, 102, 101, 114, 101, 110, 99, 101]⟩, ⟨#[117, 110, 101, 120, 112, 101, 99, 116, 101, 100, 45, 99, 104, 97, 114, 97, 99, 116, 101, 114, 45, 105, 110, 45, 97, 116, 116, 114, 105, 98, 117, 116, 101, 45, 110, 97, 109, 101]⟩, ⟨#[117, 110, 101, 120, 112, 101, 99, 116, 101, 100, 45, 99, 104, 97, 114, 97, 99, 116, 101, 114, 45, 105, 110, 45, 117, 110, 113, 117, 111, 116, 101, 100, 45, 97, 116, 116, 114, 105, 98, 117, 116, 101, 45, 118, 97, 108, 117, 101]⟩, ⟨#[117, 110, 101, 120, 112, 101, 99, 116, 101, 100, 45, 101, 113, 117, 97, 108, 115, 45, 115, 105, 103, 110, 45, 98, 101, 102, 111, 114, 101, 45, 97, 116, 116, 114, 105, 98, 117, 116, 101, 45, 110, 97, 109, 101]⟩, ⟨#[117, 110, 101, 120, 112, 101, 99, 116, 101, 100, 45, 110, 117, 108, 108, 45, 99, 104, 97, 114, 97, 99, 116, 101, 114]⟩, ⟨#[117, 110, 101, 120, 112, 101, 99, 116, 101, 100, 45, 115, 111, 108, 105, 100, 117, 115, 45, 105, 110, 45, 116, 97, 103]⟩, ⟨#[117, 110, 107, 110, 111, 119, 110, 45, 110, 97, 109, 101, 100, 45, 99, 104, 97, 114, 97, 99, 116, 101, 114, 45, 114, 101, 102, 101, 114, 101, 110, 99, 101]⟩]
def namesV : List Value := names.map Value.string
def nameOf (k : Int) : ByteArray := if 0 ≤ k ∧ k < 24 then names.getD k.toNat .empty else .empty
theorem names_len : names.length = 24 := by kernel_rfl
theorem namesV_at {k : Int} (h0 : 0 ≤ k) (h1 : k < 24) : namesV[k.toNat]? = some (.string (nameOf k)) := by
  have hl : k.toNat < names.length := by rw [names_len]; omega
  unfold namesV nameOf
  rw [List.getElem?_map, List.getElem?_eq_getElem hl, if_pos ⟨h0, h1⟩, List.getD_eq_getElem?_getD, List.getElem?_eq_getElem hl]
  rfl
theorem nameOf_out {k : Int} (h : k < 0 ∨ 24 ≤ k) : nameOf k = .empty := by unfold nameOf; rw [if_neg (by omega)]

set_option maxHeartbeats 400000 in
theorem refName_c (k : Int) : Fn Tryd.prog 5 [.int .i64 k] (.string (nameOf k)) := by
  intro β w0 F0 hM0
  replace hM0 := hM0.ofEmp
  refine enter Tryd.func5 (by rfl) 17 rfl rfl fun a0 Q hE0 hQ hN hP => ?_
  refine wp_seq_k fun K0 hK0 => ?_
  refine wp_region_lit ?_
  refine one fun C hC => val hE0 (R.assign hE0 rfl) rfl fun a1 hE1 => hC _ _ ?_
  clear hC C
  clear hE0 a0
  refine wpList_nil (hK0 _ _ ?_)
  clear hK0 K0
  replace hE1 := hE1.keep (E' := [(0, _), (2, _)]) ⟨rfl, rfl, trivial⟩
  refine wp_seq_k fun K1 hK1 => ?_
  refine wp_region_lit ?_
  refine one fun C hC => litN (vs := namesV) hE1 hM0 el_34 (by kernel_rfl) (by intro v hv; unfold namesV at hv; obtain ⟨x, _, rfl⟩ := List.mem_map.1 hv; rfl) (by kernel_rfl) (by decide) (by decide) rfl fun b4 a2 w1 hE2 hM1 => hC _ _ ?_
  clear hC C hE1 hM0 a1
  refine one fun C hC => val hE2 (R.assign hE2 rfl) rfl fun a3 hE3 => hC _ _ ?_
  clear hC C
  clear hE2 a2
  refine wpList_nil (hK1 _ _ ?_)
  clear hK1 K1
  replace hE3 := hE3.keep (E' := [(0, _), (2, _), (3, _)]) ⟨rfl, rfl, rfl, trivial⟩
  refine wp_seq_k fun K2 hK2 => ?_
  refine wp_seq_k fun K3 hK3 => ?_
  refine wp_region_lit ?_
  refine one fun C hC => val hE3 (R.move hE3 rfl) rfl fun a4 hE4 => hC _ _ ?_
  clear hC C
  clear hE3 a3
  refine one fun C hC => val hE4 (R.lss hE4 rfl rfl) rfl fun a5 hE5 => hC _ _ ?_
  clear hC C
  clear hE4 a4
  refine one fun C hC => val hE5 (R.move hE5 rfl) rfl fun a6 hE6 => hC _ _ ?_
  clear hC C
  clear hE5 a5
  refine splitE hE6 (x := .tmp 7) rfl ?_ ?_
  · intro hb1
    have ht1 := hb1
    try simp only [decide_eq_true_eq, decide_eq_false_iff_not, Bool.not_eq_true', Bool.not_eq_false', beq_iff_eq, Bool.and_eq_true, Bool.or_eq_true] at ht1
    refine oneOff hE6 rfl rfl hb1 rfl fun a7 hE7 => ?_
    clear hE6 a6
    refine oneOff hE7 rfl rfl hb1 rfl fun a8 hE8 => ?_
    clear hE7 a7
    refine oneOff hE8 rfl rfl hb1 rfl fun a9 hE9 => ?_
    clear hE8 a8
    refine oneOff hE9 rfl rfl hb1 rfl fun a10 hE10 => ?_
    clear hE9 a9
    refine one fun C hC => val hE10 (R.pickT hE10 rfl hb1 rfl) rfl fun a11 hE11 => hC _ _ ?_
    clear hC C
    clear hE10 a10
    refine wpList_nil (hK3 _ _ ?_)
    clear hK3 K3
    replace hE11 := hE11.keep (E' := [(0, _), (2, _), (3, _), (12, _)]) ⟨rfl, rfl, rfl, rfl, trivial⟩
    refine condT hE11 rfl rfl ?_
    refine wp_seq_k fun K4 hK4 => ?_
    refine wp_region_lit ?_
    refine one fun C hC => val hE11 (R.assign hE11 rfl) rfl fun a12 hE12 => hC _ _ ?_
    clear hC C
    clear hE11 a11
    refine wpList_nil (hK4 _ _ ?_)
    clear hK4 K4
    replace hE12 := hE12.keep (E' := [(0, _), (2, _), (3, _), (12, _)]) ⟨rfl, rfl, rfl, rfl, trivial⟩
    refine wp_ret (hQ _ _ ?_)
    have hm := hM1.cutB b4
    refine back1 hE12 rfl rfl (Mem.mkFact ?_ hm)
    first | rfl | rw [nameOf_out (by omega)]; rfl
  · intro hb1
    have ht1 := hb1
    try simp only [decide_eq_true_eq, decide_eq_false_iff_not, Bool.not_eq_true', Bool.not_eq_false', beq_iff_eq, Bool.and_eq_true, Bool.or_eq_true] at ht1
    refine oneOn hE6 rfl rfl hb1 fun C hC => val hE6 (R.move hE6 rfl) rfl fun a7 hE7 => hC _ _ ?_
    clear hC C
    clear hE6 a6
    refine oneOn hE7 rfl rfl hb1 fun C hC => val hE7 (R.move hE7 rfl) rfl fun a8 hE8 => hC _ _ ?_
    clear hC C
    clear hE7 a7
    refine oneOn hE8 rfl rfl hb1 fun C hC => val hE8 (R.lenSlice hE8 9 1 sl_34 rfl) rfl fun a9 hE9 => hC _ _ ?_
    clear hC C
    clear hE8 a8
    refine oneOn hE9 rfl rfl hb1 fun C hC => val hE9 (R.geq hE9 rfl rfl) rfl fun a10 hE10 => hC _ _ ?_
    clear hC C
    clear hE9 a9
    refine one fun C hC => val hE10 (R.pickF hE10 rfl hb1 rfl) rfl fun a11 hE11 => hC _ _ ?_
    clear hC C
    clear hE10 a10
    refine wpList_nil (hK3 _ _ ?_)
    clear hK3 K3
    replace hE11 := hE11.keep (E' := [(0, _), (2, _), (3, _), (12, _)]) ⟨rfl, rfl, rfl, rfl, trivial⟩
    refine condR hE11 rfl ?_ ?_
    · intro hb2
      have ht2 := hb2
      try simp only [decide_eq_true_eq, decide_eq_false_iff_not, Bool.not_eq_true', Bool.not_eq_false', beq_iff_eq, Bool.and_eq_true, Bool.or_eq_true] at ht2
      refine wp_seq_k fun K5 hK5 => ?_
      refine wp_region_lit ?_
      refine one fun C hC => val hE11 (R.assign hE11 rfl) rfl fun a12 hE12 => hC _ _ ?_
      clear hC C
      clear hE11 a11
      refine wpList_nil (hK5 _ _ ?_)
      clear hK5 K5
      replace hE12 := hE12.keep (E' := [(0, _), (2, _), (3, _), (12, _)]) ⟨rfl, rfl, rfl, rfl, trivial⟩
      refine wp_ret (hQ _ _ ?_)
      have hm := hM1.cutB b4
      refine back1 hE12 rfl rfl (Mem.mkFact ?_ hm)
      first | rfl | rw [nameOf_out (by omega)]; rfl
    · intro hb2
      have ht2 := hb2
      try simp only [decide_eq_true_eq, decide_eq_false_iff_not, Bool.not_eq_true', Bool.not_eq_false', beq_iff_eq, Bool.and_eq_true, Bool.or_eq_true] at ht2
      refine wp_skip (hK2 _ _ ?_)
      refine wp_seq_k fun K6 hK6 => ?_
      refine wp_region_lit ?_
      refine one fun C hC => val hE11 (R.move hE11 rfl) rfl fun a12 hE12 => hC _ _ ?_
      clear hC C
      clear hE11 a11
      refine one fun C hC => val hE12 (R.move hE12 rfl) rfl fun a13 hE13 => hC _ _ ?_
      clear hC C
      clear hE12 a12
      refine one fun C hC => val hE13 (R.index hE13 9 1 sl_34 rfl rfl k.toNat (by omega) (by omega)) rfl fun a14 hE14 => hC _ _ ?_
      clear hC C
      clear hE13 a13
      refine one fun C hC => val hE14 (R.load hE14 sc_9 rfl hM1 (by rw [show 0 + k.toNat * 1 = k.toNat by omega]; exact namesV_at (by omega) (by omega))) rfl fun a15 hE15 => hC _ _ ?_
      clear hC C
      clear hE14 a14
      refine one fun C hC => val hE15 (R.assign hE15 rfl) rfl fun a16 hE16 => hC _ _ ?_
      clear hC C
      clear hE15 a15
      refine wpList_nil (hK6 _ _ ?_)
      clear hK6 K6
      replace hE16 := hE16.keep (E' := [(0, _), (2, _), (3, _), (12, _)]) ⟨rfl, rfl, rfl, rfl, trivial⟩
      refine wp_ret (hQ _ _ ?_)
      have hm := hM1.cutB b4
      refine back1 hE16 rfl rfl (Mem.mkFact ?_ hm)
      first | rfl | rw [nameOf_out (by omega)]; rfl

set_option maxHeartbeats 400000 in
theorem fname_c (k : Int) : Fn Tryd.prog 109 [.int .i64 k] (.string (nameOf k)) := by
  intro β w0 F0 hM0
  replace hM0 := hM0.ofEmp
  refine enter Tryd.func109 (by rfl) 14 rfl rfl fun a0 Q hE0 hQ hN hP => ?_
  refine wp_seq_k fun K0 hK0 => ?_
  refine wp_region_lit ?_
  refine one fun C hC => val hE0 (R.assign hE0 rfl) rfl fun a1 hE1 => hC _ _ ?_
  clear hC C
  clear hE0 a0
  refine wpList_nil (hK0 _ _ ?_)
  clear hK0 K0
  replace hE1 := hE1.keep (E' := [(0, _), (2, _)]) ⟨rfl, rfl, trivial⟩
  refine wp_seq_k fun K1 hK1 => ?_
  refine wp_region_lit ?_
  refine one fun C hC => val hE1 (R.build hE1 (ps := (namesV.zipIdx 0).map fun x => (x.2, x.1)) (cs := namesV) (by kernel_rfl) (fun w => run_build _ _ _ _ (by kernel_rfl))) rfl fun a2 hE2 => hC _ _ ?_
  clear hC C
  clear hE1 a1
  refine one fun C hC => alloc hE2 hM0 _ al_155 [.string ByteArray.empty, .string ByteArray.empty, .string ByteArray.empty, .string ByteArray.empty, .string ByteArray.empty, .string ByteArray.empty, .string ByteArray.empty, .string ByteArray.empty, .string ByteArray.empty, .string ByteArray.empty, .string ByteArray.empty, .string ByteArray.empty, .string ByteArray.empty, .string ByteArray.empty, .string ByteArray.empty, .string ByteArray.empty, .string ByteArray.empty, .string ByteArray.empty, .string ByteArray.empty, .string ByteArray.empty, .string ByteArray.empty, .string ByteArray.empty, .string ByteArray.empty, .string ByteArray.empty] rfl rfl  fun b3 a3 w1 hE3 hM1 => hC _ _ ?_
  clear hC C hE2 hM0 a2
  refine one fun C hC => storeAgg hE3 hM1 ss_155 rfl rfl rfl rfl rfl  fun  a4 w2 hE4 hM2 => hC _ _ ?_
  clear hC C hE3 hM1 a3
  try simp only [setSeg, List.set_cons_zero, List.set_cons_succ, Nat.zero_add, Nat.reduceAdd] at hM2
  refine wpList_nil (hK1 _ _ ?_)
  clear hK1 K1
  replace hE4 := hE4.keep (E' := [(0, _), (2, _), (3, _)]) ⟨rfl, rfl, rfl, trivial⟩
  refine wp_seq_k fun K2 hK2 => ?_
  refine wp_seq_k fun K3 hK3 => ?_
  have hM3 : Mem β _ (star (pts b3 155 namesV) F0) := hM2
  clear hM2
  refine wp_region_lit ?_
  refine one fun C hC => val hE4 (R.move hE4 rfl) rfl fun a5 hE5 => hC _ _ ?_
  clear hC C
  clear hE4 a4
  refine one fun C hC => val hE5 (R.lss hE5 rfl rfl) rfl fun a6 hE6 => hC _ _ ?_
  clear hC C
  clear hE5 a5
  refine one fun C hC => val hE6 (R.move hE6 rfl) rfl fun a7 hE7 => hC _ _ ?_
  clear hC C
  clear hE6 a6
  refine splitE hE7 (x := .tmp 7) rfl ?_ ?_
  · intro hb1
    have ht1 := hb1
    try simp only [decide_eq_true_eq, decide_eq_false_iff_not, Bool.not_eq_true', Bool.not_eq_false', beq_iff_eq, Bool.and_eq_true, Bool.or_eq_true] at ht1
    refine oneOff hE7 rfl rfl hb1 rfl fun a8 hE8 => ?_
    clear hE7 a7
    refine oneOff hE8 rfl rfl hb1 rfl fun a9 hE9 => ?_
    clear hE8 a8
    refine one fun C hC => val hE9 (R.pickT hE9 rfl hb1 rfl) rfl fun a10 hE10 => hC _ _ ?_
    clear hC C
    clear hE9 a9
    refine wpList_nil (hK3 _ _ ?_)
    clear hK3 K3
    replace hE10 := hE10.keep (E' := [(0, _), (2, _), (3, _), (10, _)]) ⟨rfl, rfl, rfl, rfl, trivial⟩
    refine condT hE10 rfl rfl ?_
    refine wp_seq_k fun K4 hK4 => ?_
    refine wp_region_lit ?_
    refine one fun C hC => val hE10 (R.assign hE10 rfl) rfl fun a11 hE11 => hC _ _ ?_
    clear hC C
    clear hE10 a10
    refine wpList_nil (hK4 _ _ ?_)
    clear hK4 K4
    replace hE11 := hE11.keep (E' := [(0, _), (2, _), (3, _), (10, _)]) ⟨rfl, rfl, rfl, rfl, trivial⟩
    refine wp_ret (hQ _ _ ?_)
    have hm := hM3.cutB b3
    refine back1 hE11 rfl rfl (Mem.mkFact ?_ hm)
    first | rfl | rw [nameOf_out (by omega)]; rfl
  · intro hb1
    have ht1 := hb1
    try simp only [decide_eq_true_eq, decide_eq_false_iff_not, Bool.not_eq_true', Bool.not_eq_false', beq_iff_eq, Bool.and_eq_true, Bool.or_eq_true] at ht1
    refine oneOn hE7 rfl rfl hb1 fun C hC => val hE7 (R.move hE7 rfl) rfl fun a8 hE8 => hC _ _ ?_
    clear hC C
    clear hE7 a7
    refine oneOn hE8 rfl rfl hb1 fun C hC => val hE8 (R.geq hE8 rfl rfl) rfl fun a9 hE9 => hC _ _ ?_
    clear hC C
    clear hE8 a8
    refine one fun C hC => val hE9 (R.pickF hE9 rfl hb1 rfl) rfl fun a10 hE10 => hC _ _ ?_
    clear hC C
    clear hE9 a9
    refine wpList_nil (hK3 _ _ ?_)
    clear hK3 K3
    replace hE10 := hE10.keep (E' := [(0, _), (2, _), (3, _), (10, _)]) ⟨rfl, rfl, rfl, rfl, trivial⟩
    refine condR hE10 rfl ?_ ?_
    · intro hb2
      have ht2 := hb2
      try simp only [decide_eq_true_eq, decide_eq_false_iff_not, Bool.not_eq_true', Bool.not_eq_false', beq_iff_eq, Bool.and_eq_true, Bool.or_eq_true] at ht2
      refine wp_seq_k fun K5 hK5 => ?_
      refine wp_region_lit ?_
      refine one fun C hC => val hE10 (R.assign hE10 rfl) rfl fun a11 hE11 => hC _ _ ?_
      clear hC C
      clear hE10 a10
      refine wpList_nil (hK5 _ _ ?_)
      clear hK5 K5
      replace hE11 := hE11.keep (E' := [(0, _), (2, _), (3, _), (10, _)]) ⟨rfl, rfl, rfl, rfl, trivial⟩
      refine wp_ret (hQ _ _ ?_)
      have hm := hM3.cutB b3
      refine back1 hE11 rfl rfl (Mem.mkFact ?_ hm)
      first | rfl | rw [nameOf_out (by omega)]; rfl
    · intro hb2
      have ht2 := hb2
      try simp only [decide_eq_true_eq, decide_eq_false_iff_not, Bool.not_eq_true', Bool.not_eq_false', beq_iff_eq, Bool.and_eq_true, Bool.or_eq_true] at ht2
      refine wp_skip (hK2 _ _ ?_)
      refine wp_seq_k fun K6 hK6 => ?_
      refine wp_region_lit ?_
      refine one fun C hC => val hE10 (R.move hE10 rfl) rfl fun a11 hE11 => hC _ _ ?_
      clear hC C
      clear hE10 a10
      refine one fun C hC => val hE11 (R.indexArr0 hE11 24 9 ar_24 rfl rfl k.toNat (by omega) (by omega)) rfl fun a12 hE12 => hC _ _ ?_
      clear hC C
      clear hE11 a11
      refine one fun C hC => val hE12 (R.load hE12 sc_9 rfl hM3 (namesV_at (by omega) (by omega))) rfl fun a13 hE13 => hC _ _ ?_
      clear hC C
      clear hE12 a12
      refine one fun C hC => val hE13 (R.assign hE13 rfl) rfl fun a14 hE14 => hC _ _ ?_
      clear hC C
      clear hE13 a13
      refine wpList_nil (hK6 _ _ ?_)
      clear hK6 K6
      replace hE14 := hE14.keep (E' := [(0, _), (2, _), (3, _), (10, _)]) ⟨rfl, rfl, rfl, rfl, trivial⟩
      refine wp_ret (hQ _ _ ?_)
      have hm := hM3.cutB b3
      refine back1 hE14 rfl rfl (Mem.mkFact ?_ hm)
      first | rfl | rw [nameOf_out (by omega)]; rfl

set_option maxHeartbeats 400000 in
theorem name_c (k : Int) : Fn Tryd.prog 4 [.int .i64 k] (.string (nameOf k)) := by
  intro β w0 F0 hM0
  replace hM0 := hM0.ofEmp
  refine enter Tryd.func4 (by rfl) 8 rfl rfl fun a0 Q hE0 hQ hN hP => ?_
  refine wp_seq_k fun K0 hK0 => ?_
  refine wp_region_lit ?_
  refine one fun C hC => val hE0 (R.assign hE0 rfl) rfl fun a1 hE1 => hC _ _ ?_
  clear hC C
  clear hE0 a0
  refine wpList_nil (hK0 _ _ ?_)
  clear hK0 K0
  replace hE1 := hE1.keep (E' := [(0, _), (2, _)]) ⟨rfl, rfl, trivial⟩
  refine wp_seq_k fun K1 hK1 => ?_
  refine wp_region_lit ?_
  refine one fun C hC => val hE1 (R.move hE1 rfl) rfl fun a2 hE2 => hC _ _ ?_
  clear hC C
  clear hE1 a1
  refine one fun C hC => val hE2 (R.mkIface hE2 co_31 rfl) rfl fun a3 hE3 => hC _ _ ?_
  clear hC C
  clear hE2 a2
  refine one fun C hC => val hE3 (R.assign hE3 rfl) rfl fun a4 hE4 => hC _ _ ?_
  clear hC C
  clear hE3 a3
  refine wpList_nil (hK1 _ _ ?_)
  clear hK1 K1
  replace hE4 := hE4.keep (E' := [(0, _), (2, _), (3, _)]) ⟨rfl, rfl, rfl, trivial⟩
  refine wp_seq_k fun K2 hK2 => ?_
  refine wp_region_lit ?_
  refine one fun C hC => val hE4 (R.move hE4 rfl) rfl fun a5 hE5 => hC _ _ ?_
  clear hC C
  clear hE4 a4
  refine one fun C hC => callI hE5 rfl (by intro w; kernel_rfl) (fname_c k) cb_109 hM0 rfl fun  a6 w1 hE6 hM1 => hC _ _ ?_
  clear hC C hE5 hM0 a5
  refine one fun C hC => val hE6 (R.assign hE6 rfl) rfl fun a7 hE7 => hC _ _ ?_
  clear hC C
  clear hE6 a6
  refine wpList_nil (hK2 _ _ ?_)
  clear hK2 K2
  replace hE7 := hE7.keep (E' := [(0, _), (2, _), (3, _)]) ⟨rfl, rfl, rfl, trivial⟩
  refine wp_ret (hQ _ _ ?_)
  exact back1 hE7 rfl rfl (Mem.mkFact rfl hM1)

set_option maxHeartbeats 400000 in
theorem num_c (k : Int) : Fn Tryd.prog 6 [.int .i64 k] (.int .i64 k) := by
  intro β w0 F0 hM0
  replace hM0 := hM0.ofEmp
  refine enter Tryd.func6 (by rfl) 4 rfl rfl fun a0 Q hE0 hQ hN hP => ?_
  refine wp_seq_k fun K0 hK0 => ?_
  refine wp_region_lit ?_
  refine one fun C hC => val hE0 (R.assign hE0 rfl) rfl fun a1 hE1 => hC _ _ ?_
  clear hC C
  clear hE0 a0
  refine wpList_nil (hK0 _ _ ?_)
  clear hK0 K0
  replace hE1 := hE1.keep (E' := [(0, _), (2, _)]) ⟨rfl, rfl, trivial⟩
  refine wp_seq_k fun K1 hK1 => ?_
  refine wp_region_lit ?_
  refine one fun C hC => val hE1 (R.move hE1 rfl) rfl fun a2 hE2 => hC _ _ ?_
  clear hC C
  clear hE1 a1
  refine one fun C hC => val hE2 (R.assign hE2 rfl) rfl fun a3 hE3 => hC _ _ ?_
  clear hC C
  clear hE2 a2
  refine wpList_nil (hK1 _ _ ?_)
  clear hK1 K1
  replace hE3 := hE3.keep (E' := [(0, _), (2, _)]) ⟨rfl, rfl, trivial⟩
  refine wp_ret (hQ _ _ ?_)
  exact back1 hE3 rfl rfl (Mem.mkFact rfl hM0)

end Go.Sv
