import Derived.Test.YthaalghnpfpjmaaDoorProg
import Derived.Test.YthaalghnpfpjmaaDoorMach16
set_option linter.all false
set_option linter.unusedVariables false
set_option linter.unusedSimpArgs false
set_option maxRecDepth 100000
namespace Go.Sv
open Go.RowKit Go.Proofs
attribute [local irreducible] row pts star blk emp fact any attrsOf machAt tagAt

namespace FMach17
theorem ar_l : arrayB Tryd.prog 118 16 9 1 = true := by kernel_rfl
theorem cb_79 : callB Tryd.prog 79 = true := by kernel_rfl
theorem cb_80 : callB Tryd.prog 80 = true := by kernel_rfl
theorem cb_81 : callB Tryd.prog 81 = true := by kernel_rfl
theorem sc_9 : scalarB Tryd.prog 9 = true := by kernel_rfl
theorem sl_34 : sliceB Tryd.prog 34 9 1 = true := by kernel_rfl
end FMach17
open FMach17
set_option maxHeartbeats 400000 in
theorem isSet_c (k : Int) : Fn Tryd.prog 79 [.int .i64 k] (.bool (decide (0 ≤ k) && decide (k < 16))) := by
  intro β w0 F0 hM0
  replace hM0 := hM0.ofEmp
  refine enter Tryd.func79 (by rfl) 9 rfl rfl fun a0 Q hE0 hQ hN hP => ?_
  refine wp_seq_k fun K0 hK0 => ?_
  refine wp_region_lit ?_
  refine one fun C hC => val hE0 (R.assign hE0 rfl) rfl fun a1 hE1 => hC _ _ ?_
  clear hC C
  clear hE0 a0
  refine wpList_nil (hK0 _ _ ?_)
  clear hK0 K0
  replace hE1 := hE1.keep (E' := [(0, _), (2, _)]) ⟨rfl, rfl, trivial⟩
  refine wp_seq_k fun K1 hK1 => ?_
  refine wp_region_lit ?_
  refine one fun C hC => val hE1 (R.move hE1 rfl) rfl fun a2 hE2 => hC _ _ ?_
  clear hC C
  clear hE1 a1
  refine one fun C hC => val hE2 (R.geq hE2 rfl rfl) rfl fun a3 hE3 => hC _ _ ?_
  clear hC C
  clear hE2 a2
  refine one fun C hC => val hE3 (R.move hE3 rfl) rfl fun a4 hE4 => hC _ _ ?_
  clear hC C
  clear hE3 a3
  refine splitE hE4 (x := .tmp 5) rfl ?_ ?_
  · intro hb1
    have ht1 := hb1
    try simp only [decide_eq_true_eq, decide_eq_false_iff_not, Bool.not_eq_true', Bool.not_eq_false', beq_iff_eq, Bool.and_eq_true, Bool.or_eq_true] at ht1
    refine oneOn hE4 rfl rfl hb1 fun C hC => val hE4 (R.move hE4 rfl) rfl fun a5 hE5 => hC _ _ ?_
    clear hC C
    clear hE4 a4
    refine oneOn hE5 rfl rfl hb1 fun C hC => val hE5 (R.lss hE5 rfl rfl) rfl fun a6 hE6 => hC _ _ ?_
    clear hC C
    clear hE5 a5
    refine one fun C hC => val hE6 (R.pickT hE6 rfl hb1 rfl) rfl fun a7 hE7 => hC _ _ ?_
    clear hC C
    clear hE6 a6
    refine one fun C hC => val hE7 (R.assign hE7 rfl) rfl fun a8 hE8 => hC _ _ ?_
    clear hC C
    clear hE7 a7
    refine wpList_nil (hK1 _ _ ?_)
    clear hK1 K1
    replace hE8 := hE8.keep (E' := [(0, _), (2, _)]) ⟨rfl, rfl, trivial⟩
    refine wp_ret (hQ _ _ ?_)
    refine back1 hE8 rfl rfl (Mem.mkFact ?_ hM0)
    first | rfl | (simp [ht1]; done) | (simp [ht1]; omega)
  · intro hb1
    have ht1 := hb1
    try simp only [decide_eq_true_eq, decide_eq_false_iff_not, Bool.not_eq_true', Bool.not_eq_false', beq_iff_eq, Bool.and_eq_true, Bool.or_eq_true] at ht1
    refine oneOff hE4 rfl rfl hb1 rfl fun a5 hE5 => ?_
    clear hE4 a4
    refine oneOff hE5 rfl rfl hb1 rfl fun a6 hE6 => ?_
    clear hE5 a5
    refine one fun C hC => val hE6 (R.pickF hE6 rfl hb1 rfl) rfl fun a7 hE7 => hC _ _ ?_
    clear hC C
    clear hE6 a6
    refine one fun C hC => val hE7 (R.assign hE7 rfl) rfl fun a8 hE8 => hC _ _ ?_
    clear hC C
    clear hE7 a7
    refine wpList_nil (hK1 _ _ ?_)
    clear hK1 K1
    replace hE8 := hE8.keep (E' := [(0, _), (2, _)]) ⟨rfl, rfl, trivial⟩
    refine wp_ret (hQ _ _ ?_)
    refine back1 hE8 rfl rfl (Mem.mkFact ?_ hM0)
    first | rfl | (simp [ht1]; done) | (simp [ht1]; omega)

theorem anyL_take {L : List ByteArray} {p : ByteArray → Bool} {i : Nat} (h : i < L.length) : (L.take (i + 1)).any p = ((L.take i).any p || p L[i]) := by
  rw [List.take_add_one, List.getElem?_eq_getElem h, List.any_append]; simp only [Option.toList_some, List.any_cons, List.any_nil, Bool.or_false]
theorem anyL_at {L : List ByteArray} {p : ByteArray → Bool} {i : Nat} (h : i < L.length) (hp : p L[i] = true) : L.any p = true := List.any_eq_true.2 ⟨_, List.getElem_mem h, hp⟩

set_option maxHeartbeats 400000 in
theorem in_gen (G : HProp) (hA : AscG G) (n : ByteArray) (k : Int) (hk0 : 0 ≤ k) (hk1 : k < 16) (s : ByteArray) (hs : s.size < 4294967281) (ha : ∀ (j : Nat) (c : UInt8), s.data.toList[j]? = some c → c.toNat < 128) (L : List ByteArray) (hL : (Lib.fields s.data.toList).map (fun l => (⟨l.toArray⟩ : ByteArray)) = L) (hn : L.length ≤ 1000) (hv : ∀ vs, ListsOk vs → vs[k.toNat]? = some (.string s)) : Fm Tryd.prog 70 [.string n, .int .i64 k] G (.bool (L.any fun x => x.data.toList == n.data.toList)) G := by
  intro β w0 F0 hM0
  refine enter Tryd.func70 (by rfl) 23 rfl rfl fun a0 Q hE0 hQ hN hP => ?_
  refine wp_seq_k fun K0 hK0 => ?_
  refine wp_region_lit ?_
  refine one fun C hC => val hE0 (R.assign hE0 rfl) rfl fun a1 hE1 => hC _ _ ?_
  clear hC C
  clear hE0 a0
  refine wpList_nil (hK0 _ _ ?_)
  clear hK0 K0
  replace hE1 := hE1.keep (E' := [(0, _), (1, _), (4, _)]) ⟨rfl, rfl, rfl, trivial⟩
  refine wp_seq_k fun K1 hK1 => ?_
  refine wp_seq_k fun K2 hK2 => ?_
  refine wp_region_lit ?_
  refine one fun C hC => val hE1 (R.move hE1 rfl) rfl fun a2 hE2 => hC _ _ ?_
  clear hC C
  clear hE1 a1
  refine one fun C hC => callF hE2 (isSet_c _) cb_79 rfl hM0 rfl  fun  a3 w1 hE3 hM1 => hC _ _ ?_
  clear hC C hE2 hM0 a2
  refine one fun C hC => val hE3 (R.not hE3 rfl) rfl fun a4 hE4 => hC _ _ ?_
  clear hC C
  clear hE3 a3
  refine wpList_nil (hK2 _ _ ?_)
  clear hK2 K2
  replace hE4 := hE4.keep (E' := [(0, _), (1, _), (4, _), (9, _)]) ⟨rfl, rfl, rfl, rfl, trivial⟩
  refine condR hE4 rfl ?_ ?_
  · intro hb1
    have ht1 := hb1
    try simp only [decide_eq_true_eq, decide_eq_false_iff_not, Bool.not_eq_true', Bool.not_eq_false', beq_iff_eq, Bool.and_eq_true, Bool.or_eq_true] at ht1
    refine wp_seq_k fun K3 hK3 => ?_
    exfalso
    simp at ht1
    omega
  · intro hb1
    have ht1 := hb1
    try simp only [decide_eq_true_eq, decide_eq_false_iff_not, Bool.not_eq_true', Bool.not_eq_false', beq_iff_eq, Bool.and_eq_true, Bool.or_eq_true] at ht1
    refine wp_skip (hK1 _ _ ?_)
    refine wp_seq_k fun K4 hK4 => ?_
    refine wp_seq_k fun K5 hK5 => ?_
    refine wp_region_lit ?_
    refine one fun C hC => callX hE4 (lists_c) cb_81 rfl hM1.emp rfl  fun vs a5 w2 hE5 hM2 => hC _ _ ?_
    clear hC C hE4 hM1 a4
    replace hM2 := hM2.cast (emp_star _)
    refine one fun C hC => val hE5 (R.move hE5 rfl) rfl fun a6 hE6 => hC _ _ ?_
    clear hC C
    clear hE5 a5
    refine one fun C hC => val hE6 (R.arrAt hE6 16 9 ar_l sc_9 rfl rfl k.toNat (by omega) (by omega) (hv vs.1 vs.2)) rfl fun a7 hE7 => hC _ _ ?_
    clear hC C
    clear hE6 a6
    refine one fun C hC => callX hE7 (fields_c G hA s hs ha L hL hn) cb_80 rfl (hM2.split (FindA.out (A := G))) rfl  fun g a8 w3 hE8 hM3 => hC _ _ ?_
    clear hC C hE7 hM2 a7
    refine one fun C hC => val hE8 (R.lenSlice hE8 9 1 sl_34 rfl) rfl fun a9 hE9 => hC _ _ ?_
    clear hC C
    clear hE8 a8
    refine one fun C hC => val hE9 (R.move hE9 rfl) rfl fun a10 hE10 => hC _ _ ?_
    clear hC C
    clear hE9 a9
    refine wpList_nil (hK5 _ _ ?_)
    clear hK5 K5
    replace hE10 := hE10.keep (E' := [(0, _), (1, _), (4, _), (9, _), (13, _), (14, _), (15, _)]) ⟨rfl, rfl, rfl, rfl, rfl, rfl, rfl, trivial⟩
    refine wp_block ?_
    refine loopR (σ := Nat) (fun i a w => Env 23 [] a [(0, .string n), (13, .slice (some ⟨g, 0, none⟩) L.length L.length), (14, .int .i64 L.length), (15, .int .i64 i)] ∧ Mem β w (star (row 9 1 encStr (some ⟨g, 0, none⟩) L.length L) (star G F0)) ∧ i ≤ L.length ∧ (L.take i).any (fun x => x.data.toList == n.data.toList) = false) (fun i => L.length - i) 0 ?_ ?_
    · exact ⟨hE10.keep (by refine ⟨?_, ?_, ?_, ?_, trivial⟩ <;> rfl), hM3.cast (by ac_rfl), by omega, rfl⟩
    · clear hE10 hM3 a10
      rintro i a11 w4 ⟨hE11, hM4, hi, hf⟩ K hK
      have hK6 : ∀ a w, K a w → K a w := fun _ _ h => h
      refine wp_seq_k fun K7 hK7 => ?_
      refine wp_region_lit ?_
      refine one fun C hC => val hE11 (R.lss hE11 rfl rfl) rfl fun a12 hE12 => hC _ _ ?_
      clear hC C
      clear hE11 a11
      refine wpList_nil (hK7 _ _ ?_)
      clear hK7 K7
      replace hE12 := hE12.keep (E' := [(0, _), (13, _), (14, _), (15, _), (16, _)]) ⟨rfl, rfl, rfl, rfl, rfl, trivial⟩
      refine wp_seq_k fun K8 hK8 => ?_
      refine condR hE12 rfl ?_ ?_
      · intro hb2
        have ht2 := hb2
        try simp only [decide_eq_true_eq, decide_eq_false_iff_not, Bool.not_eq_true', Bool.not_eq_false', beq_iff_eq, Bool.and_eq_true, Bool.or_eq_true] at ht2
        refine wp_skip (hK8 _ _ ?_)
        refine wp_seq_k fun K9 hK9 => ?_
        refine wp_block ?_
        refine wp_seq_k fun K10 hK10 => ?_
        have hlt : i < L.length := by omega
        refine wp_region_lit ?_
        refine one fun C hC => val hE12 (R.indexRow hE12 9 1 sl_34 rfl rfl hM4 i rfl (by omega) rfl) rfl fun a13 hE13 => hC _ _ ?_
        clear hC C
        clear hE12 a12
        refine one fun C hC => val hE13 (R.loadElem hE13 sc_9 rfl hM4 i 0 rfl (getElem?_of_lt hlt) rfl) rfl fun a14 hE14 => hC _ _ ?_
        clear hC C
        clear hE13 a13
        refine one fun C hC => val hE14 (R.assign hE14 rfl) rfl fun a15 hE15 => hC _ _ ?_
        clear hC C
        clear hE14 a14
        refine wpList_nil (hK10 _ _ ?_)
        clear hK10 K10
        replace hE15 := hE15.keep (E' := [(0, _), (6, _), (13, _), (14, _), (15, _), (16, _)]) ⟨rfl, rfl, rfl, rfl, rfl, rfl, trivial⟩
        refine wp_seq_k fun K11 hK11 => ?_
        refine wp_region_lit ?_
        refine one fun C hC => val hE15 (R.move hE15 rfl) rfl fun a16 hE16 => hC _ _ ?_
        clear hC C
        clear hE15 a15
        refine one fun C hC => val hE16 (R.move hE16 rfl) rfl fun a17 hE17 => hC _ _ ?_
        clear hC C
        clear hE16 a16
        refine one fun C hC => val hE17 (R.seql hE17 rfl rfl) rfl fun a18 hE18 => hC _ _ ?_
        clear hC C
        clear hE17 a17
        refine wpList_nil (hK11 _ _ ?_)
        clear hK11 K11
        replace hE18 := hE18.keep (E' := [(0, _), (6, _), (13, _), (14, _), (15, _), (16, _), (21, _)]) ⟨rfl, rfl, rfl, rfl, rfl, rfl, rfl, trivial⟩
        refine condR hE18 rfl ?_ ?_
        · intro hb3
          have ht3 := hb3
          try simp only [decide_eq_true_eq, decide_eq_false_iff_not, Bool.not_eq_true', Bool.not_eq_false', beq_iff_eq, Bool.and_eq_true, Bool.or_eq_true] at ht3
          refine wp_seq_k fun K12 hK12 => ?_
          refine wp_region_lit ?_
          refine one fun C hC => val hE18 (R.assign hE18 rfl) rfl fun a19 hE19 => hC _ _ ?_
          clear hC C
          clear hE18 a18
          refine wpList_nil (hK12 _ _ ?_)
          clear hK12 K12
          replace hE19 := hE19.keep (E' := [(0, _), (4, _), (6, _), (13, _), (14, _), (15, _), (16, _), (21, _)]) ⟨rfl, rfl, rfl, rfl, rfl, rfl, rfl, rfl, trivial⟩
          refine wp_ret (hQ _ _ ?_)
          have hr : (L.any fun x => x.data.toList == n.data.toList) = true := anyL_at hlt (by simpa using ht3)
          refine back1 hE19 rfl rfl (Mem.done (by rw [hr]) ?_)
          exact (hM4.cut (row 9 1 encStr (some ⟨g, 0, none⟩) L.length L))
        · intro hb3
          have ht3 := hb3
          try simp only [decide_eq_true_eq, decide_eq_false_iff_not, Bool.not_eq_true', Bool.not_eq_false', beq_iff_eq, Bool.and_eq_true, Bool.or_eq_true] at ht3
          refine wp_skip (hK9 _ _ ?_)
          refine wp_region_lit ?_
          refine one fun C hC => val hE18 (R.add64 hE18 rfl rfl (by omega) (by omega)) rfl fun a19 hE19 => hC _ _ ?_
          clear hC C
          clear hE18 a18
          refine one fun C hC => val hE19 (R.move hE19 rfl) rfl fun a20 hE20 => hC _ _ ?_
          clear hC C
          clear hE19 a19
          replace hE20 := hE20.keep (E' := [(0, _), (6, _), (13, _), (14, _), (15, _), (16, _), (21, _)]) ⟨rfl, rfl, rfl, rfl, rfl, rfl, rfl, trivial⟩
          refine wpList_nil (hK6 _ _ ?_)
          exact hK (i + 1) _ _ ⟨hE20.keep (by refine ⟨?_, ?_, ?_, ?_, trivial⟩ <;> first | rfl | exact eqInt (by push_cast; rfl)), hM4, by omega, by rw [anyL_take hlt, hf]; simpa using ht3⟩ (by omega)
      · intro hb2
        have ht2 := hb2
        try simp only [decide_eq_true_eq, decide_eq_false_iff_not, Bool.not_eq_true', Bool.not_eq_false', beq_iff_eq, Bool.and_eq_true, Bool.or_eq_true] at ht2
        refine wp_exit (exitThen (exitThen (exitIn ?_)))
        refine hK4 _ _ ?_
        refine wp_seq_k fun K13 hK13 => ?_
        refine wp_region_lit ?_
        refine one fun C hC => val hE12 (R.assign hE12 rfl) rfl fun a13 hE13 => hC _ _ ?_
        clear hC C
        clear hE12 a12
        refine wpList_nil (hK13 _ _ ?_)
        clear hK13 K13
        replace hE13 := hE13.keep (E' := [(0, _), (4, _), (13, _), (14, _), (15, _), (16, _)]) ⟨rfl, rfl, rfl, rfl, rfl, rfl, trivial⟩
        refine wp_ret (hQ _ _ ?_)
        have hr : (L.any fun x => x.data.toList == n.data.toList) = false := by rw [List.take_of_length_le (by omega)] at hf; exact hf
        refine back1 hE13 rfl rfl (Mem.done (by rw [hr]) ?_)
        exact (hM4.cut (row 9 1 encStr (some ⟨g, 0, none⟩) L.length L))

theorem strs2 : (Lib.fields str2.data.toList).map (fun l => (⟨l.toArray⟩ : ByteArray)) = [⟨#[116, 101, 120, 116, 97, 114, 101, 97]⟩, ⟨#[116, 105, 116, 108, 101]⟩] := by kernel_rfl
theorem strs3 : (Lib.fields str3.data.toList).map (fun l => (⟨l.toArray⟩ : ByteArray)) = [⟨#[105, 102, 114, 97, 109, 101]⟩, ⟨#[110, 111, 101, 109, 98, 101, 100]⟩, ⟨#[110, 111, 102, 114, 97, 109, 101, 115]⟩, ⟨#[110, 111, 115, 99, 114, 105, 112, 116]⟩, ⟨#[115, 116, 121, 108, 101]⟩, ⟨#[120, 109, 112]⟩] := by kernel_rfl
theorem ascii_all (l : List UInt8) (h : l.all (fun c => decide (c.toNat < 128)) = true) : ∀ (j : Nat) (c : UInt8), l[j]? = some c → c.toNat < 128 := fun j c hj => by
  obtain ⟨hl, rfl⟩ := List.getElem?_eq_some_iff.1 hj
  simpa using List.all_eq_true.1 h _ (List.getElem_mem hl)
theorem in_c (G : HProp) (hA : AscG G) (n : ByteArray) (k : Int) (hk : k = 2 ∨ k = 3) : Fm Tryd.prog 70 [.string n, .int .i64 k] G (.bool (inSet k n)) G := by
  rcases hk with rfl | rfl
  · exact in_gen G hA n 2 (by omega) (by omega) str2 (by decide) (ascii_all _ (by kernel_rfl)) _ strs2 (by decide) (fun vs h => h.2.1)
  · exact in_gen G hA n 3 (by omega) (by omega) str3 (by decide) (ascii_all _ (by kernel_rfl)) _ strs3 (by decide) (fun vs h => h.2.2)

end Go.Sv
