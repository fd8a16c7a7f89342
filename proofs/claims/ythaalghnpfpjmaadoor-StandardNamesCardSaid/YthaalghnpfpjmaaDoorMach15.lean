import Derived.Test.YthaalghnpfpjmaaDoorProg
import Derived.Test.YthaalghnpfpjmaaDoorMach14
import Derived.Test.YthaalghnpfpjmaaDoorRules4
import Derived.Test.YthaalghnpfpjmaaDoorShelf
set_option linter.all false
set_option linter.unusedVariables false
set_option linter.unusedSimpArgs false
set_option maxRecDepth 100000
namespace Go.Sv
open Go.RowKit Go.Proofs
attribute [local irreducible] row pts star blk emp fact any attrsOf machAt tagAt

namespace FMach15
theorem al_93 : (Tryd.prog.info? 93).bind (·.zero) = some (.agg [.string ByteArray.empty, .int .i32 0, .int .i32 0, .bool false].toArray) := by kernel_rfl
theorem cb_53 : callB Tryd.prog 53 = true := by kernel_rfl
theorem cb_54 : callB Tryd.prog 54 = true := by kernel_rfl
theorem cb_55 : callB Tryd.prog 55 = true := by kernel_rfl
theorem fb_93_0 : fieldB Tryd.prog 93 0 0 = true := by kernel_rfl
theorem fb_93_3 : fieldB Tryd.prog 93 3 3 = true := by kernel_rfl
theorem sc_4 : scalarB Tryd.prog 4 = true := by kernel_rfl
theorem sc_9 : scalarB Tryd.prog 9 = true := by kernel_rfl
theorem sl_90 : sliceB Tryd.prog 90 93 4 = true := by kernel_rfl
theorem ss_93 : structB Tryd.prog 93 4 = true := by kernel_rfl
theorem st_9 : stringB Tryd.prog 9 = true := by kernel_rfl
end FMach15
open FMach15
theorem hasPrefix_c (s p : ByteArray) : Fn Tryd.prog 54 [.string s, .string p] (.bool (p.data.toList.isPrefixOf s.data.toList)) := fn_of_calls fun w => Tryd.strings_HasPrefix s p w
theorem ents_ok : ents.all (fun x => decide (x.name.length ≤ 40) && decide (1 ≤ x.name.length) && x.name.all (fun c => decide (c.toNat < 128))) = true := by kernel_rfl
theorem ents_at {i : Nat} (h : i < ents.length) : ents[i].name.length ≤ 40 ∧ 1 ≤ ents[i].name.length ∧ ∀ c ∈ ents[i].name, c.toNat < 128 := by
  have := List.all_eq_true.1 ents_ok _ (List.getElem_mem h)
  simp only [Bool.and_eq_true, decide_eq_true_eq, List.all_eq_true] at this
  exact ⟨this.1.1, this.1.2, this.2⟩
theorem drop_step {s : List UInt8} {acc : Nat × List Int} {i : Nat} (h : i < ents.length) (hf : (ents.drop i).foldl (entStep s) acc = longest s) : (ents.drop (i + 1)).foldl (entStep s) (entStep s acc ents[i]) = longest s := by
  rw [← hf, List.drop_eq_getElem_cons h, List.foldl_cons]
theorem dl_len (s : ByteArray) : s.data.toList.length = s.size := Array.length_toList
theorem u8_semi {c : UInt8} : (((c.toNat : Nat) : Int) = 59) ↔ c = 59 := by
  constructor
  · intro h
    have h2 : c.toNat = 59 := by omega
    exact UInt8.toNat_inj.1 (by simpa using h2)
  · rintro rfl; rfl
theorem nm_size (x : Ent) : ((⟨x.name.toArray⟩ : ByteArray).size : Nat) = x.name.length := by simp [ByteArray.size]

set_option maxHeartbeats 1000000 in
theorem longest_c (s : ByteArray) (hS : s.size ≤ 1000000) : Fx Tryd.prog 33 [.string s] emp (fun q : Option Addr × Nat => .tuple #[.int .i64 (longest s.data.toList).1, .slice q.1 (longest s.data.toList).2.length q.2]) (fun q => row 21 1 rune q.1 q.2 (longest s.data.toList).2) := by
  intro β w0 F0 hM0
  replace hM0 := hM0.ofEmp
  refine enter Tryd.func33 (by rfl) 47 rfl rfl fun a0 Q hE0 hQ hN hP => ?_
  refine wp_seq_k fun K0 hK0 => ?_
  refine wp_region_lit ?_
  refine one fun C hC => val hE0 (R.assign hE0 rfl) rfl fun a1 hE1 => hC _ _ ?_
  clear hC C
  clear hE0 a0
  refine one fun C hC => val hE1 (R.assign hE1 rfl) rfl fun a2 hE2 => hC _ _ ?_
  clear hC C
  clear hE1 a1
  refine wpList_nil (hK0 _ _ ?_)
  clear hK0 K0
  replace hE2 := hE2.keep (E' := [(0, _), (2, _), (3, _)]) ⟨rfl, rfl, rfl, trivial⟩
  refine wp_seq_k fun K1 hK1 => ?_
  refine wp_region_lit ?_
  refine one fun C hC => val hE2 (R.assign hE2 rfl) rfl fun a3 hE3 => hC _ _ ?_
  clear hC C
  clear hE2 a2
  refine wpList_nil (hK1 _ _ ?_)
  clear hK1 K1
  replace hE3 := hE3.keep (E' := [(0, _), (2, _), (3, _), (4, _)]) ⟨rfl, rfl, rfl, rfl, trivial⟩
  refine wp_seq_k fun K2 hK2 => ?_
  refine wp_region_lit ?_
  refine one fun C hC => val hE3 (R.assign hE3 rfl) rfl fun a4 hE4 => hC _ _ ?_
  clear hC C
  clear hE3 a3
  refine wpList_nil (hK2 _ _ ?_)
  clear hK2 K2
  replace hE4 := hE4.keep (E' := [(0, _), (2, _), (3, _), (4, _), (5, _)]) ⟨rfl, rfl, rfl, rfl, rfl, trivial⟩
  refine wp_seq_k fun K3 hK3 => ?_
  refine wp_seq_k fun K4 hK4 => ?_
  refine wp_region_lit ?_
  refine one fun C hC => callX hE4 (entities_c) cb_53 rfl hM0.emp rfl  fun q a5 w1 hE5 hM1 => hC _ _ ?_
  clear hC C hE4 hM0 a4
  refine one fun C hC => val hE5 (R.lenSlice hE5 93 4 sl_90 rfl) rfl fun a6 hE6 => hC _ _ ?_
  clear hC C
  clear hE5 a5
  refine one fun C hC => val hE6 (R.move hE6 rfl) rfl fun a7 hE7 => hC _ _ ?_
  clear hC C
  clear hE6 a6
  refine wpList_nil (hK4 _ _ ?_)
  clear hK4 K4
  replace hE7 := hE7.keep (E' := [(0, _), (2, _), (3, _), (4, _), (5, _), (9, _), (10, _), (11, _)]) ⟨rfl, rfl, rfl, rfl, rfl, rfl, rfl, rfl, trivial⟩
  refine wp_block ?_
  skip
  have hm := (hM1.row_nil 21 1 rune none)
  refine loopR (σ := Nat × (Nat × List Int) × Option Addr × Nat) (fun ⟨i, acc, oA, oC⟩ a w => Env 47 [] a [(0, .string s), (4, .int .i64 acc.1), (5, .slice oA acc.2.length oC), (9, .slice q.1 ents.length q.2), (10, .int .i64 ents.length), (11, .int .i64 i)] ∧ Mem β w (star (row 93 4 encEnt q.1 q.2 ents) (star (row 21 1 rune oA oC acc.2) F0)) ∧ i ≤ ents.length ∧ acc.1 ≤ 41 ∧ (ents.drop i).foldl (entStep s.data.toList) acc = longest s.data.toList) (fun ⟨i, acc, oA, oC⟩ => ents.length - i) (0, (0, []), none, 0) ?_ ?_
  · exact ⟨hE7.keep (by refine ⟨?_, ?_, ?_, ?_, ?_, ?_, trivial⟩ <;> rfl), hm.cast (by ac_rfl), by omega, by omega, rfl⟩
  · clear hm hE7 hM1 a7
    rintro ⟨i, acc, oA, oC⟩ a8 w2 ⟨hE8, hM2, hi, hb, hf⟩ K hK
    try dsimp only at hE8 hM2
    have hlen := ents_len
    have hK5 : ∀ a w, K a w → K a w := fun _ _ h => h
    refine wp_seq_k fun K6 hK6 => ?_
    refine wp_region_lit ?_
    refine one fun C hC => val hE8 (R.lss hE8 rfl rfl) rfl fun a9 hE9 => hC _ _ ?_
    clear hC C
    clear hE8 a8
    refine wpList_nil (hK6 _ _ ?_)
    clear hK6 K6
    replace hE9 := hE9.keep (E' := [(0, _), (4, _), (5, _), (9, _), (10, _), (11, _), (12, _)]) ⟨rfl, rfl, rfl, rfl, rfl, rfl, rfl, trivial⟩
    refine wp_seq_k fun K7 hK7 => ?_
    refine condR hE9 rfl ?_ ?_
    · intro hb1
      have ht1 := hb1
      try simp only [decide_eq_true_eq, decide_eq_false_iff_not, Bool.not_eq_true', Bool.not_eq_false', beq_iff_eq, Bool.and_eq_true, Bool.or_eq_true] at ht1
      refine wp_skip (hK7 _ _ ?_)
      refine wp_seq_k fun K8 hK8 => ?_
      refine wp_block ?_
      refine wp_seq_k fun K9 hK9 => ?_
      have hlt : i < ents.length := by omega
      obtain ⟨hn40, hn1, hnA⟩ := ents_at hlt
      have hsz := nm_size ents[i]
      refine wp_region_lit ?_
      refine one fun C hC => val hE9 (R.indexRow hE9 93 4 sl_90 rfl rfl hM2 i rfl (by omega) rfl) rfl fun a10 hE10 => hC _ _ ?_
      clear hC C
      clear hE9 a9
      refine one fun C hC => val hE10 (R.loadElemAgg hE10 ss_93 rfl hM2 i rfl (getElem?_of_lt hlt)) rfl fun a11 hE11 => hC _ _ ?_
      clear hC C
      clear hE10 a10
      refine one fun C hC => alloc hE11 hM2 _ al_93 [.string ByteArray.empty, .int .i32 0, .int .i32 0, .bool false] rfl rfl  fun b7 a12 w3 hE12 hM3 => hC _ _ ?_
      clear hC C hE11 hM2 a11
      refine one fun C hC => storeAgg hE12 hM3 ss_93 rfl rfl rfl rfl rfl  fun  a13 w4 hE13 hM4 => hC _ _ ?_
      clear hC C hE12 hM3 a12
      try simp only [setSeg, List.set_cons_zero, List.set_cons_succ, Nat.zero_add, Nat.reduceAdd] at hM4
      refine wpList_nil (hK9 _ _ ?_)
      clear hK9 K9
      replace hE13 := hE13.keep (E' := [(0, _), (4, _), (5, _), (7, _), (9, _), (10, _), (11, _), (12, _)]) ⟨rfl, rfl, rfl, rfl, rfl, rfl, rfl, rfl, trivial⟩
      refine wp_seq_k fun K10 hK10 => ?_
      refine wp_seq_k fun K11 hK11 => ?_
      refine wp_region_lit ?_
      refine one fun C hC => val hE13 (R.move hE13 rfl) rfl fun a14 hE14 => hC _ _ ?_
      clear hC C
      clear hE13 a13
      refine one fun C hC => val hE14 (R.fieldAddr hE14 93 0 0 fb_93_0 rfl) rfl fun a15 hE15 => hC _ _ ?_
      clear hC C
      clear hE14 a14
      refine one fun C hC => val hE15 (R.load hE15 sc_9 rfl hM4 (by rfl)) rfl fun a16 hE16 => hC _ _ ?_
      clear hC C
      clear hE15 a15
      refine one fun C hC => callF hE16 (hasPrefix_c _ _) cb_54 rfl hM4 rfl  fun  a17 w5 hE17 hM5 => hC _ _ ?_
      clear hC C hE16 hM4 a16
      refine one fun C hC => val hE17 (R.not hE17 rfl) rfl fun a18 hE18 => hC _ _ ?_
      clear hC C
      clear hE17 a17
      refine wpList_nil (hK11 _ _ ?_)
      clear hK11 K11
      replace hE18 := hE18.keep (E' := [(0, _), (4, _), (5, _), (7, _), (9, _), (10, _), (11, _), (12, _), (19, _)]) ⟨rfl, rfl, rfl, rfl, rfl, rfl, rfl, rfl, rfl, trivial⟩
      refine condR hE18 rfl ?_ ?_
      · intro hb2
        have ht2 := hb2
        try simp only [decide_eq_true_eq, decide_eq_false_iff_not, Bool.not_eq_true', Bool.not_eq_false', beq_iff_eq, Bool.and_eq_true, Bool.or_eq_true] at ht2
        refine wp_exit (exitThen (exitIn ?_))
        refine hK8 _ _ ?_
        refine wp_region_lit ?_
        refine one fun C hC => val hE18 (R.add64 hE18 rfl rfl (by omega) (by omega)) rfl fun a19 hE19 => hC _ _ ?_
        clear hC C
        clear hE18 a18
        refine one fun C hC => val hE19 (R.move hE19 rfl) rfl fun a20 hE20 => hC _ _ ?_
        clear hC C
        clear hE19 a19
        replace hE20 := hE20.keep (E' := [(0, _), (4, _), (5, _), (7, _), (9, _), (10, _), (11, _), (12, _), (19, _)]) ⟨rfl, rfl, rfl, rfl, rfl, rfl, rfl, rfl, rfl, trivial⟩
        refine wpList_nil (hK5 _ _ ?_)
        have hstep : entStep s.data.toList acc ents[i] = acc := by
          unfold entStep
          rw [if_neg (by rw [Bool.not_eq_true]; first | exact ht2 | exact Bool.eq_false_iff.2 ht2 | simpa using ht2)]
        have hnext := drop_step hlt hf
        rw [hstep] at hnext
        replace hM5 := hM5.cutB b7
        exact hK (i + 1, acc, oA, oC) _ _ ⟨hE20.keep (by refine ⟨?_, ?_, ?_, ?_, ?_, ?_, trivial⟩ <;> first | rfl | exact eqInt (by push_cast; rfl) | exact eqInt (by rw [nm_size]; push_cast; rfl)), hM5.cast (by ac_rfl), by omega, by (try dsimp only); omega, hnext⟩ (by (show ents.length - (i + 1) < ents.length - i); omega)
      · intro hb2
        have ht2 := hb2
        try simp only [decide_eq_true_eq, decide_eq_false_iff_not, Bool.not_eq_true', Bool.not_eq_false', beq_iff_eq, Bool.and_eq_true, Bool.or_eq_true] at ht2
        refine wp_skip (hK10 _ _ ?_)
        refine wp_seq_k fun K12 hK12 => ?_
        refine wp_region_lit ?_
        refine one fun C hC => val hE18 (R.fieldAddr hE18 93 0 0 fb_93_0 rfl) rfl fun a19 hE19 => hC _ _ ?_
        clear hC C
        clear hE18 a18
        refine one fun C hC => val hE19 (R.load hE19 sc_9 rfl hM5 (by rfl)) rfl fun a20 hE20 => hC _ _ ?_
        clear hC C
        clear hE19 a19
        refine one fun C hC => val hE20 (R.lenString hE20 st_9 rfl) rfl fun a21 hE21 => hC _ _ ?_
        clear hC C
        clear hE20 a20
        refine one fun C hC => val hE21 (R.assign hE21 rfl) rfl fun a22 hE22 => hC _ _ ?_
        clear hC C
        clear hE21 a21
        refine wpList_nil (hK12 _ _ ?_)
        clear hK12 K12
        replace hE22 := hE22.keep (E' := [(0, _), (4, _), (5, _), (7, _), (8, _), (9, _), (10, _), (11, _), (12, _), (19, _)]) ⟨rfl, rfl, rfl, rfl, rfl, rfl, rfl, rfl, rfl, rfl, trivial⟩
        refine wp_seq_k fun K13 hK13 => ?_
        refine wp_seq_k fun K14 hK14 => ?_
        refine wp_region_lit ?_
        refine one fun C hC => val hE22 (R.move hE22 rfl) rfl fun a23 hE23 => hC _ _ ?_
        clear hC C
        clear hE22 a22
        refine one fun C hC => val hE23 (R.move hE23 rfl) rfl fun a24 hE24 => hC _ _ ?_
        clear hC C
        clear hE23 a23
        refine one fun C hC => val hE24 (R.lenString hE24 st_9 rfl) rfl fun a25 hE25 => hC _ _ ?_
        clear hC C
        clear hE24 a24
        refine one fun C hC => val hE25 (R.lss hE25 rfl rfl) rfl fun a26 hE26 => hC _ _ ?_
        clear hC C
        clear hE25 a25
        refine one fun C hC => val hE26 (R.move hE26 rfl) rfl fun a27 hE27 => hC _ _ ?_
        clear hC C
        clear hE26 a26
        refine splitE hE27 (x := .tmp 27) rfl ?_ ?_
        · intro hb3
          have ht3 := hb3
          try simp only [decide_eq_true_eq, decide_eq_false_iff_not, Bool.not_eq_true', Bool.not_eq_false', beq_iff_eq, Bool.and_eq_true, Bool.or_eq_true] at ht3
          refine oneOn hE27 rfl rfl hb3 fun C hC => val hE27 (R.move hE27 rfl) rfl fun a28 hE28 => hC _ _ ?_
          clear hC C
          clear hE27 a27
          refine oneOn hE28 rfl rfl hb3 fun C hC => val hE28 (R.move hE28 rfl) rfl fun a29 hE29 => hC _ _ ?_
          clear hC C
          clear hE28 a28
          refine oneOn hE29 rfl rfl hb3 fun C hC => val hE29 (R.strIndex hE29 st_9 rfl rfl ents[i].name.length (by rw [nm_size]) (by omega)) rfl fun a30 hE30 => hC _ _ ?_
          clear hC C
          clear hE29 a29
          refine oneOn hE30 rfl rfl hb3 fun C hC => val hE30 (R.eql hE30 rfl rfl) rfl fun a31 hE31 => hC _ _ ?_
          clear hC C
          clear hE30 a30
          refine one fun C hC => val hE31 (R.pickT hE31 rfl hb3 rfl) rfl fun a32 hE32 => hC _ _ ?_
          clear hC C
          clear hE31 a31
          refine wpList_nil (hK14 _ _ ?_)
          clear hK14 K14
          replace hE32 := hE32.keep (E' := [(0, _), (4, _), (5, _), (7, _), (8, _), (9, _), (10, _), (11, _), (12, _), (19, _), (32, _)]) ⟨rfl, rfl, rfl, rfl, rfl, rfl, rfl, rfl, rfl, rfl, rfl, trivial⟩
          refine condR hE32 rfl ?_ ?_
          · intro hb4
            have ht4 := hb4
            try simp only [decide_eq_true_eq, decide_eq_false_iff_not, Bool.not_eq_true', Bool.not_eq_false', beq_iff_eq, Bool.and_eq_true, Bool.or_eq_true] at ht4
            have hsemi : s.data.toList[ents[i].name.length]? = some 59 := by
              have hkl : ents[i].name.length < s.data.toList.length := by rw [dl_len]; omega
              rw [List.getElem?_eq_getElem hkl]
              exact congrArg some (u8_semi.1 ht4)
            refine wp_region_lit ?_
            refine one fun C hC => val hE32 (R.move hE32 rfl) rfl fun a33 hE33 => hC _ _ ?_
            clear hC C
            clear hE32 a32
            refine one fun C hC => val hE33 (R.add64 hE33 rfl rfl (by omega) (by omega)) rfl fun a34 hE34 => hC _ _ ?_
            clear hC C
            clear hE33 a33
            refine one fun C hC => val hE34 (R.assign hE34 rfl) rfl fun a35 hE35 => hC _ _ ?_
            clear hC C
            clear hE34 a34
            replace hE35 := hE35.keep (E' := [(0, _), (4, _), (5, _), (7, _), (8, _), (9, _), (10, _), (11, _), (12, _), (19, _), (32, _)]) ⟨rfl, rfl, rfl, rfl, rfl, rfl, rfl, rfl, rfl, rfl, rfl, trivial⟩
            refine wpList_nil (hK13 _ _ ?_)
            refine wp_seq_k fun K15 hK15 => ?_
            refine wp_region_lit ?_
            refine one fun C hC => val hE35 (R.move hE35 rfl) rfl fun a36 hE36 => hC _ _ ?_
            clear hC C
            clear hE35 a35
            refine one fun C hC => val hE36 (R.move hE36 rfl) rfl fun a37 hE37 => hC _ _ ?_
            clear hC C
            clear hE36 a36
            refine one fun C hC => val hE37 (R.gtr hE37 rfl rfl) rfl fun a38 hE38 => hC _ _ ?_
            clear hC C
            clear hE37 a37
            refine wpList_nil (hK15 _ _ ?_)
            clear hK15 K15
            replace hE38 := hE38.keep (E' := [(0, _), (4, _), (5, _), (7, _), (8, _), (9, _), (10, _), (11, _), (12, _), (19, _), (32, _), (40, _)]) ⟨rfl, rfl, rfl, rfl, rfl, rfl, rfl, rfl, rfl, rfl, rfl, rfl, trivial⟩
            refine condR hE38 rfl ?_ ?_
            · intro hb5
              have ht5 := hb5
              try simp only [decide_eq_true_eq, decide_eq_false_iff_not, Bool.not_eq_true', Bool.not_eq_false', beq_iff_eq, Bool.and_eq_true, Bool.or_eq_true] at ht5
              refine wp_region_lit ?_
              refine one fun C hC => val hE38 (R.move hE38 rfl) rfl fun a39 hE39 => hC _ _ ?_
              clear hC C
              clear hE38 a38
              refine one fun C hC => val hE39 (R.loadAgg hE39 ss_93 rfl hM5 (by rfl) (by rfl)) rfl fun a40 hE40 => hC _ _ ?_
              clear hC C
              clear hE39 a39
              refine one fun C hC => callX hE40 (says_c ents[i] _) cb_55 rfl hM5.emp rfl  fun p a41 w6 hE41 hM6 => hC _ _ ?_
              clear hC C hE40 hM5 a40
              refine one fun C hC => val hE41 (R.assign hE41 rfl) rfl fun a42 hE42 => hC _ _ ?_
              clear hC C
              clear hE41 a41
              refine one fun C hC => val hE42 (R.assign hE42 rfl) rfl fun a43 hE43 => hC _ _ ?_
              clear hC C
              clear hE42 a42
              replace hE43 := hE43.keep (E' := [(0, _), (4, _), (5, _), (7, _), (8, _), (9, _), (10, _), (11, _), (12, _), (19, _), (32, _), (40, _)]) ⟨rfl, rfl, rfl, rfl, rfl, rfl, rfl, rfl, rfl, rfl, rfl, rfl, trivial⟩
              refine wpList_nil (hK8 _ _ ?_)
              refine wp_region_lit ?_
              refine one fun C hC => val hE43 (R.add64 hE43 rfl rfl (by omega) (by omega)) rfl fun a44 hE44 => hC _ _ ?_
              clear hC C
              clear hE43 a43
              refine one fun C hC => val hE44 (R.move hE44 rfl) rfl fun a45 hE45 => hC _ _ ?_
              clear hC C
              clear hE44 a44
              replace hE45 := hE45.keep (E' := [(0, _), (4, _), (5, _), (7, _), (8, _), (9, _), (10, _), (11, _), (12, _), (19, _), (32, _), (40, _)]) ⟨rfl, rfl, rfl, rfl, rfl, rfl, rfl, rfl, rfl, rfl, rfl, rfl, trivial⟩
              refine wpList_nil (hK5 _ _ ?_)
              have hstep : entStep s.data.toList acc ents[i] = (ents[i].name.length + 1, ents[i].says) := by
                unfold entStep
                rw [if_pos (by simpa using ht2)]
                rw [if_pos hsemi, if_pos (by omega)]
              have hnext := drop_step hlt hf
              rw [hstep] at hnext
              replace hM6 := hM6.cutB b7
              replace hM6 := hM6.cut (row 21 1 rune oA oC acc.2)
              exact hK (i + 1, (ents[i].name.length + 1, ents[i].says), p.1, p.2) _ _ ⟨hE45.keep (by refine ⟨?_, ?_, ?_, ?_, ?_, ?_, trivial⟩ <;> first | rfl | exact eqInt (by push_cast; rfl) | exact eqInt (by rw [nm_size]; push_cast; rfl)), hM6.cast (by ac_rfl), by omega, by (try dsimp only); omega, hnext⟩ (by (show ents.length - (i + 1) < ents.length - i); omega)
            · intro hb5
              have ht5 := hb5
              try simp only [decide_eq_true_eq, decide_eq_false_iff_not, Bool.not_eq_true', Bool.not_eq_false', beq_iff_eq, Bool.and_eq_true, Bool.or_eq_true] at ht5
              refine wp_skip (hK8 _ _ ?_)
              refine wp_region_lit ?_
              refine one fun C hC => val hE38 (R.add64 hE38 rfl rfl (by omega) (by omega)) rfl fun a39 hE39 => hC _ _ ?_
              clear hC C
              clear hE38 a38
              refine one fun C hC => val hE39 (R.move hE39 rfl) rfl fun a40 hE40 => hC _ _ ?_
              clear hC C
              clear hE39 a39
              replace hE40 := hE40.keep (E' := [(0, _), (4, _), (5, _), (7, _), (8, _), (9, _), (10, _), (11, _), (12, _), (19, _), (32, _), (40, _)]) ⟨rfl, rfl, rfl, rfl, rfl, rfl, rfl, rfl, rfl, rfl, rfl, rfl, trivial⟩
              refine wpList_nil (hK5 _ _ ?_)
              have hstep : entStep s.data.toList acc ents[i] = acc := by
                unfold entStep
                rw [if_pos (by simpa using ht2)]
                rw [if_pos hsemi, if_neg (by omega)]
              have hnext := drop_step hlt hf
              rw [hstep] at hnext
              replace hM5 := hM5.cutB b7
              exact hK (i + 1, acc, oA, oC) _ _ ⟨hE40.keep (by refine ⟨?_, ?_, ?_, ?_, ?_, ?_, trivial⟩ <;> first | rfl | exact eqInt (by push_cast; rfl) | exact eqInt (by rw [nm_size]; push_cast; rfl)), hM5.cast (by ac_rfl), by omega, by (try dsimp only); omega, hnext⟩ (by (show ents.length - (i + 1) < ents.length - i); omega)
          · intro hb4
            have ht4 := hb4
            try simp only [decide_eq_true_eq, decide_eq_false_iff_not, Bool.not_eq_true', Bool.not_eq_false', beq_iff_eq, Bool.and_eq_true, Bool.or_eq_true] at ht4
            refine wp_seq_k fun K16 hK16 => ?_
            have hsemi : ¬ s.data.toList[ents[i].name.length]? = some 59 := by
              intro hs
              obtain ⟨hkl, hs⟩ := List.getElem?_eq_some_iff.1 hs
              exact ht4 (u8_semi.2 hs)
            refine wp_region_lit ?_
            refine one fun C hC => val hE32 (R.fieldAddr hE32 93 3 3 fb_93_3 rfl) rfl fun a33 hE33 => hC _ _ ?_
            clear hC C
            clear hE32 a32
            refine one fun C hC => val hE33 (R.load hE33 sc_4 rfl hM5 (by rfl)) rfl fun a34 hE34 => hC _ _ ?_
            clear hC C
            clear hE33 a33
            refine one fun C hC => val hE34 (R.not hE34 rfl) rfl fun a35 hE35 => hC _ _ ?_
            clear hC C
            clear hE34 a34
            refine wpList_nil (hK16 _ _ ?_)
            clear hK16 K16
            replace hE35 := hE35.keep (E' := [(0, _), (4, _), (5, _), (7, _), (8, _), (9, _), (10, _), (11, _), (12, _), (19, _), (32, _), (37, _)]) ⟨rfl, rfl, rfl, rfl, rfl, rfl, rfl, rfl, rfl, rfl, rfl, rfl, trivial⟩
            refine condR hE35 rfl ?_ ?_
            · intro hb5
              have ht5 := hb5
              try simp only [decide_eq_true_eq, decide_eq_false_iff_not, Bool.not_eq_true', Bool.not_eq_false', beq_iff_eq, Bool.and_eq_true, Bool.or_eq_true] at ht5
              refine wp_exit (exitThen (exitIn ?_))
              refine hK8 _ _ ?_
              refine wp_region_lit ?_
              refine one fun C hC => val hE35 (R.add64 hE35 rfl rfl (by omega) (by omega)) rfl fun a36 hE36 => hC _ _ ?_
              clear hC C
              clear hE35 a35
              refine one fun C hC => val hE36 (R.move hE36 rfl) rfl fun a37 hE37 => hC _ _ ?_
              clear hC C
              clear hE36 a36
              replace hE37 := hE37.keep (E' := [(0, _), (4, _), (5, _), (7, _), (8, _), (9, _), (10, _), (11, _), (12, _), (19, _), (32, _), (37, _)]) ⟨rfl, rfl, rfl, rfl, rfl, rfl, rfl, rfl, rfl, rfl, rfl, rfl, trivial⟩
              refine wpList_nil (hK5 _ _ ?_)
              have hstep : entStep s.data.toList acc ents[i] = acc := by
                unfold entStep
                rw [if_pos (by simpa using ht2)]
                rw [if_neg hsemi]
                rw [if_neg (by simpa using ht5)]
              have hnext := drop_step hlt hf
              rw [hstep] at hnext
              replace hM5 := hM5.cutB b7
              exact hK (i + 1, acc, oA, oC) _ _ ⟨hE37.keep (by refine ⟨?_, ?_, ?_, ?_, ?_, ?_, trivial⟩ <;> first | rfl | exact eqInt (by push_cast; rfl) | exact eqInt (by rw [nm_size]; push_cast; rfl)), hM5.cast (by ac_rfl), by omega, by (try dsimp only); omega, hnext⟩ (by (show ents.length - (i + 1) < ents.length - i); omega)
            · intro hb5
              have ht5 := hb5
              try simp only [decide_eq_true_eq, decide_eq_false_iff_not, Bool.not_eq_true', Bool.not_eq_false', beq_iff_eq, Bool.and_eq_true, Bool.or_eq_true] at ht5
              refine wp_skip (hK13 _ _ ?_)
              refine wp_seq_k fun K17 hK17 => ?_
              refine wp_region_lit ?_
              refine one fun C hC => val hE35 (R.move hE35 rfl) rfl fun a36 hE36 => hC _ _ ?_
              clear hC C
              clear hE35 a35
              refine one fun C hC => val hE36 (R.move hE36 rfl) rfl fun a37 hE37 => hC _ _ ?_
              clear hC C
              clear hE36 a36
              refine one fun C hC => val hE37 (R.gtr hE37 rfl rfl) rfl fun a38 hE38 => hC _ _ ?_
              clear hC C
              clear hE37 a37
              refine wpList_nil (hK17 _ _ ?_)
              clear hK17 K17
              replace hE38 := hE38.keep (E' := [(0, _), (4, _), (5, _), (7, _), (8, _), (9, _), (10, _), (11, _), (12, _), (19, _), (32, _), (37, _), (40, _)]) ⟨rfl, rfl, rfl, rfl, rfl, rfl, rfl, rfl, rfl, rfl, rfl, rfl, rfl, trivial⟩
              refine condR hE38 rfl ?_ ?_
              · intro hb6
                have ht6 := hb6
                try simp only [decide_eq_true_eq, decide_eq_false_iff_not, Bool.not_eq_true', Bool.not_eq_false', beq_iff_eq, Bool.and_eq_true, Bool.or_eq_true] at ht6
                refine wp_region_lit ?_
                refine one fun C hC => val hE38 (R.move hE38 rfl) rfl fun a39 hE39 => hC _ _ ?_
                clear hC C
                clear hE38 a38
                refine one fun C hC => val hE39 (R.loadAgg hE39 ss_93 rfl hM5 (by rfl) (by rfl)) rfl fun a40 hE40 => hC _ _ ?_
                clear hC C
                clear hE39 a39
                refine one fun C hC => callX hE40 (says_c ents[i] _) cb_55 rfl hM5.emp rfl  fun p a41 w6 hE41 hM6 => hC _ _ ?_
                clear hC C hE40 hM5 a40
                refine one fun C hC => val hE41 (R.assign hE41 rfl) rfl fun a42 hE42 => hC _ _ ?_
                clear hC C
                clear hE41 a41
                refine one fun C hC => val hE42 (R.assign hE42 rfl) rfl fun a43 hE43 => hC _ _ ?_
                clear hC C
                clear hE42 a42
                replace hE43 := hE43.keep (E' := [(0, _), (4, _), (5, _), (7, _), (8, _), (9, _), (10, _), (11, _), (12, _), (19, _), (32, _), (37, _), (40, _)]) ⟨rfl, rfl, rfl, rfl, rfl, rfl, rfl, rfl, rfl, rfl, rfl, rfl, rfl, trivial⟩
                refine wpList_nil (hK8 _ _ ?_)
                refine wp_region_lit ?_
                refine one fun C hC => val hE43 (R.add64 hE43 rfl rfl (by omega) (by omega)) rfl fun a44 hE44 => hC _ _ ?_
                clear hC C
                clear hE43 a43
                refine one fun C hC => val hE44 (R.move hE44 rfl) rfl fun a45 hE45 => hC _ _ ?_
                clear hC C
                clear hE44 a44
                replace hE45 := hE45.keep (E' := [(0, _), (4, _), (5, _), (7, _), (8, _), (9, _), (10, _), (11, _), (12, _), (19, _), (32, _), (37, _), (40, _)]) ⟨rfl, rfl, rfl, rfl, rfl, rfl, rfl, rfl, rfl, rfl, rfl, rfl, rfl, trivial⟩
                refine wpList_nil (hK5 _ _ ?_)
                have hstep : entStep s.data.toList acc ents[i] = (ents[i].name.length, ents[i].says) := by
                  unfold entStep
                  rw [if_pos (by simpa using ht2)]
                  rw [if_neg hsemi]
                  rw [if_pos (by simpa using ht5), if_pos (by omega)]
                have hnext := drop_step hlt hf
                rw [hstep] at hnext
                replace hM6 := hM6.cutB b7
                replace hM6 := hM6.cut (row 21 1 rune oA oC acc.2)
                exact hK (i + 1, (ents[i].name.length, ents[i].says), p.1, p.2) _ _ ⟨hE45.keep (by refine ⟨?_, ?_, ?_, ?_, ?_, ?_, trivial⟩ <;> first | rfl | exact eqInt (by push_cast; rfl) | exact eqInt (by rw [nm_size]; push_cast; rfl)), hM6.cast (by ac_rfl), by omega, by (try dsimp only); omega, hnext⟩ (by (show ents.length - (i + 1) < ents.length - i); omega)
              · intro hb6
                have ht6 := hb6
                try simp only [decide_eq_true_eq, decide_eq_false_iff_not, Bool.not_eq_true', Bool.not_eq_false', beq_iff_eq, Bool.and_eq_true, Bool.or_eq_true] at ht6
                refine wp_skip (hK8 _ _ ?_)
                refine wp_region_lit ?_
                refine one fun C hC => val hE38 (R.add64 hE38 rfl rfl (by omega) (by omega)) rfl fun a39 hE39 => hC _ _ ?_
                clear hC C
                clear hE38 a38
                refine one fun C hC => val hE39 (R.move hE39 rfl) rfl fun a40 hE40 => hC _ _ ?_
                clear hC C
                clear hE39 a39
                replace hE40 := hE40.keep (E' := [(0, _), (4, _), (5, _), (7, _), (8, _), (9, _), (10, _), (11, _), (12, _), (19, _), (32, _), (37, _), (40, _)]) ⟨rfl, rfl, rfl, rfl, rfl, rfl, rfl, rfl, rfl, rfl, rfl, rfl, rfl, trivial⟩
                refine wpList_nil (hK5 _ _ ?_)
                have hstep : entStep s.data.toList acc ents[i] = acc := by
                  unfold entStep
                  rw [if_pos (by simpa using ht2)]
                  rw [if_neg hsemi]
                  rw [if_pos (by simpa using ht5), if_neg (by omega)]
                have hnext := drop_step hlt hf
                rw [hstep] at hnext
                replace hM5 := hM5.cutB b7
                exact hK (i + 1, acc, oA, oC) _ _ ⟨hE40.keep (by refine ⟨?_, ?_, ?_, ?_, ?_, ?_, trivial⟩ <;> first | rfl | exact eqInt (by push_cast; rfl) | exact eqInt (by rw [nm_size]; push_cast; rfl)), hM5.cast (by ac_rfl), by omega, by (try dsimp only); omega, hnext⟩ (by (show ents.length - (i + 1) < ents.length - i); omega)
        · intro hb3
          have ht3 := hb3
          try simp only [decide_eq_true_eq, decide_eq_false_iff_not, Bool.not_eq_true', Bool.not_eq_false', beq_iff_eq, Bool.and_eq_true, Bool.or_eq_true] at ht3
          refine oneOff hE27 rfl rfl hb3 rfl fun a28 hE28 => ?_
          clear hE27 a27
          refine oneOff hE28 rfl rfl hb3 rfl fun a29 hE29 => ?_
          clear hE28 a28
          refine oneOff hE29 rfl rfl hb3 rfl fun a30 hE30 => ?_
          clear hE29 a29
          refine oneOff hE30 rfl rfl hb3 rfl fun a31 hE31 => ?_
          clear hE30 a30
          refine one fun C hC => val hE31 (R.pickF hE31 rfl hb3 rfl) rfl fun a32 hE32 => hC _ _ ?_
          clear hC C
          clear hE31 a31
          refine wpList_nil (hK14 _ _ ?_)
          clear hK14 K14
          replace hE32 := hE32.keep (E' := [(0, _), (4, _), (5, _), (7, _), (8, _), (9, _), (10, _), (11, _), (12, _), (19, _), (32, _)]) ⟨rfl, rfl, rfl, rfl, rfl, rfl, rfl, rfl, rfl, rfl, rfl, trivial⟩
          refine condF hE32 rfl rfl ?_
          refine wp_seq_k fun K18 hK18 => ?_
          have hsemi : ¬ s.data.toList[ents[i].name.length]? = some 59 := by
            intro hs
            have hkl := (List.getElem?_eq_some_iff.1 hs).1
            rw [dl_len] at hkl
            omega
          refine wp_region_lit ?_
          refine one fun C hC => val hE32 (R.fieldAddr hE32 93 3 3 fb_93_3 rfl) rfl fun a33 hE33 => hC _ _ ?_
          clear hC C
          clear hE32 a32
          refine one fun C hC => val hE33 (R.load hE33 sc_4 rfl hM5 (by rfl)) rfl fun a34 hE34 => hC _ _ ?_
          clear hC C
          clear hE33 a33
          refine one fun C hC => val hE34 (R.not hE34 rfl) rfl fun a35 hE35 => hC _ _ ?_
          clear hC C
          clear hE34 a34
          refine wpList_nil (hK18 _ _ ?_)
          clear hK18 K18
          replace hE35 := hE35.keep (E' := [(0, _), (4, _), (5, _), (7, _), (8, _), (9, _), (10, _), (11, _), (12, _), (19, _), (32, _), (37, _)]) ⟨rfl, rfl, rfl, rfl, rfl, rfl, rfl, rfl, rfl, rfl, rfl, rfl, trivial⟩
          refine condR hE35 rfl ?_ ?_
          · intro hb4
            have ht4 := hb4
            try simp only [decide_eq_true_eq, decide_eq_false_iff_not, Bool.not_eq_true', Bool.not_eq_false', beq_iff_eq, Bool.and_eq_true, Bool.or_eq_true] at ht4
            refine wp_exit (exitThen (exitIn ?_))
            refine hK8 _ _ ?_
            refine wp_region_lit ?_
            refine one fun C hC => val hE35 (R.add64 hE35 rfl rfl (by omega) (by omega)) rfl fun a36 hE36 => hC _ _ ?_
            clear hC C
            clear hE35 a35
            refine one fun C hC => val hE36 (R.move hE36 rfl) rfl fun a37 hE37 => hC _ _ ?_
            clear hC C
            clear hE36 a36
            replace hE37 := hE37.keep (E' := [(0, _), (4, _), (5, _), (7, _), (8, _), (9, _), (10, _), (11, _), (12, _), (19, _), (32, _), (37, _)]) ⟨rfl, rfl, rfl, rfl, rfl, rfl, rfl, rfl, rfl, rfl, rfl, rfl, trivial⟩
            refine wpList_nil (hK5 _ _ ?_)
            have hstep : entStep s.data.toList acc ents[i] = acc := by
              unfold entStep
              rw [if_pos (by simpa using ht2)]
              rw [if_neg hsemi]
              rw [if_neg (by simpa using ht4)]
            have hnext := drop_step hlt hf
            rw [hstep] at hnext
            replace hM5 := hM5.cutB b7
            exact hK (i + 1, acc, oA, oC) _ _ ⟨hE37.keep (by refine ⟨?_, ?_, ?_, ?_, ?_, ?_, trivial⟩ <;> first | rfl | exact eqInt (by push_cast; rfl) | exact eqInt (by rw [nm_size]; push_cast; rfl)), hM5.cast (by ac_rfl), by omega, by (try dsimp only); omega, hnext⟩ (by (show ents.length - (i + 1) < ents.length - i); omega)
          · intro hb4
            have ht4 := hb4
            try simp only [decide_eq_true_eq, decide_eq_false_iff_not, Bool.not_eq_true', Bool.not_eq_false', beq_iff_eq, Bool.and_eq_true, Bool.or_eq_true] at ht4
            refine wp_skip (hK13 _ _ ?_)
            refine wp_seq_k fun K19 hK19 => ?_
            refine wp_region_lit ?_
            refine one fun C hC => val hE35 (R.move hE35 rfl) rfl fun a36 hE36 => hC _ _ ?_
            clear hC C
            clear hE35 a35
            refine one fun C hC => val hE36 (R.move hE36 rfl) rfl fun a37 hE37 => hC _ _ ?_
            clear hC C
            clear hE36 a36
            refine one fun C hC => val hE37 (R.gtr hE37 rfl rfl) rfl fun a38 hE38 => hC _ _ ?_
            clear hC C
            clear hE37 a37
            refine wpList_nil (hK19 _ _ ?_)
            clear hK19 K19
            replace hE38 := hE38.keep (E' := [(0, _), (4, _), (5, _), (7, _), (8, _), (9, _), (10, _), (11, _), (12, _), (19, _), (32, _), (37, _), (40, _)]) ⟨rfl, rfl, rfl, rfl, rfl, rfl, rfl, rfl, rfl, rfl, rfl, rfl, rfl, trivial⟩
            refine condR hE38 rfl ?_ ?_
            · intro hb5
              have ht5 := hb5
              try simp only [decide_eq_true_eq, decide_eq_false_iff_not, Bool.not_eq_true', Bool.not_eq_false', beq_iff_eq, Bool.and_eq_true, Bool.or_eq_true] at ht5
              refine wp_region_lit ?_
              refine one fun C hC => val hE38 (R.move hE38 rfl) rfl fun a39 hE39 => hC _ _ ?_
              clear hC C
              clear hE38 a38
              refine one fun C hC => val hE39 (R.loadAgg hE39 ss_93 rfl hM5 (by rfl) (by rfl)) rfl fun a40 hE40 => hC _ _ ?_
              clear hC C
              clear hE39 a39
              refine one fun C hC => callX hE40 (says_c ents[i] _) cb_55 rfl hM5.emp rfl  fun p a41 w6 hE41 hM6 => hC _ _ ?_
              clear hC C hE40 hM5 a40
              refine one fun C hC => val hE41 (R.assign hE41 rfl) rfl fun a42 hE42 => hC _ _ ?_
              clear hC C
              clear hE41 a41
              refine one fun C hC => val hE42 (R.assign hE42 rfl) rfl fun a43 hE43 => hC _ _ ?_
              clear hC C
              clear hE42 a42
              replace hE43 := hE43.keep (E' := [(0, _), (4, _), (5, _), (7, _), (8, _), (9, _), (10, _), (11, _), (12, _), (19, _), (32, _), (37, _), (40, _)]) ⟨rfl, rfl, rfl, rfl, rfl, rfl, rfl, rfl, rfl, rfl, rfl, rfl, rfl, trivial⟩
              refine wpList_nil (hK8 _ _ ?_)
              refine wp_region_lit ?_
              refine one fun C hC => val hE43 (R.add64 hE43 rfl rfl (by omega) (by omega)) rfl fun a44 hE44 => hC _ _ ?_
              clear hC C
              clear hE43 a43
              refine one fun C hC => val hE44 (R.move hE44 rfl) rfl fun a45 hE45 => hC _ _ ?_
              clear hC C
              clear hE44 a44
              replace hE45 := hE45.keep (E' := [(0, _), (4, _), (5, _), (7, _), (8, _), (9, _), (10, _), (11, _), (12, _), (19, _), (32, _), (37, _), (40, _)]) ⟨rfl, rfl, rfl, rfl, rfl, rfl, rfl, rfl, rfl, rfl, rfl, rfl, rfl, trivial⟩
              refine wpList_nil (hK5 _ _ ?_)
              have hstep : entStep s.data.toList acc ents[i] = (ents[i].name.length, ents[i].says) := by
                unfold entStep
                rw [if_pos (by simpa using ht2)]
                rw [if_neg hsemi]
                rw [if_pos (by simpa using ht4), if_pos (by omega)]
              have hnext := drop_step hlt hf
              rw [hstep] at hnext
              replace hM6 := hM6.cutB b7
              replace hM6 := hM6.cut (row 21 1 rune oA oC acc.2)
              exact hK (i + 1, (ents[i].name.length, ents[i].says), p.1, p.2) _ _ ⟨hE45.keep (by refine ⟨?_, ?_, ?_, ?_, ?_, ?_, trivial⟩ <;> first | rfl | exact eqInt (by push_cast; rfl) | exact eqInt (by rw [nm_size]; push_cast; rfl)), hM6.cast (by ac_rfl), by omega, by (try dsimp only); omega, hnext⟩ (by (show ents.length - (i + 1) < ents.length - i); omega)
            · intro hb5
              have ht5 := hb5
              try simp only [decide_eq_true_eq, decide_eq_false_iff_not, Bool.not_eq_true', Bool.not_eq_false', beq_iff_eq, Bool.and_eq_true, Bool.or_eq_true] at ht5
              refine wp_skip (hK8 _ _ ?_)
              refine wp_region_lit ?_
              refine one fun C hC => val hE38 (R.add64 hE38 rfl rfl (by omega) (by omega)) rfl fun a39 hE39 => hC _ _ ?_
              clear hC C
              clear hE38 a38
              refine one fun C hC => val hE39 (R.move hE39 rfl) rfl fun a40 hE40 => hC _ _ ?_
              clear hC C
              clear hE39 a39
              replace hE40 := hE40.keep (E' := [(0, _), (4, _), (5, _), (7, _), (8, _), (9, _), (10, _), (11, _), (12, _), (19, _), (32, _), (37, _), (40, _)]) ⟨rfl, rfl, rfl, rfl, rfl, rfl, rfl, rfl, rfl, rfl, rfl, rfl, rfl, trivial⟩
              refine wpList_nil (hK5 _ _ ?_)
              have hstep : entStep s.data.toList acc ents[i] = acc := by
                unfold entStep
                rw [if_pos (by simpa using ht2)]
                rw [if_neg hsemi]
                rw [if_pos (by simpa using ht4), if_neg (by omega)]
              have hnext := drop_step hlt hf
              rw [hstep] at hnext
              replace hM5 := hM5.cutB b7
              exact hK (i + 1, acc, oA, oC) _ _ ⟨hE40.keep (by refine ⟨?_, ?_, ?_, ?_, ?_, ?_, trivial⟩ <;> first | rfl | exact eqInt (by push_cast; rfl) | exact eqInt (by rw [nm_size]; push_cast; rfl)), hM5.cast (by ac_rfl), by omega, by (try dsimp only); omega, hnext⟩ (by (show ents.length - (i + 1) < ents.length - i); omega)
    · intro hb1
      have ht1 := hb1
      try simp only [decide_eq_true_eq, decide_eq_false_iff_not, Bool.not_eq_true', Bool.not_eq_false', beq_iff_eq, Bool.and_eq_true, Bool.or_eq_true] at ht1
      refine wp_exit (exitThen (exitThen (exitIn ?_)))
      refine hK3 _ _ ?_
      refine wp_seq_k fun K20 hK20 => ?_
      have hie : i = ents.length := by omega
      rw [hie, List.drop_length] at hf
      refine wp_region_lit ?_
      refine one fun C hC => val hE9 (R.move hE9 rfl) rfl fun a10 hE10 => hC _ _ ?_
      clear hC C
      clear hE9 a9
      refine one fun C hC => val hE10 (R.move hE10 rfl) rfl fun a11 hE11 => hC _ _ ?_
      clear hC C
      clear hE10 a10
      refine one fun C hC => val hE11 (R.assign hE11 rfl) rfl fun a12 hE12 => hC _ _ ?_
      clear hC C
      clear hE11 a11
      refine one fun C hC => val hE12 (R.assign hE12 rfl) rfl fun a13 hE13 => hC _ _ ?_
      clear hC C
      clear hE12 a12
      refine wpList_nil (hK20 _ _ ?_)
      clear hK20 K20
      replace hE13 := hE13.keep (E' := [(0, _), (2, _), (3, _), (4, _), (5, _), (9, _), (10, _), (11, _), (12, _)]) ⟨rfl, rfl, rfl, rfl, rfl, rfl, rfl, rfl, rfl, trivial⟩
      refine wp_ret (hQ _ _ ?_)
      rw [List.foldl_nil] at hf
      replace hM2 := hM2.cut (row 93 4 encEnt q.1 q.2 ents)
      refine back2 hE13 rfl rfl rfl (Mem.doneX ((oA, oC) : Option Addr × Nat) ?_ ?_)
      · rw [← hf]
      · rw [← hf]; exact hM2

end Go.Sv
