import Derived.Test.YthaalghnpfpjmaaDoorProg
import Derived.Test.YthaalghnpfpjmaaDoorMach19
import Derived.Test.YthaalghnpfpjmaaDoorRules12
set_option linter.all false
set_option linter.unusedVariables false
set_option linter.unusedSimpArgs false
set_option maxRecDepth 100000
namespace Go.Sv
open Go.RowKit Go.Proofs
attribute [local irreducible] row pts star blk emp fact any attrsOf machAt tagAt

namespace FMach20
theorem cb_87 : callB Tryd.prog 87 = true := by kernel_rfl
theorem cb_89 : callB Tryd.prog 89 = true := by kernel_rfl
theorem cb_90 : callB Tryd.prog 90 = true := by kernel_rfl
theorem mix : Tryd.prog.follows .mixedOrders = true := by kernel_rfl
theorem st_9 : stringB Tryd.prog 9 = true := by kernel_rfl
end FMach20
open FMach20
def odd : ByteArray := ByteArray.mk #[34, 39, 60, 61, 96]
theorem odd_ascii : ascii odd := by unfold ascii; decide
theorem odd_lt {j : Nat} (h : j < odd.data.toList.length) : (odd.data.toList[j]).toNat < 128 := by
  have := (by decide : ∀ c ∈ odd.data.toList, c.toNat < 128)
  exact this _ (List.getElem_mem h)
theorem idx_none : ∀ (l : List UInt8) (c : UInt8), (∀ x ∈ l, x ≠ c) → Lib.indexByte l c = -1
  | [], _, _ => rfl
  | b :: l, c, h => by
    have hb : (b == c) = false := by simpa using h b List.mem_cons_self
    unfold Lib.indexByte
    rw [hb, idx_none l c (fun x hx => h x (List.mem_cons_of_mem _ hx))]
    rfl
theorem enc_last {r : Int} (h0 : 128 ≤ r) (h1 : r ≤ 1114111) : ∃ k, (Utf8.encode r).size = k + 1 ∧ 1 ≤ k ∧ k ≤ 3 ∧ ∃ h : k < (Utf8.encode r).data.toList.length, 128 ≤ ((Utf8.encode r).data.toList[k]).toNat := by
  obtain ⟨n, rfl⟩ := Int.eq_ofNat_of_zero_le (show 0 ≤ r by omega)
  have key : ∀ e : ByteArray, e.data.toList.map (fun x => (x.toNat : Int)) = encB n → ∀ (k : Nat) (v : Int), (encB n).length = k + 1 → (encB n)[k]? = some v → 128 ≤ v → e.size = k + 1 ∧ ∃ h : k < e.data.toList.length, 128 ≤ (e.data.toList[k]).toNat := by
    intro e he k v hl hv h128
    have hlen : e.data.toList.length = k + 1 := by rw [← hl, ← he, List.length_map]
    refine ⟨hlen, by omega, ?_⟩
    rw [← he, List.getElem?_map, List.getElem?_eq_getElem (show k < e.data.toList.length by omega)] at hv
    have h5 : ((e.data.toList[k]).toNat : Int) = v := Option.some.inj hv
    omega
  by_cases hs : n < 55296 ∨ 57343 < n
  · by_cases h2 : n < 2048
    · have e := encB_two (n := n) (by omega) h2
      have := key _ rfl 1 _ (by rw [e]; rfl) (by rw [e]; rfl) (by omega)
      exact ⟨1, this.1, by omega, by omega, this.2⟩
    · by_cases h3 : n < 65536
      · have e := encB_three (n := n) (by omega) h3 hs
        have := key _ rfl 2 _ (by rw [e]; rfl) (by rw [e]; rfl) (by omega)
        exact ⟨2, this.1, by omega, by omega, this.2⟩
      · have e := encB_four (n := n) (by omega) (by omega)
        have := key _ rfl 3 _ (by rw [e]; rfl) (by rw [e]; rfl) (by omega)
        exact ⟨3, this.1, by omega, by omega, this.2⟩
  · have e := encB_bad (n := n) (by omega) (by omega)
    have := key _ rfl 2 _ (by rw [e]; rfl) (by rw [e]; rfl) (by omega)
    exact ⟨2, this.1, by omega, by omega, this.2⟩
theorem validRune_c (r : Int) : Fn Tryd.prog 90 [.int .i32 r] (.bool (Lib.validRune r)) := fn_of_calls fun w => Tryd.utf8_ValidRune r w
theorem indexByte_c (s : ByteArray) (c : Nat) : Fn Tryd.prog 89 [.string s, .int .u8 c] (.int .i64 (Lib.indexByte s.data.toList c.toUInt8)) := fn_of_calls fun w => Tryd.strings_IndexByte s c w
theorem odd_part (lo : Nat) (c : UInt8) (h : 128 ≤ c.toNat) : Lib.indexByte (odd.extract lo odd.size).data.toList c = -1 := by
  refine idx_none _ _ fun x hx e => ?_
  have hm : x ∈ odd.data.toList := by
    simp only [ByteArray.data_extract, Array.toList_extract] at hx
    unfold List.extract at hx
    exact List.mem_of_mem_drop (List.mem_of_mem_take hx)
  obtain ⟨j, hj, rfl⟩ := List.getElem_of_mem hm
  have := odd_lt hj
  rw [e] at this
  omega

set_option maxHeartbeats 400000 in
theorem indexRune_none (r : Int) (h : r = -1 ∨ 128 ≤ r) (h1 : r ≤ 1114111) : Fn Tryd.prog 87 [.string odd, .int .i32 r] (.int .i64 (-1)) := by
  intro β w0 F0 hM0
  replace hM0 := hM0.ofEmp
  refine enter Tryd.func87 (by rfl) 187 rfl rfl fun a0 Q hE0 hQ hN hP => ?_
  refine wp_seq_k fun K0 hK0 => ?_
  refine wp_region_lit ?_
  refine one fun C hC => val hE0 (R.assign hE0 rfl) rfl fun a1 hE1 => hC _ _ ?_
  clear hC C
  clear hE0 a0
  refine wpList_nil (hK0 _ _ ?_)
  clear hK0 K0
  replace hE1 := hE1.keep (E' := [(0, _), (1, _), (4, _)]) ⟨rfl, rfl, rfl, trivial⟩
  refine wp_block ?_
  refine wp_seq_k fun K1 hK1 => ?_
  refine wp_region_lit ?_
  refine one fun C hC => val hE1 (R.move hE1 rfl) rfl fun a2 hE2 => hC _ _ ?_
  clear hC C
  clear hE1 a1
  refine one fun C hC => val hE2 (R.leq hE2 rfl rfl) rfl fun a3 hE3 => hC _ _ ?_
  clear hC C
  clear hE2 a2
  refine one fun C hC => val hE3 (R.move hE3 rfl) rfl fun a4 hE4 => hC _ _ ?_
  clear hC C
  clear hE3 a3
  refine splitE hE4 (x := .tmp 163) rfl ?_ ?_
  · intro hb1
    have ht1 := hb1
    try simp only [decide_eq_true_eq, decide_eq_false_iff_not, Bool.not_eq_true', Bool.not_eq_false', beq_iff_eq, Bool.and_eq_true, Bool.or_eq_true] at ht1
    refine oneOn hE4 rfl rfl hb1 fun C hC => val hE4 (R.move hE4 rfl) rfl fun a5 hE5 => hC _ _ ?_
    clear hC C
    clear hE4 a4
    refine oneOn hE5 rfl rfl hb1 fun C hC => val hE5 (R.lss hE5 rfl rfl) rfl fun a6 hE6 => hC _ _ ?_
    clear hC C
    clear hE5 a5
    refine one fun C hC => val hE6 (R.pickT hE6 rfl hb1 rfl) rfl fun a7 hE7 => hC _ _ ?_
    clear hC C
    clear hE6 a6
    refine one fun C hC => val hE7 (R.assign hE7 rfl) rfl fun a8 hE8 => hC _ _ ?_
    clear hC C
    clear hE7 a7
    refine wpList_nil (hK1 _ _ ?_)
    clear hK1 K1
    replace hE8 := hE8.keep (E' := [(0, _), (1, _), (4, _), (160, _)]) ⟨rfl, rfl, rfl, rfl, trivial⟩
    refine condR hE8 rfl ?_ ?_
    · intro hb2
      have ht2 := hb2
      try simp only [decide_eq_true_eq, decide_eq_false_iff_not, Bool.not_eq_true', Bool.not_eq_false', beq_iff_eq, Bool.and_eq_true, Bool.or_eq_true] at ht2
      refine wp_seq_k fun K2 hK2 => ?_
      exfalso
      rcases h with rfl | h <;> omega
    · intro hb2
      have ht2 := hb2
      try simp only [decide_eq_true_eq, decide_eq_false_iff_not, Bool.not_eq_true', Bool.not_eq_false', beq_iff_eq, Bool.and_eq_true, Bool.or_eq_true] at ht2
      refine wp_seq_k fun K3 hK3 => ?_
      refine wp_region_lit ?_
      refine one fun C hC => val hE8 (R.move hE8 rfl) rfl fun a9 hE9 => hC _ _ ?_
      clear hC C
      clear hE8 a8
      refine one fun C hC => val hE9 (R.eql hE9 rfl rfl) rfl fun a10 hE10 => hC _ _ ?_
      clear hC C
      clear hE9 a9
      refine one fun C hC => val hE10 (R.assign hE10 rfl) rfl fun a11 hE11 => hC _ _ ?_
      clear hC C
      clear hE10 a10
      refine wpList_nil (hK3 _ _ ?_)
      clear hK3 K3
      replace hE11 := hE11.keep (E' := [(0, _), (1, _), (4, _), (160, _), (171, _)]) ⟨rfl, rfl, rfl, rfl, rfl, trivial⟩
      refine condR hE11 rfl ?_ ?_
      · intro hb3
        have ht3 := hb3
        try simp only [decide_eq_true_eq, decide_eq_false_iff_not, Bool.not_eq_true', Bool.not_eq_false', beq_iff_eq, Bool.and_eq_true, Bool.or_eq_true] at ht3
        refine wp_seq_k fun K4 hK4 => ?_
        refine wp_seq_k fun K5 hK5 => ?_
        refine wp_region_lit ?_
        refine one fun C hC => val hE11 (R.move hE11 rfl) rfl fun a12 hE12 => hC _ _ ?_
        clear hC C
        clear hE11 a11
        refine one fun C hC => rangeStr hE12 hM0 st_9 rfl rfl  fun b175 a13 w1 hE13 hM1 => hC _ _ ?_
        clear hC C hE12 hM0 a12
        refine wpList_nil (hK5 _ _ ?_)
        clear hK5 K5
        replace hE13 := hE13.keep (E' := [(0, _), (1, _), (4, _), (160, _), (171, _), (175, _)]) ⟨rfl, rfl, rfl, rfl, rfl, rfl, trivial⟩
        refine wp_block ?_
        refine loopR (σ := Nat) (fun j a w => Env 187 [] a [(175, .pointer (some ⟨b175, 0, none⟩))] ∧ Mem β w (star (blk b175 (.stringIter odd j)) F0) ∧ True) (fun j => odd.size - j) 0 ?_ ?_
        · exact ⟨hE13.keep (by refine ⟨?_, trivial⟩ <;> first | rfl | exact eqInt (by omega)), hM1.cast (by first | rfl | ac_rfl), trivial⟩
        · clear hE13 hM1 a13
          rintro j a14 w2 ⟨hE14, hM2, -⟩ K hK
          try dsimp only at hE14 hM2
          have hK6 : ∀ a w, K a w → K a w := fun _ _ h => h
          refine wp_seq_k fun K7 hK7 => ?_
          refine wp_region_lit ?_
          refine one fun C hC => nextStr hE14 rfl hM2 rfl ?_ ?_
          · intro hit a15 w3 hE15 hM3
            refine hC _ _ ?_
            have hdc := decode_ascii (odd_ascii j hit)
            rw [hdc] at hE15 hM3
            clear hC C hE14 hM2 a14
            refine one fun C hC => val hE15 (R.ext hE15 rfl rfl) rfl fun a16 hE16 => hC _ _ ?_
            clear hC C
            clear hE15 a15
            refine wpList_nil (hK7 _ _ ?_)
            clear hK7 K7
            replace hE16 := hE16.keep (E' := [(175, _), (176, _), (177, _)]) ⟨rfl, rfl, rfl, trivial⟩
            refine wp_seq_k fun K8 hK8 => ?_
            refine condT hE16 rfl rfl ?_
            refine wp_skip (hK8 _ _ ?_)
            refine wp_block ?_
            refine wp_seq_k fun K9 hK9 => ?_
            refine wp_region_lit ?_
            refine one fun C hC => val hE16 (R.ext hE16 rfl rfl) rfl fun a17 hE17 => hC _ _ ?_
            clear hC C
            clear hE16 a16
            refine one fun C hC => val hE17 (R.ext hE17 rfl rfl) rfl fun a18 hE18 => hC _ _ ?_
            clear hC C
            clear hE17 a17
            refine one fun C hC => val hE18 (R.assign hE18 rfl) rfl fun a19 hE19 => hC _ _ ?_
            clear hC C
            clear hE18 a18
            refine one fun C hC => val hE19 (R.assign hE19 rfl) rfl fun a20 hE20 => hC _ _ ?_
            clear hC C
            clear hE19 a19
            refine wpList_nil (hK9 _ _ ?_)
            clear hK9 K9
            replace hE20 := hE20.keep (E' := [(5, _), (6, _), (175, _), (176, _), (177, _)]) ⟨rfl, rfl, rfl, rfl, rfl, trivial⟩
            refine wp_seq_k fun K10 hK10 => ?_
            refine wp_region_lit ?_
            refine one fun C hC => val hE20 (R.move hE20 rfl) rfl fun a21 hE21 => hC _ _ ?_
            clear hC C
            clear hE20 a20
            refine one fun C hC => val hE21 (R.eql hE21 rfl rfl) rfl fun a22 hE22 => hC _ _ ?_
            clear hC C
            clear hE21 a21
            refine wpList_nil (hK10 _ _ ?_)
            clear hK10 K10
            replace hE22 := hE22.keep (E' := [(5, _), (6, _), (175, _), (176, _), (177, _), (181, _)]) ⟨rfl, rfl, rfl, rfl, rfl, rfl, trivial⟩
            refine condR hE22 rfl ?_ ?_
            · intro hb4
              have ht4 := hb4
              try simp only [decide_eq_true_eq, decide_eq_false_iff_not, Bool.not_eq_true', Bool.not_eq_false', beq_iff_eq, Bool.and_eq_true, Bool.or_eq_true] at ht4
              refine wp_seq_k fun K11 hK11 => ?_
              exfalso
              have := odd_ascii j hit
              omega
            · intro hb4
              have ht4 := hb4
              try simp only [decide_eq_true_eq, decide_eq_false_iff_not, Bool.not_eq_true', Bool.not_eq_false', beq_iff_eq, Bool.and_eq_true, Bool.or_eq_true] at ht4
              refine wp_skip (hK6 _ _ ?_)
              exact hK (j + 1) _ _ ⟨hE22.keep (by refine ⟨?_, trivial⟩ <;> first | rfl | exact eqInt (by push_cast; rfl)), hM3.cast (by first | rfl | ac_rfl), trivial⟩ (by omega)
          · intro hit a15 hE15 hMn
            refine hC _ _ ?_
            have hM3 := hMn
            clear hMn hC C hE14 hM2 a14
            refine one fun C hC => val hE15 (R.ext hE15 rfl rfl) rfl fun a16 hE16 => hC _ _ ?_
            clear hC C
            clear hE15 a15
            refine wpList_nil (hK7 _ _ ?_)
            clear hK7 K7
            replace hE16 := hE16.keep (E' := [(175, _), (176, _), (177, _)]) ⟨rfl, rfl, rfl, trivial⟩
            refine wp_seq_k fun K12 hK12 => ?_
            refine condF hE16 rfl rfl ?_
            refine wp_exit (exitThen (exitThen (exitIn ?_)))
            refine hK4 _ _ ?_
            refine wp_seq_k fun K13 hK13 => ?_
            refine wp_region_lit ?_
            refine one fun C hC => val hE16 (R.assign hE16 rfl) rfl fun a17 hE17 => hC _ _ ?_
            clear hC C
            clear hE16 a16
            refine wpList_nil (hK13 _ _ ?_)
            clear hK13 K13
            replace hE17 := hE17.keep (E' := [(4, _), (175, _), (176, _), (177, _)]) ⟨rfl, rfl, rfl, rfl, trivial⟩
            refine wp_ret (hQ _ _ ?_)
            refine back1 hE17 rfl rfl (Mem.mkFact ?_ hM3.drop)
            first | rfl | (rw [odd_part _ _ hu8]; done) | (simp; done)
      · intro hb3
        have ht3 := hb3
        try simp only [decide_eq_true_eq, decide_eq_false_iff_not, Bool.not_eq_true', Bool.not_eq_false', beq_iff_eq, Bool.and_eq_true, Bool.or_eq_true] at ht3
        refine wp_seq_k fun K14 hK14 => ?_
        refine wp_region_lit ?_
        refine one fun C hC => val hE11 (R.move hE11 rfl) rfl fun a12 hE12 => hC _ _ ?_
        clear hC C
        clear hE11 a11
        refine one fun C hC => callF hE12 (validRune_c _) cb_90 rfl hM0 rfl  fun  a13 w1 hE13 hM1 => hC _ _ ?_
        clear hC C hE12 hM0 a12
        refine one fun C hC => val hE13 (R.not hE13 rfl) rfl fun a14 hE14 => hC _ _ ?_
        clear hC C
        clear hE13 a13
        refine one fun C hC => val hE14 (R.assign hE14 rfl) rfl fun a15 hE15 => hC _ _ ?_
        clear hC C
        clear hE14 a14
        refine wpList_nil (hK14 _ _ ?_)
        clear hK14 K14
        replace hE15 := hE15.keep (E' := [(0, _), (1, _), (4, _), (160, _), (171, _), (183, _)]) ⟨rfl, rfl, rfl, rfl, rfl, rfl, trivial⟩
        refine condR hE15 rfl ?_ ?_
        · intro hb4
          have ht4 := hb4
          try simp only [decide_eq_true_eq, decide_eq_false_iff_not, Bool.not_eq_true', Bool.not_eq_false', beq_iff_eq, Bool.and_eq_true, Bool.or_eq_true] at ht4
          refine wp_seq_k fun K15 hK15 => ?_
          refine wp_region_lit ?_
          refine one fun C hC => val hE15 (R.assign hE15 rfl) rfl fun a16 hE16 => hC _ _ ?_
          clear hC C
          clear hE15 a15
          refine wpList_nil (hK15 _ _ ?_)
          clear hK15 K15
          replace hE16 := hE16.keep (E' := [(0, _), (1, _), (4, _), (160, _), (171, _), (183, _)]) ⟨rfl, rfl, rfl, rfl, rfl, rfl, trivial⟩
          refine wp_ret (hQ _ _ ?_)
          refine back1 hE16 rfl rfl (Mem.mkFact ?_ hM1)
          first | rfl | (rw [odd_part _ _ hu8]; done) | (simp; done)
        · intro hb4
          have ht4 := hb4
          try simp only [decide_eq_true_eq, decide_eq_false_iff_not, Bool.not_eq_true', Bool.not_eq_false', beq_iff_eq, Bool.and_eq_true, Bool.or_eq_true] at ht4
          refine scope0 fun KS16 => ?_
          refine wp_seq_k fun K17 hK17 => ?_
          have h128 : 128 ≤ r := by rcases h with rfl | h; exact absurd ht4 (by decide); exact h
          obtain ⟨k, hk, hk1, hk3, hkl, hk8⟩ := enc_last h128 h1
          have hos : odd.size = 5 := rfl
          obtain ⟨c2, hc2⟩ : ∃ c, (Utf8.encode r).data.toList[k]? = some c := ⟨_, List.getElem?_eq_getElem hkl⟩
          have he2 : (Utf8.encode r).data.toList[k] = c2 := by rw [List.getElem?_eq_getElem hkl] at hc2; exact Option.some.inj hc2
          rw [he2] at hk8
          have hu8 : 128 ≤ ((c2.toNat).toUInt8).toNat := by simpa using hk8
          have hol : k < odd.data.toList.length := by (show k < 5); omega
          obtain ⟨c1, hc1⟩ : ∃ c, odd.data.toList[k]? = some c := ⟨_, List.getElem?_eq_getElem hol⟩
          have hoj := odd_lt hol
          have he1 : odd.data.toList[k] = c1 := by rw [List.getElem?_eq_getElem hol] at hc1; exact Option.some.inj hc1
          rw [he1] at hoj
          refine wp_region_lit ?_
          refine one fun C hC => val hE15 (R.move hE15 rfl) rfl fun a16 hE16 => hC _ _ ?_
          clear hC C
          clear hE15 a15
          refine one fun C hC => val hE16 (R.runeStr hE16 (k := .i32) (by rfl) (by rfl) rfl) rfl fun a17 hE17 => hC _ _ ?_
          clear hC C
          clear hE16 a16
          refine one fun C hC => val hE17 (R.assign hE17 rfl) rfl fun a18 hE18 => hC _ _ ?_
          clear hC C
          clear hE17 a17
          refine wpList_nil (hK17 _ _ ?_)
          clear hK17 K17
          replace hE18 := hE18.keep (E' := [(0, _), (1, _), (4, _), (7, _), (160, _), (171, _), (183, _)]) ⟨rfl, rfl, rfl, rfl, rfl, rfl, rfl, trivial⟩
          refine wp_seq_k fun K18 hK18 => ?_
          refine wp_region_lit ?_
          refine one fun C hC => val hE18 (R.move hE18 rfl) rfl fun a19 hE19 => hC _ _ ?_
          clear hC C
          clear hE18 a18
          refine one fun C hC => val hE19 (R.lenString hE19 st_9 rfl) rfl fun a20 hE20 => hC _ _ ?_
          clear hC C
          clear hE19 a19
          refine one fun C hC => val hE20 (R.sub64 hE20 rfl rfl (by omega) (by omega)) rfl fun a21 hE21 => hC _ _ ?_
          clear hC C
          clear hE20 a20
          refine one fun C hC => val hE21 (R.assign hE21 rfl) rfl fun a22 hE22 => hC _ _ ?_
          clear hC C
          clear hE21 a21
          refine wpList_nil (hK18 _ _ ?_)
          clear hK18 K18
          replace hE22 := hE22.keep (E' := [(0, _), (1, _), (4, _), (7, _), (8, _), (160, _), (171, _), (183, _)]) ⟨rfl, rfl, rfl, rfl, rfl, rfl, rfl, rfl, trivial⟩
          refine wp_seq_k fun K19 hK19 => ?_
          refine wp_region_lit ?_
          refine one fun C hC => val hE22 (R.move hE22 rfl) rfl fun a23 hE23 => hC _ _ ?_
          clear hC C
          clear hE22 a22
          refine one fun C hC => val hE23 (R.assign hE23 rfl) rfl fun a24 hE24 => hC _ _ ?_
          clear hC C
          clear hE23 a23
          refine wpList_nil (hK19 _ _ ?_)
          clear hK19 K19
          replace hE24 := hE24.keep (E' := [(0, _), (1, _), (4, _), (7, _), (8, _), (9, _), (160, _), (171, _), (183, _)]) ⟨rfl, rfl, rfl, rfl, rfl, rfl, rfl, rfl, rfl, trivial⟩
          refine wp_seq_k fun K20 hK20 => ?_
          refine wp_region_lit ?_
          refine one fun C hC => val hE24 (R.assign hE24 rfl) rfl fun a25 hE25 => hC _ _ ?_
          clear hC C
          clear hE24 a24
          refine wpList_nil (hK20 _ _ ?_)
          clear hK20 K20
          replace hE25 := hE25.keep (E' := [(0, _), (1, _), (4, _), (7, _), (8, _), (9, _), (10, _), (160, _), (171, _), (183, _)]) ⟨rfl, rfl, rfl, rfl, rfl, rfl, rfl, rfl, rfl, rfl, trivial⟩
          refine wp_seq_k fun K21 hK21 => ?_
          refine wp_block ?_
          refine loopR (σ := Unit) (fun U a w => Env 187 [] a [(0, .string odd), (7, .string (Utf8.encode r)), (8, .int .i64 k), (9, .int .i64 k), (10, .int .i64 0)] ∧ Mem β w (F0) ∧ True) (fun U => 0) () ?_ ?_
          · exact ⟨hE25.keep (by refine ⟨?_, ?_, ?_, ?_, ?_, trivial⟩ <;> first | rfl | exact eqInt (by omega)), hM1.cast (by first | rfl | ac_rfl), trivial⟩
          · clear hE25 hM1 a25
            rintro U a26 w2 ⟨hE26, hM2, -⟩ K hK
            try dsimp only at hE26 hM2
            have hK22 : ∀ a w, K a w → K a w := fun _ _ h => h
            refine wp_seq_k fun K23 hK23 => ?_
            refine wp_seq_k fun K24 hK24 => ?_
            refine wp_region_lit ?_
            refine one fun C hC => val hE26 (R.move hE26 rfl) rfl fun a27 hE27 => hC _ _ ?_
            clear hC C
            clear hE26 a26
            refine one fun C hC => val hE27 (R.move hE27 rfl) rfl fun a28 hE28 => hC _ _ ?_
            clear hC C
            clear hE27 a27
            refine one fun C hC => val hE28 (R.lenString hE28 st_9 rfl) rfl fun a29 hE29 => hC _ _ ?_
            clear hC C
            clear hE28 a28
            refine one fun C hC => val hE29 (R.lss hE29 rfl rfl) rfl fun a30 hE30 => hC _ _ ?_
            clear hC C
            clear hE29 a29
            refine wpList_nil (hK24 _ _ ?_)
            clear hK24 K24
            replace hE30 := hE30.keep (E' := [(0, _), (7, _), (8, _), (9, _), (10, _), (26, _)]) ⟨rfl, rfl, rfl, rfl, rfl, rfl, trivial⟩
            refine condR hE30 rfl ?_ ?_
            · intro hb5
              have ht5 := hb5
              try simp only [decide_eq_true_eq, decide_eq_false_iff_not, Bool.not_eq_true', Bool.not_eq_false', beq_iff_eq, Bool.and_eq_true, Bool.or_eq_true] at ht5
              refine wp_skip (hK23 _ _ ?_)
              refine wp_block ?_
              refine scope0 fun KS25 => ?_
              refine wp_seq_k fun K26 hK26 => ?_
              refine wp_seq_k fun K27 hK27 => ?_
              refine quietR mix (by kernel_rfl) hM2 fun C hC => ?_
              refine qval hE30 (fun _ hW => by exact R.move hE30 rfl) rfl fun a31 hE31 => ?_
              clear hE30 a30
              refine qval hE31 (fun _ hW => by exact R.move hE31 rfl) rfl fun a32 hE32 => ?_
              clear hE31 a31
              refine qval hE32 (fun _ hW => by exact R.strIndexV hE32 st_9 rfl rfl k rfl hc1) rfl fun a33 hE33 => ?_
              clear hE32 a32
              refine qval hE33 (fun _ hW => by exact R.move hE33 rfl) rfl fun a34 hE34 => ?_
              clear hE33 a33
              refine qval hE34 (fun _ hW => by exact R.move hE34 rfl) rfl fun a35 hE35 => ?_
              clear hE34 a34
              refine qval hE35 (fun _ hW => by exact R.strIndexV hE35 st_9 rfl rfl k rfl hc2) rfl fun a36 hE36 => ?_
              clear hE35 a35
              refine qval hE36 (fun _ hW => by exact R.neq hE36 rfl rfl) rfl fun a37 hE37 => ?_
              clear hE36 a36
              refine wpQuiet_nil (hC _ fun w3 hM3 => ?_)
              clear hC C hM2
              refine hK27 _ _ ?_
              clear hK27 K27
              replace hE37 := hE37.keep (E' := [(0, _), (7, _), (8, _), (9, _), (10, _), (26, _), (33, _)]) ⟨rfl, rfl, rfl, rfl, rfl, rfl, rfl, trivial⟩
              refine condR hE37 rfl ?_ ?_
              · intro hb6
                have ht6 := hb6
                try simp only [decide_eq_true_eq, decide_eq_false_iff_not, Bool.not_eq_true', Bool.not_eq_false', beq_iff_eq, Bool.and_eq_true, Bool.or_eq_true] at ht6
                refine wp_seq_k fun K28 hK28 => ?_
                refine quietR mix (by kernel_rfl) hM3 fun C hC => ?_
                refine qval hE37 (fun _ hW => by exact R.move hE37 rfl) rfl fun a38 hE38 => ?_
                clear hE37 a37
                refine qval hE38 (fun _ hW => by exact R.move hE38 rfl) rfl fun a39 hE39 => ?_
                clear hE38 a38
                refine qval hE39 (fun _ hW => by exact R.add64 hE39 rfl rfl (by omega) (by omega)) rfl fun a40 hE40 => ?_
                clear hE39 a39
                refine qval hE40 (fun _ hW => by exact R.strFrom hE40 st_9 rfl rfl (k + 1) (by push_cast; rfl) (by rw [hos]; omega)) rfl fun a41 hE41 => ?_
                clear hE40 a40
                refine qval hE41 (fun _ hW => by exact R.move hE41 rfl) rfl fun a42 hE42 => ?_
                clear hE41 a41
                refine qval hE42 (fun _ hW => by exact R.move hE42 rfl) rfl fun a43 hE43 => ?_
                clear hE42 a42
                refine qval hE43 (fun _ hW => by exact R.strIndexV hE43 st_9 rfl rfl k rfl hc2) rfl fun a44 hE44 => ?_
                clear hE43 a43
                refine qcallF hE44 (indexByte_c _ _) cb_89 rfl rfl fun a45 hE45 => ?_
                clear hE44 a44
                refine qval hE45 (fun _ hW => by exact R.assign hE45 rfl) rfl fun a46 hE46 => ?_
                clear hE45 a45
                refine wpQuiet_nil (hC _ fun w4 hM4 => ?_)
                clear hC C hM3
                refine hK28 _ _ ?_
                clear hK28 K28
                replace hE46 := hE46.keep (E' := [(0, _), (7, _), (8, _), (9, _), (10, _), (11, _), (26, _), (33, _)]) ⟨rfl, rfl, rfl, rfl, rfl, rfl, rfl, rfl, trivial⟩
                refine wp_seq_k fun K29 hK29 => ?_
                refine wp_seq_k fun K30 hK30 => ?_
                refine wp_region_lit ?_
                refine one fun C hC => val hE46 (R.move hE46 rfl) rfl fun a47 hE47 => hC _ _ ?_
                clear hC C
                clear hE46 a46
                refine one fun C hC => val hE47 (R.lss hE47 rfl rfl) rfl fun a48 hE48 => hC _ _ ?_
                clear hC C
                clear hE47 a47
                refine wpList_nil (hK30 _ _ ?_)
                clear hK30 K30
                replace hE48 := hE48.keep (E' := [(0, _), (7, _), (8, _), (9, _), (10, _), (11, _), (26, _), (33, _), (43, _)]) ⟨rfl, rfl, rfl, rfl, rfl, rfl, rfl, rfl, rfl, trivial⟩
                refine condR hE48 rfl ?_ ?_
                · intro hb7
                  have ht7 := hb7
                  try simp only [decide_eq_true_eq, decide_eq_false_iff_not, Bool.not_eq_true', Bool.not_eq_false', beq_iff_eq, Bool.and_eq_true, Bool.or_eq_true] at ht7
                  refine wp_seq_k fun K31 hK31 => ?_
                  refine wp_region_lit ?_
                  refine one fun C hC => val hE48 (R.assign hE48 rfl) rfl fun a49 hE49 => hC _ _ ?_
                  clear hC C
                  clear hE48 a48
                  refine wpList_nil (hK31 _ _ ?_)
                  clear hK31 K31
                  replace hE49 := hE49.keep (E' := [(0, _), (4, _), (7, _), (8, _), (9, _), (10, _), (11, _), (26, _), (33, _), (43, _)]) ⟨rfl, rfl, rfl, rfl, rfl, rfl, rfl, rfl, rfl, rfl, trivial⟩
                  refine wp_ret (hQ _ _ ?_)
                  refine back1 hE49 rfl rfl (Mem.mkFact ?_ hM4)
                  first | rfl | (rw [odd_part _ _ hu8]; done) | (simp; done)
                · intro hb7
                  have ht7 := hb7
                  try simp only [decide_eq_true_eq, decide_eq_false_iff_not, Bool.not_eq_true', Bool.not_eq_false', beq_iff_eq, Bool.and_eq_true, Bool.or_eq_true] at ht7
                  refine wp_skip (hK29 _ _ ?_)
                  exfalso
                  rw [odd_part _ _ hu8] at ht7
                  omega
              · intro hb6
                have ht6 := hb6
                try simp only [decide_eq_true_eq, decide_eq_false_iff_not, Bool.not_eq_true', Bool.not_eq_false', beq_iff_eq, Bool.and_eq_true, Bool.or_eq_true] at ht6
                refine wp_skip (hK26 _ _ ?_)
                refine wp_seq_k fun K32 hK32 => ?_
                refine wp_seq_k fun K33 hK33 => ?_
                exfalso
                omega
            · intro hb5
              have ht5 := hb5
              try simp only [decide_eq_true_eq, decide_eq_false_iff_not, Bool.not_eq_true', Bool.not_eq_false', beq_iff_eq, Bool.and_eq_true, Bool.or_eq_true] at ht5
              refine wp_exit (exitThen (exitThen (exitIn ?_)))
              refine hK21 _ _ ?_
              refine wp_seq_k fun K34 hK34 => ?_
              refine wp_seq_k fun K35 hK35 => ?_
              refine wp_region_lit ?_
              refine one fun C hC => val hE30 (R.assign hE30 rfl) rfl fun a31 hE31 => hC _ _ ?_
              clear hC C
              clear hE30 a30
              refine wpList_nil (hK35 _ _ ?_)
              clear hK35 K35
              replace hE31 := hE31.keep (E' := [(0, _), (4, _), (7, _), (8, _), (9, _), (10, _), (26, _)]) ⟨rfl, rfl, rfl, rfl, rfl, rfl, rfl, trivial⟩
              refine wp_ret (hQ _ _ ?_)
              refine back1 hE31 rfl rfl (Mem.mkFact ?_ hM2)
              first | rfl | (rw [odd_part _ _ hu8]; done) | (simp; done)
  · intro hb1
    have ht1 := hb1
    try simp only [decide_eq_true_eq, decide_eq_false_iff_not, Bool.not_eq_true', Bool.not_eq_false', beq_iff_eq, Bool.and_eq_true, Bool.or_eq_true] at ht1
    refine oneOff hE4 rfl rfl hb1 rfl fun a5 hE5 => ?_
    clear hE4 a4
    refine oneOff hE5 rfl rfl hb1 rfl fun a6 hE6 => ?_
    clear hE5 a5
    refine one fun C hC => val hE6 (R.pickF hE6 rfl hb1 rfl) rfl fun a7 hE7 => hC _ _ ?_
    clear hC C
    clear hE6 a6
    refine one fun C hC => val hE7 (R.assign hE7 rfl) rfl fun a8 hE8 => hC _ _ ?_
    clear hC C
    clear hE7 a7
    refine wpList_nil (hK1 _ _ ?_)
    clear hK1 K1
    replace hE8 := hE8.keep (E' := [(0, _), (1, _), (4, _), (160, _)]) ⟨rfl, rfl, rfl, rfl, trivial⟩
    refine condF hE8 rfl rfl ?_
    refine wp_seq_k fun K36 hK36 => ?_
    refine wp_region_lit ?_
    refine one fun C hC => val hE8 (R.move hE8 rfl) rfl fun a9 hE9 => hC _ _ ?_
    clear hC C
    clear hE8 a8
    refine one fun C hC => val hE9 (R.eql hE9 rfl rfl) rfl fun a10 hE10 => hC _ _ ?_
    clear hC C
    clear hE9 a9
    refine one fun C hC => val hE10 (R.assign hE10 rfl) rfl fun a11 hE11 => hC _ _ ?_
    clear hC C
    clear hE10 a10
    refine wpList_nil (hK36 _ _ ?_)
    clear hK36 K36
    replace hE11 := hE11.keep (E' := [(0, _), (1, _), (4, _), (160, _), (171, _)]) ⟨rfl, rfl, rfl, rfl, rfl, trivial⟩
    refine condR hE11 rfl ?_ ?_
    · intro hb2
      have ht2 := hb2
      try simp only [decide_eq_true_eq, decide_eq_false_iff_not, Bool.not_eq_true', Bool.not_eq_false', beq_iff_eq, Bool.and_eq_true, Bool.or_eq_true] at ht2
      refine wp_seq_k fun K37 hK37 => ?_
      refine wp_seq_k fun K38 hK38 => ?_
      refine wp_region_lit ?_
      refine one fun C hC => val hE11 (R.move hE11 rfl) rfl fun a12 hE12 => hC _ _ ?_
      clear hC C
      clear hE11 a11
      refine one fun C hC => rangeStr hE12 hM0 st_9 rfl rfl  fun b175 a13 w1 hE13 hM1 => hC _ _ ?_
      clear hC C hE12 hM0 a12
      refine wpList_nil (hK38 _ _ ?_)
      clear hK38 K38
      replace hE13 := hE13.keep (E' := [(0, _), (1, _), (4, _), (160, _), (171, _), (175, _)]) ⟨rfl, rfl, rfl, rfl, rfl, rfl, trivial⟩
      refine wp_block ?_
      refine loopR (σ := Nat) (fun j a w => Env 187 [] a [(175, .pointer (some ⟨b175, 0, none⟩))] ∧ Mem β w (star (blk b175 (.stringIter odd j)) F0) ∧ True) (fun j => odd.size - j) 0 ?_ ?_
      · exact ⟨hE13.keep (by refine ⟨?_, trivial⟩ <;> first | rfl | exact eqInt (by omega)), hM1.cast (by first | rfl | ac_rfl), trivial⟩
      · clear hE13 hM1 a13
        rintro j a14 w2 ⟨hE14, hM2, -⟩ K hK
        try dsimp only at hE14 hM2
        have hK39 : ∀ a w, K a w → K a w := fun _ _ h => h
        refine wp_seq_k fun K40 hK40 => ?_
        refine wp_region_lit ?_
        refine one fun C hC => nextStr hE14 rfl hM2 rfl ?_ ?_
        · intro hit a15 w3 hE15 hM3
          refine hC _ _ ?_
          have hdc := decode_ascii (odd_ascii j hit)
          rw [hdc] at hE15 hM3
          clear hC C hE14 hM2 a14
          refine one fun C hC => val hE15 (R.ext hE15 rfl rfl) rfl fun a16 hE16 => hC _ _ ?_
          clear hC C
          clear hE15 a15
          refine wpList_nil (hK40 _ _ ?_)
          clear hK40 K40
          replace hE16 := hE16.keep (E' := [(175, _), (176, _), (177, _)]) ⟨rfl, rfl, rfl, trivial⟩
          refine wp_seq_k fun K41 hK41 => ?_
          refine condT hE16 rfl rfl ?_
          refine wp_skip (hK41 _ _ ?_)
          refine wp_block ?_
          refine wp_seq_k fun K42 hK42 => ?_
          refine wp_region_lit ?_
          refine one fun C hC => val hE16 (R.ext hE16 rfl rfl) rfl fun a17 hE17 => hC _ _ ?_
          clear hC C
          clear hE16 a16
          refine one fun C hC => val hE17 (R.ext hE17 rfl rfl) rfl fun a18 hE18 => hC _ _ ?_
          clear hC C
          clear hE17 a17
          refine one fun C hC => val hE18 (R.assign hE18 rfl) rfl fun a19 hE19 => hC _ _ ?_
          clear hC C
          clear hE18 a18
          refine one fun C hC => val hE19 (R.assign hE19 rfl) rfl fun a20 hE20 => hC _ _ ?_
          clear hC C
          clear hE19 a19
          refine wpList_nil (hK42 _ _ ?_)
          clear hK42 K42
          replace hE20 := hE20.keep (E' := [(5, _), (6, _), (175, _), (176, _), (177, _)]) ⟨rfl, rfl, rfl, rfl, rfl, trivial⟩
          refine wp_seq_k fun K43 hK43 => ?_
          refine wp_region_lit ?_
          refine one fun C hC => val hE20 (R.move hE20 rfl) rfl fun a21 hE21 => hC _ _ ?_
          clear hC C
          clear hE20 a20
          refine one fun C hC => val hE21 (R.eql hE21 rfl rfl) rfl fun a22 hE22 => hC _ _ ?_
          clear hC C
          clear hE21 a21
          refine wpList_nil (hK43 _ _ ?_)
          clear hK43 K43
          replace hE22 := hE22.keep (E' := [(5, _), (6, _), (175, _), (176, _), (177, _), (181, _)]) ⟨rfl, rfl, rfl, rfl, rfl, rfl, trivial⟩
          refine condR hE22 rfl ?_ ?_
          · intro hb3
            have ht3 := hb3
            try simp only [decide_eq_true_eq, decide_eq_false_iff_not, Bool.not_eq_true', Bool.not_eq_false', beq_iff_eq, Bool.and_eq_true, Bool.or_eq_true] at ht3
            refine wp_seq_k fun K44 hK44 => ?_
            exfalso
            have := odd_ascii j hit
            omega
          · intro hb3
            have ht3 := hb3
            try simp only [decide_eq_true_eq, decide_eq_false_iff_not, Bool.not_eq_true', Bool.not_eq_false', beq_iff_eq, Bool.and_eq_true, Bool.or_eq_true] at ht3
            refine wp_skip (hK39 _ _ ?_)
            exact hK (j + 1) _ _ ⟨hE22.keep (by refine ⟨?_, trivial⟩ <;> first | rfl | exact eqInt (by push_cast; rfl)), hM3.cast (by first | rfl | ac_rfl), trivial⟩ (by omega)
        · intro hit a15 hE15 hMn
          refine hC _ _ ?_
          have hM3 := hMn
          clear hMn hC C hE14 hM2 a14
          refine one fun C hC => val hE15 (R.ext hE15 rfl rfl) rfl fun a16 hE16 => hC _ _ ?_
          clear hC C
          clear hE15 a15
          refine wpList_nil (hK40 _ _ ?_)
          clear hK40 K40
          replace hE16 := hE16.keep (E' := [(175, _), (176, _), (177, _)]) ⟨rfl, rfl, rfl, trivial⟩
          refine wp_seq_k fun K45 hK45 => ?_
          refine condF hE16 rfl rfl ?_
          refine wp_exit (exitThen (exitThen (exitIn ?_)))
          refine hK37 _ _ ?_
          refine wp_seq_k fun K46 hK46 => ?_
          refine wp_region_lit ?_
          refine one fun C hC => val hE16 (R.assign hE16 rfl) rfl fun a17 hE17 => hC _ _ ?_
          clear hC C
          clear hE16 a16
          refine wpList_nil (hK46 _ _ ?_)
          clear hK46 K46
          replace hE17 := hE17.keep (E' := [(4, _), (175, _), (176, _), (177, _)]) ⟨rfl, rfl, rfl, rfl, trivial⟩
          refine wp_ret (hQ _ _ ?_)
          refine back1 hE17 rfl rfl (Mem.mkFact ?_ hM3.drop)
          first | rfl | (rw [odd_part _ _ hu8]; done) | (simp; done)
    · intro hb2
      have ht2 := hb2
      try simp only [decide_eq_true_eq, decide_eq_false_iff_not, Bool.not_eq_true', Bool.not_eq_false', beq_iff_eq, Bool.and_eq_true, Bool.or_eq_true] at ht2
      refine wp_seq_k fun K47 hK47 => ?_
      refine wp_region_lit ?_
      refine one fun C hC => val hE11 (R.move hE11 rfl) rfl fun a12 hE12 => hC _ _ ?_
      clear hC C
      clear hE11 a11
      refine one fun C hC => callF hE12 (validRune_c _) cb_90 rfl hM0 rfl  fun  a13 w1 hE13 hM1 => hC _ _ ?_
      clear hC C hE12 hM0 a12
      refine one fun C hC => val hE13 (R.not hE13 rfl) rfl fun a14 hE14 => hC _ _ ?_
      clear hC C
      clear hE13 a13
      refine one fun C hC => val hE14 (R.assign hE14 rfl) rfl fun a15 hE15 => hC _ _ ?_
      clear hC C
      clear hE14 a14
      refine wpList_nil (hK47 _ _ ?_)
      clear hK47 K47
      replace hE15 := hE15.keep (E' := [(0, _), (1, _), (4, _), (160, _), (171, _), (183, _)]) ⟨rfl, rfl, rfl, rfl, rfl, rfl, trivial⟩
      refine condR hE15 rfl ?_ ?_
      · intro hb3
        have ht3 := hb3
        try simp only [decide_eq_true_eq, decide_eq_false_iff_not, Bool.not_eq_true', Bool.not_eq_false', beq_iff_eq, Bool.and_eq_true, Bool.or_eq_true] at ht3
        refine wp_seq_k fun K48 hK48 => ?_
        refine wp_region_lit ?_
        refine one fun C hC => val hE15 (R.assign hE15 rfl) rfl fun a16 hE16 => hC _ _ ?_
        clear hC C
        clear hE15 a15
        refine wpList_nil (hK48 _ _ ?_)
        clear hK48 K48
        replace hE16 := hE16.keep (E' := [(0, _), (1, _), (4, _), (160, _), (171, _), (183, _)]) ⟨rfl, rfl, rfl, rfl, rfl, rfl, trivial⟩
        refine wp_ret (hQ _ _ ?_)
        refine back1 hE16 rfl rfl (Mem.mkFact ?_ hM1)
        first | rfl | (rw [odd_part _ _ hu8]; done) | (simp; done)
      · intro hb3
        have ht3 := hb3
        try simp only [decide_eq_true_eq, decide_eq_false_iff_not, Bool.not_eq_true', Bool.not_eq_false', beq_iff_eq, Bool.and_eq_true, Bool.or_eq_true] at ht3
        refine scope0 fun KS49 => ?_
        refine wp_seq_k fun K50 hK50 => ?_
        have h128 : 128 ≤ r := by rcases h with rfl | h; exact absurd ht3 (by decide); exact h
        obtain ⟨k, hk, hk1, hk3, hkl, hk8⟩ := enc_last h128 h1
        have hos : odd.size = 5 := rfl
        obtain ⟨c2, hc2⟩ : ∃ c, (Utf8.encode r).data.toList[k]? = some c := ⟨_, List.getElem?_eq_getElem hkl⟩
        have he2 : (Utf8.encode r).data.toList[k] = c2 := by rw [List.getElem?_eq_getElem hkl] at hc2; exact Option.some.inj hc2
        rw [he2] at hk8
        have hu8 : 128 ≤ ((c2.toNat).toUInt8).toNat := by simpa using hk8
        have hol : k < odd.data.toList.length := by (show k < 5); omega
        obtain ⟨c1, hc1⟩ : ∃ c, odd.data.toList[k]? = some c := ⟨_, List.getElem?_eq_getElem hol⟩
        have hoj := odd_lt hol
        have he1 : odd.data.toList[k] = c1 := by rw [List.getElem?_eq_getElem hol] at hc1; exact Option.some.inj hc1
        rw [he1] at hoj
        refine wp_region_lit ?_
        refine one fun C hC => val hE15 (R.move hE15 rfl) rfl fun a16 hE16 => hC _ _ ?_
        clear hC C
        clear hE15 a15
        refine one fun C hC => val hE16 (R.runeStr hE16 (k := .i32) (by rfl) (by rfl) rfl) rfl fun a17 hE17 => hC _ _ ?_
        clear hC C
        clear hE16 a16
        refine one fun C hC => val hE17 (R.assign hE17 rfl) rfl fun a18 hE18 => hC _ _ ?_
        clear hC C
        clear hE17 a17
        refine wpList_nil (hK50 _ _ ?_)
        clear hK50 K50
        replace hE18 := hE18.keep (E' := [(0, _), (1, _), (4, _), (7, _), (160, _), (171, _), (183, _)]) ⟨rfl, rfl, rfl, rfl, rfl, rfl, rfl, trivial⟩
        refine wp_seq_k fun K51 hK51 => ?_
        refine wp_region_lit ?_
        refine one fun C hC => val hE18 (R.move hE18 rfl) rfl fun a19 hE19 => hC _ _ ?_
        clear hC C
        clear hE18 a18
        refine one fun C hC => val hE19 (R.lenString hE19 st_9 rfl) rfl fun a20 hE20 => hC _ _ ?_
        clear hC C
        clear hE19 a19
        refine one fun C hC => val hE20 (R.sub64 hE20 rfl rfl (by omega) (by omega)) rfl fun a21 hE21 => hC _ _ ?_
        clear hC C
        clear hE20 a20
        refine one fun C hC => val hE21 (R.assign hE21 rfl) rfl fun a22 hE22 => hC _ _ ?_
        clear hC C
        clear hE21 a21
        refine wpList_nil (hK51 _ _ ?_)
        clear hK51 K51
        replace hE22 := hE22.keep (E' := [(0, _), (1, _), (4, _), (7, _), (8, _), (160, _), (171, _), (183, _)]) ⟨rfl, rfl, rfl, rfl, rfl, rfl, rfl, rfl, trivial⟩
        refine wp_seq_k fun K52 hK52 => ?_
        refine wp_region_lit ?_
        refine one fun C hC => val hE22 (R.move hE22 rfl) rfl fun a23 hE23 => hC _ _ ?_
        clear hC C
        clear hE22 a22
        refine one fun C hC => val hE23 (R.assign hE23 rfl) rfl fun a24 hE24 => hC _ _ ?_
        clear hC C
        clear hE23 a23
        refine wpList_nil (hK52 _ _ ?_)
        clear hK52 K52
        replace hE24 := hE24.keep (E' := [(0, _), (1, _), (4, _), (7, _), (8, _), (9, _), (160, _), (171, _), (183, _)]) ⟨rfl, rfl, rfl, rfl, rfl, rfl, rfl, rfl, rfl, trivial⟩
        refine wp_seq_k fun K53 hK53 => ?_
        refine wp_region_lit ?_
        refine one fun C hC => val hE24 (R.assign hE24 rfl) rfl fun a25 hE25 => hC _ _ ?_
        clear hC C
        clear hE24 a24
        refine wpList_nil (hK53 _ _ ?_)
        clear hK53 K53
        replace hE25 := hE25.keep (E' := [(0, _), (1, _), (4, _), (7, _), (8, _), (9, _), (10, _), (160, _), (171, _), (183, _)]) ⟨rfl, rfl, rfl, rfl, rfl, rfl, rfl, rfl, rfl, rfl, trivial⟩
        refine wp_seq_k fun K54 hK54 => ?_
        refine wp_block ?_
        refine loopR (σ := Unit) (fun U a w => Env 187 [] a [(0, .string odd), (7, .string (Utf8.encode r)), (8, .int .i64 k), (9, .int .i64 k), (10, .int .i64 0)] ∧ Mem β w (F0) ∧ True) (fun U => 0) () ?_ ?_
        · exact ⟨hE25.keep (by refine ⟨?_, ?_, ?_, ?_, ?_, trivial⟩ <;> first | rfl | exact eqInt (by omega)), hM1.cast (by first | rfl | ac_rfl), trivial⟩
        · clear hE25 hM1 a25
          rintro U a26 w2 ⟨hE26, hM2, -⟩ K hK
          try dsimp only at hE26 hM2
          have hK55 : ∀ a w, K a w → K a w := fun _ _ h => h
          refine wp_seq_k fun K56 hK56 => ?_
          refine wp_seq_k fun K57 hK57 => ?_
          refine wp_region_lit ?_
          refine one fun C hC => val hE26 (R.move hE26 rfl) rfl fun a27 hE27 => hC _ _ ?_
          clear hC C
          clear hE26 a26
          refine one fun C hC => val hE27 (R.move hE27 rfl) rfl fun a28 hE28 => hC _ _ ?_
          clear hC C
          clear hE27 a27
          refine one fun C hC => val hE28 (R.lenString hE28 st_9 rfl) rfl fun a29 hE29 => hC _ _ ?_
          clear hC C
          clear hE28 a28
          refine one fun C hC => val hE29 (R.lss hE29 rfl rfl) rfl fun a30 hE30 => hC _ _ ?_
          clear hC C
          clear hE29 a29
          refine wpList_nil (hK57 _ _ ?_)
          clear hK57 K57
          replace hE30 := hE30.keep (E' := [(0, _), (7, _), (8, _), (9, _), (10, _), (26, _)]) ⟨rfl, rfl, rfl, rfl, rfl, rfl, trivial⟩
          refine condR hE30 rfl ?_ ?_
          · intro hb4
            have ht4 := hb4
            try simp only [decide_eq_true_eq, decide_eq_false_iff_not, Bool.not_eq_true', Bool.not_eq_false', beq_iff_eq, Bool.and_eq_true, Bool.or_eq_true] at ht4
            refine wp_skip (hK56 _ _ ?_)
            refine wp_block ?_
            refine scope0 fun KS58 => ?_
            refine wp_seq_k fun K59 hK59 => ?_
            refine wp_seq_k fun K60 hK60 => ?_
            refine quietR mix (by kernel_rfl) hM2 fun C hC => ?_
            refine qval hE30 (fun _ hW => by exact R.move hE30 rfl) rfl fun a31 hE31 => ?_
            clear hE30 a30
            refine qval hE31 (fun _ hW => by exact R.move hE31 rfl) rfl fun a32 hE32 => ?_
            clear hE31 a31
            refine qval hE32 (fun _ hW => by exact R.strIndexV hE32 st_9 rfl rfl k rfl hc1) rfl fun a33 hE33 => ?_
            clear hE32 a32
            refine qval hE33 (fun _ hW => by exact R.move hE33 rfl) rfl fun a34 hE34 => ?_
            clear hE33 a33
            refine qval hE34 (fun _ hW => by exact R.move hE34 rfl) rfl fun a35 hE35 => ?_
            clear hE34 a34
            refine qval hE35 (fun _ hW => by exact R.strIndexV hE35 st_9 rfl rfl k rfl hc2) rfl fun a36 hE36 => ?_
            clear hE35 a35
            refine qval hE36 (fun _ hW => by exact R.neq hE36 rfl rfl) rfl fun a37 hE37 => ?_
            clear hE36 a36
            refine wpQuiet_nil (hC _ fun w3 hM3 => ?_)
            clear hC C hM2
            refine hK60 _ _ ?_
            clear hK60 K60
            replace hE37 := hE37.keep (E' := [(0, _), (7, _), (8, _), (9, _), (10, _), (26, _), (33, _)]) ⟨rfl, rfl, rfl, rfl, rfl, rfl, rfl, trivial⟩
            refine condR hE37 rfl ?_ ?_
            · intro hb5
              have ht5 := hb5
              try simp only [decide_eq_true_eq, decide_eq_false_iff_not, Bool.not_eq_true', Bool.not_eq_false', beq_iff_eq, Bool.and_eq_true, Bool.or_eq_true] at ht5
              refine wp_seq_k fun K61 hK61 => ?_
              refine quietR mix (by kernel_rfl) hM3 fun C hC => ?_
              refine qval hE37 (fun _ hW => by exact R.move hE37 rfl) rfl fun a38 hE38 => ?_
              clear hE37 a37
              refine qval hE38 (fun _ hW => by exact R.move hE38 rfl) rfl fun a39 hE39 => ?_
              clear hE38 a38
              refine qval hE39 (fun _ hW => by exact R.add64 hE39 rfl rfl (by omega) (by omega)) rfl fun a40 hE40 => ?_
              clear hE39 a39
              refine qval hE40 (fun _ hW => by exact R.strFrom hE40 st_9 rfl rfl (k + 1) (by push_cast; rfl) (by rw [hos]; omega)) rfl fun a41 hE41 => ?_
              clear hE40 a40
              refine qval hE41 (fun _ hW => by exact R.move hE41 rfl) rfl fun a42 hE42 => ?_
              clear hE41 a41
              refine qval hE42 (fun _ hW => by exact R.move hE42 rfl) rfl fun a43 hE43 => ?_
              clear hE42 a42
              refine qval hE43 (fun _ hW => by exact R.strIndexV hE43 st_9 rfl rfl k rfl hc2) rfl fun a44 hE44 => ?_
              clear hE43 a43
              refine qcallF hE44 (indexByte_c _ _) cb_89 rfl rfl fun a45 hE45 => ?_
              clear hE44 a44
              refine qval hE45 (fun _ hW => by exact R.assign hE45 rfl) rfl fun a46 hE46 => ?_
              clear hE45 a45
              refine wpQuiet_nil (hC _ fun w4 hM4 => ?_)
              clear hC C hM3
              refine hK61 _ _ ?_
              clear hK61 K61
              replace hE46 := hE46.keep (E' := [(0, _), (7, _), (8, _), (9, _), (10, _), (11, _), (26, _), (33, _)]) ⟨rfl, rfl, rfl, rfl, rfl, rfl, rfl, rfl, trivial⟩
              refine wp_seq_k fun K62 hK62 => ?_
              refine wp_seq_k fun K63 hK63 => ?_
              refine wp_region_lit ?_
              refine one fun C hC => val hE46 (R.move hE46 rfl) rfl fun a47 hE47 => hC _ _ ?_
              clear hC C
              clear hE46 a46
              refine one fun C hC => val hE47 (R.lss hE47 rfl rfl) rfl fun a48 hE48 => hC _ _ ?_
              clear hC C
              clear hE47 a47
              refine wpList_nil (hK63 _ _ ?_)
              clear hK63 K63
              replace hE48 := hE48.keep (E' := [(0, _), (7, _), (8, _), (9, _), (10, _), (11, _), (26, _), (33, _), (43, _)]) ⟨rfl, rfl, rfl, rfl, rfl, rfl, rfl, rfl, rfl, trivial⟩
              refine condR hE48 rfl ?_ ?_
              · intro hb6
                have ht6 := hb6
                try simp only [decide_eq_true_eq, decide_eq_false_iff_not, Bool.not_eq_true', Bool.not_eq_false', beq_iff_eq, Bool.and_eq_true, Bool.or_eq_true] at ht6
                refine wp_seq_k fun K64 hK64 => ?_
                refine wp_region_lit ?_
                refine one fun C hC => val hE48 (R.assign hE48 rfl) rfl fun a49 hE49 => hC _ _ ?_
                clear hC C
                clear hE48 a48
                refine wpList_nil (hK64 _ _ ?_)
                clear hK64 K64
                replace hE49 := hE49.keep (E' := [(0, _), (4, _), (7, _), (8, _), (9, _), (10, _), (11, _), (26, _), (33, _), (43, _)]) ⟨rfl, rfl, rfl, rfl, rfl, rfl, rfl, rfl, rfl, rfl, trivial⟩
                refine wp_ret (hQ _ _ ?_)
                refine back1 hE49 rfl rfl (Mem.mkFact ?_ hM4)
                first | rfl | (rw [odd_part _ _ hu8]; done) | (simp; done)
              · intro hb6
                have ht6 := hb6
                try simp only [decide_eq_true_eq, decide_eq_false_iff_not, Bool.not_eq_true', Bool.not_eq_false', beq_iff_eq, Bool.and_eq_true, Bool.or_eq_true] at ht6
                refine wp_skip (hK62 _ _ ?_)
                exfalso
                rw [odd_part _ _ hu8] at ht6
                omega
            · intro hb5
              have ht5 := hb5
              try simp only [decide_eq_true_eq, decide_eq_false_iff_not, Bool.not_eq_true', Bool.not_eq_false', beq_iff_eq, Bool.and_eq_true, Bool.or_eq_true] at ht5
              refine wp_skip (hK59 _ _ ?_)
              refine wp_seq_k fun K65 hK65 => ?_
              refine wp_seq_k fun K66 hK66 => ?_
              exfalso
              omega
          · intro hb4
            have ht4 := hb4
            try simp only [decide_eq_true_eq, decide_eq_false_iff_not, Bool.not_eq_true', Bool.not_eq_false', beq_iff_eq, Bool.and_eq_true, Bool.or_eq_true] at ht4
            refine wp_exit (exitThen (exitThen (exitIn ?_)))
            refine hK54 _ _ ?_
            refine wp_seq_k fun K67 hK67 => ?_
            refine wp_seq_k fun K68 hK68 => ?_
            refine wp_region_lit ?_
            refine one fun C hC => val hE30 (R.assign hE30 rfl) rfl fun a31 hE31 => hC _ _ ?_
            clear hC C
            clear hE30 a30
            refine wpList_nil (hK68 _ _ ?_)
            clear hK68 K68
            replace hE31 := hE31.keep (E' := [(0, _), (4, _), (7, _), (8, _), (9, _), (10, _), (26, _)]) ⟨rfl, rfl, rfl, rfl, rfl, rfl, rfl, trivial⟩
            refine wp_ret (hQ _ _ ?_)
            refine back1 hE31 rfl rfl (Mem.mkFact ?_ hM2)
            first | rfl | (rw [odd_part _ _ hu8]; done) | (simp; done)

set_option maxHeartbeats 400000 in
theorem containsRune_none (r : Int) (h : r = -1 ∨ 128 ≤ r) (h1 : r ≤ 1114111) : Fn Tryd.prog 82 [.string odd, .int .i32 r] (.bool false) := by
  intro β w0 F0 hM0
  replace hM0 := hM0.ofEmp
  refine enter Tryd.func82 (by rfl) 9 rfl rfl fun a0 Q hE0 hQ hN hP => ?_
  refine wp_seq_k fun K0 hK0 => ?_
  refine wp_region_lit ?_
  refine one fun C hC => val hE0 (R.assign hE0 rfl) rfl fun a1 hE1 => hC _ _ ?_
  clear hC C
  clear hE0 a0
  refine wpList_nil (hK0 _ _ ?_)
  clear hK0 K0
  replace hE1 := hE1.keep (E' := [(0, _), (1, _), (4, _)]) ⟨rfl, rfl, rfl, trivial⟩
  refine wp_seq_k fun K1 hK1 => ?_
  refine wp_region_lit ?_
  refine one fun C hC => val hE1 (R.move hE1 rfl) rfl fun a2 hE2 => hC _ _ ?_
  clear hC C
  clear hE1 a1
  refine one fun C hC => val hE2 (R.move hE2 rfl) rfl fun a3 hE3 => hC _ _ ?_
  clear hC C
  clear hE2 a2
  refine one fun C hC => callF hE3 (indexRune_none r h h1) cb_87 rfl hM0 rfl  fun  a4 w1 hE4 hM1 => hC _ _ ?_
  clear hC C hE3 hM0 a3
  refine one fun C hC => val hE4 (R.geq hE4 rfl rfl) rfl fun a5 hE5 => hC _ _ ?_
  clear hC C
  clear hE4 a4
  refine one fun C hC => val hE5 (R.assign hE5 rfl) rfl fun a6 hE6 => hC _ _ ?_
  clear hC C
  clear hE5 a5
  refine wpList_nil (hK1 _ _ ?_)
  clear hK1 K1
  replace hE6 := hE6.keep (E' := [(0, _), (1, _), (4, _)]) ⟨rfl, rfl, rfl, trivial⟩
  refine wp_ret (hQ _ _ ?_)
  exact back1 hE6 rfl rfl (Mem.mkFact rfl hM1)

theorem odd_at (n : Nat) (h : n < 128) : decide (0 ≤ Lib.indexByte odd.data.toList n.toUInt8) = M.oddB n :=
  (by decide : ∀ k : Fin 128, decide (0 ≤ Lib.indexByte odd.data.toList k.val.toUInt8) = M.oddB (k.val : Int)) ⟨n, h⟩
theorem containsRune_c (r : Int) (h0 : -1 ≤ r) (h1 : r ≤ 1114111) : Fn Tryd.prog 82 [.string (ByteArray.mk #[34, 39, 60, 61, 96]), .int .i32 r] (.bool (M.oddB r)) := by
  by_cases h : 0 ≤ r ∧ r < 128
  · refine fn_of_calls fun w => ?_
    have := Tryd.strings_ContainsRune_ascii odd r w h.1 h.2
    obtain ⟨n, rfl⟩ := Int.eq_ofNat_of_zero_le h.1
    have e := odd_at n (by omega)
    rw [show ((n : Int)).toNat = n from rfl, e] at this
    exact this
  · have e : M.oddB r = false := by
      unfold M.oddB
      simp
      omega
    rw [e]
    exact containsRune_none r (by omega) h1

end Go.Sv
