import Derived.Test.YthaalghnpfpjmaaDoorProg
import Derived.Test.YthaalghnpfpjmaaDoorMach18
set_option linter.all false
set_option linter.unusedVariables false
set_option linter.unusedSimpArgs false
set_option maxRecDepth 100000
namespace Go.Sv
open Go.RowKit Go.Proofs
attribute [local irreducible] row pts star blk emp fact any attrsOf machAt tagAt

namespace FMach19
theorem al_71 : (Tryd.prog.info? 71).bind (·.zero) = some (.agg [.pointer none, .slice none 0 0].toArray) := by kernel_rfl
theorem cb_14 : callB Tryd.prog 14 = true := by kernel_rfl
theorem cb_20 : callB Tryd.prog 20 = true := by kernel_rfl
theorem cb_21 : callB Tryd.prog 21 = true := by kernel_rfl
theorem cb_30 : callB Tryd.prog 30 = true := by kernel_rfl
theorem cb_31 : callB Tryd.prog 31 = true := by kernel_rfl
theorem cb_32 : callB Tryd.prog 32 = true := by kernel_rfl
theorem cb_33 : callB Tryd.prog 33 = true := by kernel_rfl
theorem cb_34 : callB Tryd.prog 34 = true := by kernel_rfl
theorem el_50 : elemB Tryd.prog 50 21 1 4 = true := by kernel_rfl
theorem fb_53_0 : fieldB Tryd.prog 53 0 0 = true := by kernel_rfl
theorem fb_53_1 : fieldB Tryd.prog 53 1 1 = true := by kernel_rfl
theorem mix : Tryd.prog.follows .mixedOrders = true := by kernel_rfl
theorem sc_21 : scalarB Tryd.prog 21 = true := by kernel_rfl
theorem sc_3 : scalarB Tryd.prog 3 = true := by kernel_rfl
theorem sc_50 : scalarB Tryd.prog 50 = true := by kernel_rfl
theorem sl_50 : sliceB Tryd.prog 50 21 1 = true := by kernel_rfl
end FMach19
open FMach19
theorem word_eof {r : Int} (h : wordB r = true) : r ≠ -1 := by rintro rfl; exact absurd h (by decide)
theorem peek_i_lt {S : M} {i : Nat} (h : S.peek i ≠ -1) : S.pos + i < S.inp.length := by
  rcases Nat.lt_or_ge (S.pos + i) S.inp.length with h' | h'
  · exact h'
  · exact absurd (by simp [M.peek, List.getElem?_eq_none h']) h
theorem peek_i_get {S : M} {i : Nat} (h : S.pos + i < S.inp.length) : S.inp[S.pos + i]? = some (S.peek i) := by
  simp [M.peek, List.getElem?_eq_getElem h]
theorem peek_i_eof {S : M} {c : Nat} (hO : S.Ok c) {i : Nat} (h : S.peek i = -1) : S.inp.length ≤ S.pos + i := by
  rcases Nat.lt_or_ge (S.pos + i) S.inp.length with h' | h'
  · have h1 := peek_i_get h'
    have := hO.r _ (List.mem_of_getElem? h1)
    omega
  · exact h'
theorem ahead_step {S : M} {i : Nat} (h : S.pos + i < S.inp.length) (hi : i < 100) : encs (S.ahead.take i) ++ (Utf8.encode (S.peek i)).data.toList = encs (S.ahead.take (i + 1)) := by
  have hx : S.ahead[i]? = some (S.peek i) := by
    unfold M.ahead
    rw [List.getElem?_take_of_lt hi, List.getElem?_drop]
    exact peek_i_get h
  rw [List.take_add_one, hx, encs_append]
  congr 1
  simp [encs]
theorem encs_len (l : List Int) : (encs l).length ≤ 4 * l.length := by
  induction l with
  | nil => simp [encs]
  | cons r l ih =>
    rw [encs_cons, List.length_append, List.length_cons]
    have : (Utf8.encode r).data.toList.length ≤ 4 := by
      unfold Utf8.encode
      simp only []
      (repeat' split) <;> simp
    omega
theorem encs_ne {S : M} {c : Nat} (hO : S.Ok c) (h : wordB (S.peek 0) = true) : encs S.ahead ≠ [] := by
  have hl := peek_i_lt (i := 0) (word_eof h)
  have ha := M.ahead_len S
  cases hA : S.ahead with
  | nil => rw [hA] at ha; simp at ha; omega
  | cons r l =>
    have hr := M.ahead_rng hO r (by rw [hA]; exact List.mem_cons_self)
    rw [encs_cons]
    intro e
    have e2 := (List.append_eq_nil_iff.1 e).1
    by_cases h8 : r < 128
    · rw [encode_lo hr.1 h8] at e2; cases e2
    · obtain ⟨c2, t, e3, _⟩ := encode_hi (by omega) hr.2
      rw [e3] at e2; cases e2
theorem writeRune_i (b : Nat) (L : List UInt8) (r : Int) (h0 : 0 ≤ r) (h1 : r ≤ 1114111) (hz : L.length ≤ 1000000) : Fx Tryd.prog 32 [.pointer (some ⟨b, 0, none⟩), .int .i32 r] (bld b L) (fun q : Int => .tuple #[.int .i64 q, .nilIface]) (fun _ => bld b (L ++ (Utf8.encode r).data.toList)) := by
  obtain ⟨n, rfl⟩ := Int.eq_ofNat_of_zero_le h0
  exact writeRune_c b L n (by omega) hz
theorem longest_l (l : List UInt8) (h : l.length ≤ 1000000) : Fx Tryd.prog 33 [.string ⟨l.toArray⟩] emp (fun q : Option Addr × Nat => .tuple #[.int .i64 (longest l).1, .slice q.1 (longest l).2.length q.2]) (fun q => row 21 1 rune q.1 q.2 (longest l).2) := longest_c ⟨l.toArray⟩ (by simpa [ByteArray.size] using h)
theorem wordsN_step {n : Nat} {Y : M} {o : List Int} (h : wordB (Y.peek 0) = true) : M.wordsN (n + 1) Y o = M.wordsN n Y.read (o ++ [Y.peek 0]) := by rw [M.wordsN, if_pos h]
theorem wordsN_stop {n : Nat} {Y : M} {o : List Int} (h : wordB (Y.peek 0) = false) : M.wordsN n Y o = (o, Y) := by
  cases n with
  | zero => rfl
  | succ n => rw [M.wordsN, if_neg (by rw [h]; simp)]
theorem ref_named {S : M} {a : Bool} {LL : Nat × List Int} {c0 : Int} (h1 : ¬ S.peek 0 = 35) (h2 : wordB (S.peek 0) = true) (hLg : longest (encs S.ahead) = LL) (h0 : LL.1 ≠ 0) (hl : S.inp[S.pos + LL.1 - 1]? = some c0) (hp : S.pos + LL.1 ≤ S.inp.length) :
    S.reference a = (if (a && decide (c0 ≠ 59) && (decide ((S.skipTo LL.1).peek 0 = 61) || wordB ((S.skipTo LL.1).peek 0))) = true then (38 :: (S.inp.drop S.pos).take LL.1, S.skipTo LL.1) else if c0 ≠ 59 then (LL.2, (S.skipTo LL.1).fault 12) else (LL.2, S.skipTo LL.1)) := by
  have hlast : ((S.inp.drop S.pos).take LL.1).getLast? = some c0 := by
    rw [List.getLast?_eq_getElem?, List.length_take, List.length_drop, Nat.min_eq_left (by omega), List.getElem?_take_of_lt (by omega), List.getElem?_drop, ← hl]
    congr 1; omega
  unfold M.reference
  rw [if_neg h1, if_pos h2, runesBytes_list, hLg, if_neg h0]
  unfold M.named1
  simp only [hlast]
  have e : (some c0 != some (59 : Int)) = decide (c0 ≠ 59) := by
    by_cases h : c0 = 59
    · subst h; rfl
    · simp [h]
  rw [e]
  simp only [decide_eq_true_eq]
variable (G : HProp) (hWin : WinG G)

set_option maxHeartbeats 4000000 in
include hWin in
theorem reference_c {V : Option (Option Addr × Nat)} (b : Nat) (S : M) (ab : Bool) (hO : S.Ok 20) : Fx Tryd.prog 17 [.pointer (some ⟨b, 0, none⟩), .bool ab] (star (mach V b S) G) (fun q : Option Addr × Nat => .slice q.1 (S.reference ab).1.length q.2) ((fun q => star (mach V b (S.reference ab).2) (star (row 21 1 rune q.1 q.2 (S.reference ab).1) G))) := by
  intro β w0 F0 hM0
  replace hM0 := hM0.cast (star_assoc _ _ _)
  obtain ⟨x, hk, hV, hM1⟩ := machAt.open_ hM0
  clear hM0
  rename Mem _ _ _ => hM0
  refine enter Tryd.func17 (by rfl) 112 rfl rfl fun a0 Q hE0 hQ hN hP => ?_
  have hp0 := hO.p
  have hn0 := hO.n
  have hs0 := hO.s
  simp only [M.sz] at hs0
  refine wp_seq_k fun K0 hK0 => ?_
  refine wp_region_lit ?_
  refine one fun C hC => val hE0 (R.assign hE0 rfl) rfl fun a1 hE1 => hC _ _ ?_
  clear hC C
  clear hE0 a0
  refine wpList_nil (hK0 _ _ ?_)
  clear hK0 K0
  replace hE1 := hE1.keep (E' := [(0, _), (1, _), (4, _)]) ⟨rfl, rfl, rfl, trivial⟩
  refine wp_seq_k fun K1 hK1 => ?_
  refine wp_seq_k fun K2 hK2 => ?_
  refine wp_region_lit ?_
  refine one fun C hC => val hE1 (R.move hE1 rfl) rfl fun a2 hE2 => hC _ _ ?_
  clear hC C
  clear hE1 a1
  refine one fun C hC => callM hE2 (peek_k b S 0 0 (by omega) (by omega) hO.pos) cb_21 rfl (machAt.close (T := 53) (R := 21) (K := 43) (L := 24) (A := 45) (V := V) (b := b) (S := S) (F := star G F0) x hk hV (by (try dsimp only); (try simp only [List.length_nil, attrsOf_snoc, tagAt_true]); (try simp only [emp_star, star_emp]); exact hM0.cast (by ac_rfl))) rfl fun  a3 w1 hE3 hM1 => hC _ _ ?_
  clear hC C hE2 hM0 a2
  refine one fun C hC => val hE3 (R.assign hE3 rfl) rfl fun a4 hE4 => hC _ _ ?_
  clear hC C
  clear hE3 a3
  refine wpList_nil (hK2 _ _ ?_)
  clear hK2 K2
  replace hE4 := hE4.keep (E' := [(0, _), (1, _), (4, _), (5, _)]) ⟨rfl, rfl, rfl, rfl, trivial⟩
  refine wp_block ?_
  refine wp_seq_k fun K3 hK3 => ?_
  refine wp_region_lit ?_
  refine one fun C hC => val hE4 (R.move hE4 rfl) rfl fun a5 hE5 => hC _ _ ?_
  clear hC C
  clear hE4 a4
  refine one fun C hC => val hE5 (R.eql hE5 rfl rfl) rfl fun a6 hE6 => hC _ _ ?_
  clear hC C
  clear hE5 a5
  refine one fun C hC => val hE6 (R.assign hE6 rfl) rfl fun a7 hE7 => hC _ _ ?_
  clear hC C
  clear hE6 a6
  refine wpList_nil (hK3 _ _ ?_)
  clear hK3 K3
  replace hE7 := hE7.keep (E' := [(0, _), (1, _), (4, _), (5, _), (16, _)]) ⟨rfl, rfl, rfl, rfl, rfl, trivial⟩
  refine condR hE7 rfl ?_ ?_
  · intro hb1
    have ht1 := hb1
    try simp only [decide_eq_true_eq, decide_eq_false_iff_not, Bool.not_eq_true', Bool.not_eq_false', beq_iff_eq, Bool.and_eq_true, Bool.or_eq_true] at ht1
    refine wp_seq_k fun K4 hK4 => ?_
    refine wp_region_lit ?_
    refine one fun C hC => val hE7 (R.move hE7 rfl) rfl fun a8 hE8 => hC _ _ ?_
    clear hC C
    clear hE7 a7
    refine one fun C hC => callX hE8 (numeric_c G hWin b S (hO.le (by omega))) cb_30 rfl (hM1.cast (show (star (mach V b S) (star G F0)) = (star (star (mach V b S) G) F0) from by ac_rfl)) rfl fun q a9 w2 hE9 hM2 => hC _ _ ?_
    clear hC C hE8 hM1 a8
    replace hM2 := hM2.cast (show _ = (star (mach V b ((S.numeric).2)) (star (row 21 1 rune q.1 q.2 ((S.numeric).1)) (star G F0))) from by ac_rfl)
    refine one fun C hC => val hE9 (R.assign hE9 rfl) rfl fun a10 hE10 => hC _ _ ?_
    clear hC C
    clear hE9 a9
    refine wpList_nil (hK4 _ _ ?_)
    clear hK4 K4
    replace hE10 := hE10.keep (E' := [(0, _), (1, _), (4, _), (5, _), (16, _)]) ⟨rfl, rfl, rfl, rfl, rfl, trivial⟩
    refine wp_ret (hQ _ _ ?_)
    have hm := hM2
    have hx : S.reference ab = ((S.numeric).1, ((S.numeric).2)) := by unfold M.reference; rw [if_pos ht1]; try rfl
    refine back1 hE10 rfl rfl (Mem.doneX ((q.1, q.2) : Option Addr × Nat) ?_ ?_)
    · rw [hx]; try rfl
    · rw [hx]; dsimp only; exact hm.cast (by ac_rfl)
  · intro hb1
    have ht1 := hb1
    try simp only [decide_eq_true_eq, decide_eq_false_iff_not, Bool.not_eq_true', Bool.not_eq_false', beq_iff_eq, Bool.and_eq_true, Bool.or_eq_true] at ht1
    refine wp_seq_k fun K5 hK5 => ?_
    refine wp_region_lit ?_
    refine one fun C hC => val hE7 (R.move hE7 rfl) rfl fun a8 hE8 => hC _ _ ?_
    clear hC C
    clear hE7 a7
    refine one fun C hC => callF hE8 (word_c _) cb_31 rfl hM1 rfl  fun  a9 w2 hE9 hM2 => hC _ _ ?_
    clear hC C hE8 hM1 a8
    refine one fun C hC => val hE9 (R.not hE9 rfl) rfl fun a10 hE10 => hC _ _ ?_
    clear hC C
    clear hE9 a9
    refine one fun C hC => val hE10 (R.assign hE10 rfl) rfl fun a11 hE11 => hC _ _ ?_
    clear hC C
    clear hE10 a10
    refine wpList_nil (hK5 _ _ ?_)
    clear hK5 K5
    replace hE11 := hE11.keep (E' := [(0, _), (1, _), (4, _), (5, _), (16, _), (21, _)]) ⟨rfl, rfl, rfl, rfl, rfl, rfl, trivial⟩
    refine condR hE11 rfl ?_ ?_
    · intro hb2
      have ht2 := hb2
      try simp only [decide_eq_true_eq, decide_eq_false_iff_not, Bool.not_eq_true', Bool.not_eq_false', beq_iff_eq, Bool.and_eq_true, Bool.or_eq_true] at ht2
      refine wp_seq_k fun K6 hK6 => ?_
      refine wp_region_lit ?_
      refine one fun C hC => lit1 hE11 hM2 4 el_50 rfl rfl rfl  fun b25 a12 w3 hE12 hM3 => hC _ _ ?_
      clear hC C hE11 hM2 a11
      refine one fun C hC => val hE12 (R.assign hE12 rfl) rfl fun a13 hE13 => hC _ _ ?_
      clear hC C
      clear hE12 a12
      refine wpList_nil (hK6 _ _ ?_)
      clear hK6 K6
      replace hE13 := hE13.keep (E' := [(0, _), (1, _), (4, _), (5, _), (16, _), (21, _)]) ⟨rfl, rfl, rfl, rfl, rfl, rfl, trivial⟩
      refine wp_ret (hQ _ _ ?_)
      have hM4 := (hM3.split (FindP.out (b := b25))).row_of_pts (xs := [38]) (enc := rune) (sz := 1) (by intro x _; rfl) rfl (by simp [maxLen])
      clear hM3
      have hm := hM4
      have hx : S.reference ab = ([38], S) := by unfold M.reference; rw [if_neg ht1, if_neg (by simpa using ht2)]
      refine back1 hE13 rfl rfl (Mem.doneX (((some ⟨b25, 0, none⟩), [38].length) : Option Addr × Nat) ?_ ?_)
      · rw [hx]; try rfl
      · rw [hx]; dsimp only; exact hm.cast (by ac_rfl)
    · intro hb2
      have ht2 := hb2
      try simp only [decide_eq_true_eq, decide_eq_false_iff_not, Bool.not_eq_true', Bool.not_eq_false', beq_iff_eq, Bool.and_eq_true, Bool.or_eq_true] at ht2
      refine wp_skip (hK1 _ _ ?_)
      refine wp_seq_k fun K7 hK7 => ?_
      have ht2w : wordB (S.peek 0) = true := by simpa using ht2
      refine wp_region_lit ?_
      refine one fun C hC => alloc hE11 hM2 _ al_71 [.pointer none, .slice none 0 0] rfl rfl  fun b6 a12 w3 hE12 hM3 => hC _ _ ?_
      clear hC C hE11 hM2 a11
      refine wpList_nil (hK7 _ _ ?_)
      clear hK7 K7
      replace hE12 := hE12.keep (E' := [(0, _), (1, _), (4, _), (5, _), (6, _), (16, _), (21, _)]) ⟨rfl, rfl, rfl, rfl, rfl, rfl, rfl, trivial⟩
      refine wp_seq_k fun K8 hK8 => ?_
      have hJ8 : ∀ (U : Unit) a w, Env 112 [] a [(0, .pointer (some ⟨b, 0, none⟩)), (1, .bool ab), (6, .pointer (some ⟨b6, 0, none⟩))] → Mem β w (star (mach V b S) (star (bld b6 (encs S.ahead)) (star G F0))) → M.Ok S 16 → True → K8 a w := by
        intro U a112 w103 hE112 hM103 hO100
        rintro -
        refine hK8 _ _ ?_
        clear hK8
        have hp100 := hO100.p
        have hn100 := hO100.n
        have hpk100 := hO100.peek 0
        refine wp_seq_k fun K9 hK9 => ?_
        refine wp_region_lit ?_
        have hel := encs_len S.ahead
        have hal := M.ahead_len S
        refine one fun C hC => callM hE112 (bString_c b6 (encs S.ahead) (encs_ne hO ht2) (by omega)) cb_34 rfl (hM103.split (FindA.out (A := bld b6 (encs S.ahead)))) rfl fun a113 w104 hE113 hM104 => hC _ _ ?_
        clear hC C hE112 hM103 a112
        replace hM104 := hM104.cast (emp_star _)
        refine one fun C hC => callX hE113 (longest_l (encs S.ahead) (by omega)) cb_33 rfl hM104.emp rfl fun q a114 w105 hE114 hM105 => hC _ _ ?_
        clear hC C hE113 hM104 a113
        have hnl := M.named_len hO
        have hlv := (longest_inv (encs S.ahead)).2.2
        generalize hLg : longest (encs S.ahead) = LL at hE114 hM105 hnl hlv
        have hwl := peek_i_lt (i := 0) (word_eof ht2)
        refine one fun C hC => val hE114 (R.move hE114 rfl) rfl fun a115 hE115 => hC _ _ ?_
        clear hC C
        clear hE114 a114
        refine one fun C hC => val hE115 (R.ext hE115 rfl rfl) rfl fun a116 hE116 => hC _ _ ?_
        clear hC C
        clear hE115 a115
        refine one fun C hC => val hE116 (R.ext hE116 rfl rfl) rfl fun a117 hE117 => hC _ _ ?_
        clear hC C
        clear hE116 a116
        refine one fun C hC => val hE117 (R.assign hE117 rfl) rfl fun a118 hE118 => hC _ _ ?_
        clear hC C
        clear hE117 a117
        refine one fun C hC => val hE118 (R.assign hE118 rfl) rfl fun a119 hE119 => hC _ _ ?_
        clear hC C
        clear hE118 a118
        refine wpList_nil (hK9 _ _ ?_)
        clear hK9 K9
        replace hE119 := hE119.keep (E' := [(0, _), (1, _), (6, _), (8, _), (9, _)]) ⟨rfl, rfl, rfl, rfl, rfl, trivial⟩
        refine wp_seq_k fun K10 hK10 => ?_
        refine wp_seq_k fun K11 hK11 => ?_
        refine wp_region_lit ?_
        refine one fun C hC => val hE119 (R.move hE119 rfl) rfl fun a120 hE120 => hC _ _ ?_
        clear hC C
        clear hE119 a119
        refine one fun C hC => val hE120 (R.eql hE120 rfl rfl) rfl fun a121 hE121 => hC _ _ ?_
        clear hC C
        clear hE120 a120
        refine wpList_nil (hK11 _ _ ?_)
        clear hK11 K11
        replace hE121 := hE121.keep (E' := [(0, _), (1, _), (6, _), (8, _), (9, _), (46, _)]) ⟨rfl, rfl, rfl, rfl, rfl, rfl, trivial⟩
        refine condR hE121 rfl ?_ ?_
        · intro hb3
          have ht3 := hb3
          try simp only [decide_eq_true_eq, decide_eq_false_iff_not, Bool.not_eq_true', Bool.not_eq_false', beq_iff_eq, Bool.and_eq_true, Bool.or_eq_true] at ht3
          refine wp_seq_k fun K12 hK12 => ?_
          replace hM105 := hM105.cut (row 21 1 rune q.1 q.2 LL.2)
          refine wp_region_lit ?_
          refine one fun C hC => lit1 hE121 hM105 4 el_50 rfl rfl rfl  fun b47 a122 w106 hE122 hM106 => hC _ _ ?_
          clear hC C hE121 hM105 a121
          refine one fun C hC => val hE122 (R.assign hE122 rfl) rfl fun a123 hE123 => hC _ _ ?_
          clear hC C
          clear hE122 a122
          refine wpList_nil (hK12 _ _ ?_)
          clear hK12 K12
          replace hE123 := hE123.keep (E' := [(0, _), (1, _), (6, _), (8, _), (9, _), (10, _), (46, _)]) ⟨rfl, rfl, rfl, rfl, rfl, rfl, rfl, trivial⟩
          refine wp_seq_k fun K13 hK13 => ?_
          refine wp_block ?_
          have hM107 := (hM106.split (FindP.out (b := b47))).row_of_pts (xs := [38]) (enc := rune) (sz := 1) (by intro x _; rfl) rfl (by simp [maxLen])
          clear hM106
          have hm := hM107
          refine loopR (σ := Nat × M × List Int × Option Addr × Nat) (fun ⟨n, Y, out, oA, oC⟩ a w => Env 112 [] a [(0, .pointer (some ⟨b, 0, none⟩)), (10, .slice oA out.length oC)] ∧ Mem β w (star (mach V b Y) (star (row 21 1 rune oA oC out) (star G F0))) ∧ M.Ok Y 8 ∧ (Y.inp.length - Y.pos < n ∧ M.wordsN n Y out = M.wordsN (S.inp.length + 1) S [38] ∧ out.length + (Y.inp.length - Y.pos) ≤ 3000000)) (fun ⟨n, Y, out, oA, oC⟩ => n) (S.inp.length + 1, S, [38], some ⟨b47, 0, none⟩, [(38 : Int)].length) ?_ ?_
          · exact ⟨hE123.keep (by refine ⟨?_, ?_, trivial⟩ <;> rfl), hm.cast (by ac_rfl), hO100.le (by omega), (by (show S.inp.length - S.pos < S.inp.length + 1); omega), rfl, (by (show 1 + _ ≤ _); omega)⟩
          · clear hm hE123 hM107 a123
            rintro ⟨n, Y, out, oA, oC⟩ a124 w108 ⟨hE124, hM108, hO101, ⟨hn0, hW, hol⟩⟩ K hK
            try dsimp only at hE124 hM108 hO101
            have hp101 := hO101.p
            have hn101 := hO101.n
            have hpk := hO101.peek 0
            obtain ⟨n, rfl⟩ : ∃ n', n = n' + 1 := ⟨n - 1, by omega⟩
            have hK14 : ∀ a w, K a w → K a w := fun _ _ h => h
            refine wp_seq_k fun K15 hK15 => ?_
            refine wp_seq_k fun K16 hK16 => ?_
            refine wp_region_lit ?_
            refine one fun C hC => val hE124 (R.move hE124 rfl) rfl fun a125 hE125 => hC _ _ ?_
            clear hC C
            clear hE124 a124
            refine one fun C hC => callM hE125 (peek_k b Y 0 0 (by omega) (by omega) hO101.pos) cb_21 rfl (hM108.cast (show _ = (star (mach V b Y) (star (row 21 1 rune oA oC out) (star G F0))) from by ac_rfl)) rfl fun  a126 w109 hE126 hM109 => hC _ _ ?_
            clear hC C hE125 hM108 a125
            refine one fun C hC => callF hE126 (word_c _) cb_31 rfl hM109 rfl  fun  a127 w110 hE127 hM110 => hC _ _ ?_
            clear hC C hE126 hM109 a126
            refine wpList_nil (hK16 _ _ ?_)
            clear hK16 K16
            replace hE127 := hE127.keep (E' := [(0, _), (10, _), (50, _)]) ⟨rfl, rfl, rfl, trivial⟩
            refine condR hE127 rfl ?_ ?_
            · intro hb4
              have ht4 := hb4
              try simp only [decide_eq_true_eq, decide_eq_false_iff_not, Bool.not_eq_true', Bool.not_eq_false', beq_iff_eq, Bool.and_eq_true, Bool.or_eq_true] at ht4
              refine wp_skip (hK15 _ _ ?_)
              refine wp_block ?_
              refine wp_region_lit ?_
              refine one fun C hC => val hE127 (R.move hE127 rfl) rfl fun a128 hE128 => hC _ _ ?_
              clear hC C
              clear hE127 a127
              refine one fun C hC => val hE128 (R.move hE128 rfl) rfl fun a129 hE129 => hC _ _ ?_
              clear hC C
              clear hE128 a128
              refine one fun C hC => callM hE129 (read_c b Y hO101.pos hO101.f) cb_14 rfl (hM110.cast (show _ = (star (mach V b Y) (star (row 21 1 rune oA oC out) (star G F0))) from by ac_rfl)) rfl fun  a130 w111 hE130 hM111 => hC _ _ ?_
              clear hC C hE129 hM110 a129
              have hO102 := hO101.read
              have hp102 := hO102.p
              have hn102 := hO102.n
              refine one fun C hC => lit1 hE130 hM111 4 el_50 rfl rfl rfl  fun b54 a131 w112 hE131 hM112 => hC _ _ ?_
              clear hC C hE130 hM111 a130
              refine one fun C hC => appendL (xs := out) hE131 [Y.peek 0] el_50 rfl rfl hM112 rfl rfl rfl (by unfold maxLen; first | omega | (simp; done) | (simp; omega)) (by first | omega | (simp; done) | (simp; omega)) rfl fun A55 C55 a132 w113 hE132 hM113 => hC _ _ ?_
              clear hC C hE131 hM112 a131
              refine one fun C hC => val hE132 (R.assign hE132 rfl) rfl fun a133 hE133 => hC _ _ ?_
              clear hC C
              clear hE132 a132
              replace hE133 := hE133.keep (E' := [(0, _), (10, _), (50, _)]) ⟨rfl, rfl, rfl, trivial⟩
              refine wpList_nil (hK14 _ _ ?_)
              have hm := hM113
              have hne := word_eof ht4
              have hp0 := M.read_pos hne
              have hi0 := M.read_inp Y
              have hl0 := peek_lt hne
              exact hK (n, Y.read, out ++ [Y.peek 0], A55, C55) _ _ ⟨hE133.keep (by refine ⟨?_, ?_, trivial⟩ <;> first | rfl | exact eqInt (by push_cast; rfl)), hm.cast (by ac_rfl), hO102.le (by omega), by (show Y.read.inp.length - Y.read.pos < n); rw [hi0, hp0]; omega, by rw [← hW, wordsN_step ht4], by rw [List.length_append, hi0, hp0]; (show out.length + 1 + _ ≤ _); omega⟩ (Nat.lt_succ_self _)
            · intro hb4
              have ht4 := hb4
              try simp only [decide_eq_true_eq, decide_eq_false_iff_not, Bool.not_eq_true', Bool.not_eq_false', beq_iff_eq, Bool.and_eq_true, Bool.or_eq_true] at ht4
              refine wp_exit (exitThen (exitThen (exitIn ?_)))
              refine hK13 _ _ ?_
              refine wp_seq_k fun K17 hK17 => ?_
              have hWW : M.wordsN (S.inp.length + 1) S [38] = (out, Y) := by rw [← hW]; exact wordsN_stop ht4
              have hJ17 : ∀ (U : Unit) a w, Env 112 [] a [(0, .pointer (some ⟨b, 0, none⟩)), (10, .slice oA out.length oC)] → Mem β w (star (mach V b Y.unknown) (star (row 21 1 rune oA oC out) (star G F0))) → M.Ok Y.unknown 6 → True → K17 a w := by
                intro U a227 w210 hE227 hM210 hO201
                rintro -
                refine hK17 _ _ ?_
                clear hK17
                have hp201 := hO201.p
                have hn201 := hO201.n
                have hpk201 := hO201.peek 0
                refine wp_seq_k fun K18 hK18 => ?_
                refine wp_region_lit ?_
                refine one fun C hC => val hE227 (R.move hE227 rfl) rfl fun a228 hE228 => hC _ _ ?_
                clear hC C
                clear hE227 a227
                refine one fun C hC => val hE228 (R.assign hE228 rfl) rfl fun a229 hE229 => hC _ _ ?_
                clear hC C
                clear hE228 a228
                refine wpList_nil (hK18 _ _ ?_)
                clear hK18 K18
                replace hE229 := hE229.keep (E' := [(0, _), (4, _), (10, _)]) ⟨rfl, rfl, rfl, trivial⟩
                refine wp_ret (hQ _ _ ?_)
                have hm := hM210
                have hx : S.reference ab = (out, Y.unknown) := by unfold M.reference; rw [if_neg ht1, if_pos ht2w, runesBytes_list, hLg, if_pos (by omega), hWW]
                refine back1 hE229 rfl rfl (Mem.doneX ((oA, oC) : Option Addr × Nat) ?_ ?_)
                · rw [hx]; try rfl
                · rw [hx]; dsimp only; exact hm.cast (by ac_rfl)
              clear hK17
              have hL17 : ∀ a w, K17 a w → K17 a w := fun _ _ h => h
              refine wp_seq_k fun K19 hK19 => ?_
              refine wp_region_lit ?_
              refine one fun C hC => val hE127 (R.move hE127 rfl) rfl fun a128 hE128 => hC _ _ ?_
              clear hC C
              clear hE127 a127
              refine one fun C hC => callM hE128 (peek_k b Y 0 0 (by omega) (by omega) hO101.pos) cb_21 rfl (hM110.cast (show _ = (star (mach V b Y) (star (row 21 1 rune oA oC out) (star G F0))) from by ac_rfl)) rfl fun  a129 w111 hE129 hM111 => hC _ _ ?_
              clear hC C hE128 hM110 a128
              refine one fun C hC => val hE129 (R.eql hE129 rfl rfl) rfl fun a130 hE130 => hC _ _ ?_
              clear hC C
              clear hE129 a129
              refine wpList_nil (hK19 _ _ ?_)
              clear hK19 K19
              replace hE130 := hE130.keep (E' := [(0, _), (10, _), (50, _), (58, _)]) ⟨rfl, rfl, rfl, rfl, trivial⟩
              refine condR hE130 rfl ?_ ?_
              · intro hb5
                have ht5 := hb5
                try simp only [decide_eq_true_eq, decide_eq_false_iff_not, Bool.not_eq_true', Bool.not_eq_false', beq_iff_eq, Bool.and_eq_true, Bool.or_eq_true] at ht5
                refine wp_region_lit ?_
                refine one fun C hC => val hE130 (R.move hE130 rfl) rfl fun a131 hE131 => hC _ _ ?_
                clear hC C
                clear hE130 a130
                refine one fun C hC => callM hE131 (fault_c b Y 23 hO101.f) cb_20 rfl (hM111.cast (show _ = (star (mach V b Y) (star (row 21 1 rune oA oC out) (star G F0))) from by ac_rfl)) rfl fun  a132 w112 hE132 hM112 => hC _ _ ?_
                clear hC C hE131 hM111 a131
                have hO102 := hO101.fault (x := 23) (d := 7) (by omega)
                have hp102 := hO102.p
                have hn102 := hO102.n
                replace hE132 := hE132.keep (E' := [(0, _), (10, _), (50, _), (58, _)]) ⟨rfl, rfl, rfl, rfl, trivial⟩
                refine wpList_nil (hL17 _ _ ?_)
                have hm := hM112
                have ej : Y.unknown = (Y.fault 23) := by unfold M.unknown; rw [if_pos ht5]
                rw [← ej] at hm
                exact hJ17 () _ _ (hE132.keep (by refine ⟨?_, ?_, trivial⟩ <;> rfl)) (hm.cast (by ac_rfl)) (by rw [ej]; exact hO102.le (by omega)) (trivial)
              · intro hb5
                have ht5 := hb5
                try simp only [decide_eq_true_eq, decide_eq_false_iff_not, Bool.not_eq_true', Bool.not_eq_false', beq_iff_eq, Bool.and_eq_true, Bool.or_eq_true] at ht5
                refine wp_skip (hL17 _ _ ?_)
                have hm := hM111
                have ej : Y.unknown = Y := by unfold M.unknown; rw [if_neg ht5]
                rw [← ej] at hm
                exact hJ17 () _ _ (hE130.keep (by refine ⟨?_, ?_, trivial⟩ <;> rfl)) (hm.cast (by ac_rfl)) (by rw [ej]; exact hO101.le (by omega)) (trivial)
        · intro hb3
          have ht3 := hb3
          try simp only [decide_eq_true_eq, decide_eq_false_iff_not, Bool.not_eq_true', Bool.not_eq_false', beq_iff_eq, Bool.and_eq_true, Bool.or_eq_true] at ht3
          refine wp_skip (hK10 _ _ ?_)
          refine wp_seq_k fun K20 hK20 => ?_
          obtain ⟨x1, hk1, hV1, hM106⟩ := machAt.open_ (hM105.cast (show _ = (star (mach V b (S)) (star (row 21 1 rune q.1 q.2 LL.2) (star G F0))) from by ac_rfl))
          try dsimp only at hM106 hk1
          clear hM105
          have hZ1 := hO100.ls
          try dsimp only at hZ1
          have hn0 : LL.1 ≠ 0 := by omega
          have hal := M.ahead_len S
          have hpl : S.pos + LL.1 ≤ S.inp.length := by omega
          obtain ⟨g, hg⟩ := (hM106.split (FindRow.out (a := x1.inA))).row_some (by omega)
          have hcp := ((hM106.split (FindRow.out (a := x1.inA))).row_le).1
          refine quietR mix (by kernel_rfl) hM106 fun C hC => ?_
          refine qval hE121 (fun _ hW => by exact R.move hE121 rfl) rfl fun a122 hE122 => ?_
          clear hE121 a121
          refine qval hE122 (fun _ hW => by exact R.nil hE122 rfl) rfl fun a123 hE123 => ?_
          clear hE122 a122
          refine qval hE123 (fun _ hW => by exact R.fieldAddr hE123 53 0 0 fb_53_0 rfl) rfl fun a124 hE124 => ?_
          clear hE123 a123
          refine qval hE124 (fun _ hW => by exact R.load hE124 sc_50 rfl hW (by rfl)) rfl fun a125 hE125 => ?_
          clear hE124 a124
          refine qval hE125 (fun _ hW => by exact R.move hE125 rfl) rfl fun a126 hE126 => ?_
          clear hE125 a125
          refine qval hE126 (fun _ hW => by exact R.nil hE126 rfl) rfl fun a127 hE127 => ?_
          clear hE126 a126
          refine qval hE127 (fun _ hW => by exact R.fieldAddr hE127 53 1 1 fb_53_1 rfl) rfl fun a128 hE128 => ?_
          clear hE127 a127
          refine qval hE128 (fun _ hW => by exact R.load hE128 sc_3 rfl hW (by rfl)) rfl fun a129 hE129 => ?_
          clear hE128 a128
          refine qval hE129 (fun _ hW => by exact R.move hE129 rfl) rfl fun a130 hE130 => ?_
          clear hE129 a129
          refine qval hE130 (fun _ hW => by exact R.nil hE130 rfl) rfl fun a131 hE131 => ?_
          clear hE130 a130
          refine qval hE131 (fun _ hW => by exact R.fieldAddr hE131 53 1 1 fb_53_1 rfl) rfl fun a132 hE132 => ?_
          clear hE131 a131
          refine qval hE132 (fun _ hW => by exact R.load hE132 sc_3 rfl hW (by rfl)) rfl fun a133 hE133 => ?_
          clear hE132 a132
          refine qval hE133 (fun _ hW => by exact R.move hE133 rfl) rfl fun a134 hE134 => ?_
          clear hE133 a133
          refine qval hE134 (fun _ hW => by exact R.add64 hE134 rfl rfl (by omega) (by omega)) rfl fun a135 hE135 => ?_
          clear hE134 a134
          refine qval hE135 (fun _ hW => by exact R.sliceLH hE135 21 sl_50 (g := g) (o := 0) (by rw [← hg]; rfl) rfl rfl (lo := S.pos) (hi := S.pos + LL.1) rfl (by push_cast; rfl) (by omega) (by omega) (by omega)) rfl fun a136 hE136 => ?_
          clear hE135 a135
          refine qval hE136 (fun _ hW => by exact R.assign hE136 rfl) rfl fun a137 hE137 => ?_
          clear hE136 a136
          refine wpQuiet_nil (hC _ fun w107 hM107 => ?_)
          clear hC C hM106
          refine hK20 _ _ ?_
          clear hK20 K20
          replace hE137 := hE137.keep (E' := [(0, _), (1, _), (6, _), (8, _), (9, _), (11, _), (46, _)]) ⟨rfl, rfl, rfl, rfl, rfl, rfl, rfl, trivial⟩
          refine wp_seq_k fun K21 hK21 => ?_
          refine wp_region_lit ?_
          refine one fun C hC => val hE137 (R.move hE137 rfl) rfl fun a138 hE138 => hC _ _ ?_
          clear hC C
          clear hE137 a137
          refine one fun C hC => val hE138 (R.nil hE138 rfl) rfl fun a139 hE139 => hC _ _ ?_
          clear hC C
          clear hE138 a138
          refine one fun C hC => val hE139 (R.fieldAddr hE139 53 1 1 fb_53_1 rfl) rfl fun a140 hE140 => hC _ _ ?_
          clear hC C
          clear hE139 a139
          refine one fun C hC => val hE140 (R.load hE140 sc_3 rfl hM107 (by rfl)) rfl fun a141 hE141 => hC _ _ ?_
          clear hC C
          clear hE140 a140
          refine one fun C hC => val hE141 (R.move hE141 rfl) rfl fun a142 hE142 => hC _ _ ?_
          clear hC C
          clear hE141 a141
          refine one fun C hC => val hE142 (R.add64 hE142 rfl rfl (by omega) (by omega)) rfl fun a143 hE143 => hC _ _ ?_
          clear hC C
          clear hE142 a142
          refine one fun C hC => val hE143 (R.nil hE143 rfl) rfl fun a144 hE144 => hC _ _ ?_
          clear hC C
          clear hE143 a143
          refine one fun C hC => val hE144 (R.fieldAddr hE144 53 1 1 fb_53_1 rfl) rfl fun a145 hE145 => hC _ _ ?_
          clear hC C
          clear hE144 a144
          refine one fun C hC => store hE145 hM107 sc_3 rfl rfl rfl rfl  fun  a146 w108 hE146 hM108 => hC _ _ ?_
          clear hC C hE145 hM107 a145
          try simp only [List.set_cons_zero, List.set_cons_succ, Nat.zero_add] at hM108
          refine wpList_nil (hK21 _ _ ?_)
          clear hK21 K21
          replace hE146 := hE146.keep (E' := [(0, _), (1, _), (6, _), (8, _), (9, _), (11, _), (46, _)]) ⟨rfl, rfl, rfl, rfl, rfl, rfl, rfl, trivial⟩
          refine wp_seq_k fun K22 hK22 => ?_
          obtain ⟨c0, hc0⟩ : ∃ c0, S.inp[S.pos + LL.1 - 1]? = some c0 := ⟨_, List.getElem?_eq_getElem (by omega)⟩
          obtain ⟨g2, hg2, hcc⟩ := (hM108.split (FindRow.out (a := x1.inA))).row_cell (j := 0) (v := .int .i32 c0) hc0 rfl
          have hgg : g2 = g := by rw [hg] at hg2; cases hg2; rfl
          subst hgg
          rw [show (S.pos + LL.1 - 1) * 1 + 0 = 0 + S.pos + (LL.1 - 1) * 1 by omega] at hcc
          refine wp_region_lit ?_
          refine one fun C hC => val hE146 (R.move hE146 rfl) rfl fun a147 hE147 => hC _ _ ?_
          clear hC C
          clear hE146 a146
          refine one fun C hC => val hE147 (R.move hE147 rfl) rfl fun a148 hE148 => hC _ _ ?_
          clear hC C
          clear hE147 a147
          refine one fun C hC => val hE148 (R.sub64 hE148 rfl rfl (by omega) (by omega)) rfl fun a149 hE149 => hC _ _ ?_
          clear hC C
          clear hE148 a148
          refine one fun C hC => val hE149 (R.index hE149 21 1 sl_50 rfl rfl (LL.1 - 1) (by omega) (by omega)) rfl fun a150 hE150 => hC _ _ ?_
          clear hC C
          clear hE149 a149
          refine one fun C hC => val hE150 (R.loadCell hE150 sc_21 rfl hcc) rfl fun a151 hE151 => hC _ _ ?_
          clear hC C
          clear hE150 a150
          refine one fun C hC => val hE151 (R.neq hE151 rfl rfl) rfl fun a152 hE152 => hC _ _ ?_
          clear hC C
          clear hE151 a151
          refine one fun C hC => val hE152 (R.assign hE152 rfl) rfl fun a153 hE153 => hC _ _ ?_
          clear hC C
          clear hE152 a152
          refine wpList_nil (hK22 _ _ ?_)
          clear hK22 K22
          replace hE153 := hE153.keep (E' := [(0, _), (1, _), (6, _), (8, _), (9, _), (11, _), (12, _), (46, _)]) ⟨rfl, rfl, rfl, rfl, rfl, rfl, rfl, rfl, trivial⟩
          refine wp_seq_k fun K23 hK23 => ?_
          refine wp_seq_k fun K24 hK24 => ?_
          refine wp_region_lit ?_
          refine one fun C hC => val hE153 (R.move hE153 rfl) rfl fun a154 hE154 => hC _ _ ?_
          clear hC C
          clear hE153 a153
          have hsh : Mem β _ (star (mach V b { S with pos := S.pos + LL.1 }) (star (row 21 1 rune q.1 q.2 LL.2) (star G F0))) := (machAt.close (T := 53) (R := 21) (K := 43) (L := 24) (A := 45) (V := V) (b := b) (S := { S with pos := S.pos + LL.1 }) (F := star (row 21 1 rune q.1 q.2 LL.2) (star G F0)) x1 hk1 hV1 (by (try dsimp only); (try simp only [List.length_nil, attrsOf_snoc, tagAt_true]); (try simp only [emp_star, star_emp]); exact hM108.cast (by ac_rfl)))
          refine one fun C hC => callR hE154 (peek_ro0 b { S with pos := S.pos + LL.1 } (by (try dsimp only); omega)) cb_21 rfl hsh hM108 rfl fun a155 w109 hE155 hM109 => hC _ _ ?_
          clear hC C hsh hE154 hM108 a154
          refine one fun C hC => val hE155 (R.assign hE155 rfl) rfl fun a156 hE156 => hC _ _ ?_
          clear hC C
          clear hE155 a155
          refine wpList_nil (hK24 _ _ ?_)
          clear hK24 K24
          replace hE156 := hE156.keep (E' := [(0, _), (1, _), (6, _), (8, _), (9, _), (11, _), (12, _), (13, _), (46, _)]) ⟨rfl, rfl, rfl, rfl, rfl, rfl, rfl, rfl, rfl, trivial⟩
          refine wp_seq_k fun K25 hK25 => ?_
          refine wp_region_lit ?_
          refine one fun C hC => val hE156 (R.move hE156 rfl) rfl fun a157 hE157 => hC _ _ ?_
          clear hC C
          clear hE156 a156
          refine one fun C hC => val hE157 (R.move hE157 rfl) rfl fun a158 hE158 => hC _ _ ?_
          clear hC C
          clear hE157 a157
          refine splitE hE158 (x := .tmp 94) rfl ?_ ?_
          · intro hb4
            have ht4 := hb4
            try simp only [decide_eq_true_eq, decide_eq_false_iff_not, Bool.not_eq_true', Bool.not_eq_false', beq_iff_eq, Bool.and_eq_true, Bool.or_eq_true] at ht4
            refine oneOn hE158 rfl rfl hb4 fun C hC => val hE158 (R.move hE158 rfl) rfl fun a159 hE159 => hC _ _ ?_
            clear hC C
            clear hE158 a158
            refine one fun C hC => val hE159 (R.pickT hE159 rfl hb4 rfl) rfl fun a160 hE160 => hC _ _ ?_
            clear hC C
            clear hE159 a159
            refine one fun C hC => val hE160 (R.move hE160 rfl) rfl fun a161 hE161 => hC _ _ ?_
            clear hC C
            clear hE160 a160
            refine splitE hE161 (x := .tmp 97) rfl ?_ ?_
            · intro hb5
              have ht5 := hb5
              try simp only [decide_eq_true_eq, decide_eq_false_iff_not, Bool.not_eq_true', Bool.not_eq_false', beq_iff_eq, Bool.and_eq_true, Bool.or_eq_true] at ht5
              refine oneOn hE161 rfl rfl hb5 fun C hC => val hE161 (R.move hE161 rfl) rfl fun a162 hE162 => hC _ _ ?_
              clear hC C
              clear hE161 a161
              refine oneOn hE162 rfl rfl hb5 fun C hC => val hE162 (R.eql hE162 rfl rfl) rfl fun a163 hE163 => hC _ _ ?_
              clear hC C
              clear hE162 a162
              refine oneOn hE163 rfl rfl hb5 fun C hC => val hE163 (R.move hE163 rfl) rfl fun a164 hE164 => hC _ _ ?_
              clear hC C
              clear hE163 a163
              refine splitE hE164 (x := .tmp 100) rfl ?_ ?_
              · intro hb6
                have ht6 := hb6
                try simp only [decide_eq_true_eq, decide_eq_false_iff_not, Bool.not_eq_true', Bool.not_eq_false', beq_iff_eq, Bool.and_eq_true, Bool.or_eq_true] at ht6
                refine oneOff hE164 rfl rfl hb6 rfl fun a165 hE165 => ?_
                clear hE164 a164
                refine oneOff hE165 rfl rfl hb6 rfl fun a166 hE166 => ?_
                clear hE165 a165
                refine oneOn hE166 rfl rfl hb5 fun C hC => val hE166 (R.pickT hE166 rfl hb6 rfl) rfl fun a167 hE167 => hC _ _ ?_
                clear hC C
                clear hE166 a166
                refine one fun C hC => val hE167 (R.pickT hE167 rfl hb5 rfl) rfl fun a168 hE168 => hC _ _ ?_
                clear hC C
                clear hE167 a167
                refine wpList_nil (hK25 _ _ ?_)
                clear hK25 K25
                replace hE168 := hE168.keep (E' := [(0, _), (1, _), (6, _), (8, _), (9, _), (11, _), (12, _), (13, _), (46, _), (104, _)]) ⟨rfl, rfl, rfl, rfl, rfl, rfl, rfl, rfl, rfl, rfl, trivial⟩
                refine condT hE168 rfl rfl ?_
                refine wp_seq_k fun K26 hK26 => ?_
                refine wp_region_lit ?_
                refine one fun C hC => lit1 hE168 hM109 4 el_50 rfl rfl rfl  fun b105 a169 w110 hE169 hM110 => hC _ _ ?_
                clear hC C hE168 hM109 a168
                refine one fun C hC => val hE169 (R.move hE169 rfl) rfl fun a170 hE170 => hC _ _ ?_
                clear hC C
                clear hE169 a169
                have hM111 := (hM110.split (FindP.out (b := b105))).row_of_pts (xs := [38]) (enc := rune) (sz := 1) (by intro x _; rfl) rfl (by simp [maxLen])
                clear hM110
                have hsub := hM111.split (FindRow.out (a := x1.inA)); rw [hg] at hsub
                have hnm : ((S.inp.drop S.pos).take LL.1).length = LL.1 := by rw [List.length_take, List.length_drop]; omega
                refine one fun C hC => appendS (enc := rune) (xs := [38]) (ys := ((S.inp.drop S.pos).take LL.1)) (o := 0 + S.pos) hE170 el_50 rfl rfl hM111 (fun j u hj => row_sub hsub hj) rfl (by rw [hnm]; omega) (by rw [hnm]; unfold maxLen; simp; omega) (by rw [hnm]; simp; omega) rfl fun A107 C107 a171 w112 hE171 hM112 => hC _ _ ?_
                clear hC C hE170 hM111 a170
                refine one fun C hC => val hE171 (R.assign hE171 rfl) rfl fun a172 hE172 => hC _ _ ?_
                clear hC C
                clear hE171 a171
                refine wpList_nil (hK26 _ _ ?_)
                clear hK26 K26
                replace hE172 := hE172.keep (E' := [(0, _), (1, _), (4, _), (6, _), (8, _), (9, _), (11, _), (12, _), (13, _), (46, _), (104, _)]) ⟨rfl, rfl, rfl, rfl, rfl, rfl, rfl, rfl, rfl, rfl, rfl, trivial⟩
                refine wp_ret (hQ _ _ ?_)
                have hm : Mem β _ (star (mach V b { S with pos := S.pos + LL.1 }) (star (row 21 1 rune A107 C107 ([38] ++ ((S.inp.drop S.pos).take LL.1))) (star (row 21 1 rune q.1 q.2 LL.2) (star G F0)))) := (machAt.close (T := 53) (R := 21) (K := 43) (L := 24) (A := 45) (V := V) (b := b) (S := { S with pos := S.pos + LL.1 }) (F := star (row 21 1 rune A107 C107 ([38] ++ ((S.inp.drop S.pos).take LL.1))) (star (row 21 1 rune q.1 q.2 LL.2) (star G F0))) x1 hk1 hV1 (by (try dsimp only); (try simp only [List.length_nil, attrsOf_snoc, tagAt_true]); (try simp only [emp_star, star_emp]); exact hM112.cast (by ac_rfl)))
                have hx : S.reference ab = ([38] ++ ((S.inp.drop S.pos).take LL.1), { S with pos := S.pos + LL.1 }) := by rw [ref_named ht1 ht2w hLg hn0 hc0 hpl]; unfold M.skipTo; (repeat' split) <;> first | rfl | (exfalso; simp_all; done)
                replace hm := hm.cut (row 21 1 rune q.1 q.2 LL.2)
                refine back1 hE172 rfl rfl (Mem.doneX ((A107, C107) : Option Addr × Nat) ?_ ?_)
                · rw [hx]; try rfl
                · rw [hx]; dsimp only; exact hm.cast (by ac_rfl)
              · intro hb6
                have ht6 := hb6
                try simp only [decide_eq_true_eq, decide_eq_false_iff_not, Bool.not_eq_true', Bool.not_eq_false', beq_iff_eq, Bool.and_eq_true, Bool.or_eq_true] at ht6
                refine oneOn hE164 rfl rfl hb6 fun C hC => val hE164 (R.move hE164 rfl) rfl fun a165 hE165 => hC _ _ ?_
                clear hC C
                clear hE164 a164
                refine oneOn hE165 rfl rfl hb6 fun C hC => callF hE165 (word_c _) cb_31 rfl hM109 rfl  fun  a166 w110 hE166 hM110 => hC _ _ ?_
                clear hC C hE165 hM109 a165
                refine oneOn hE166 rfl rfl hb5 fun C hC => val hE166 (R.pickF hE166 rfl hb6 rfl) rfl fun a167 hE167 => hC _ _ ?_
                clear hC C
                clear hE166 a166
                refine one fun C hC => val hE167 (R.pickT hE167 rfl hb5 rfl) rfl fun a168 hE168 => hC _ _ ?_
                clear hC C
                clear hE167 a167
                refine wpList_nil (hK25 _ _ ?_)
                clear hK25 K25
                replace hE168 := hE168.keep (E' := [(0, _), (1, _), (6, _), (8, _), (9, _), (11, _), (12, _), (13, _), (46, _), (104, _)]) ⟨rfl, rfl, rfl, rfl, rfl, rfl, rfl, rfl, rfl, rfl, trivial⟩
                refine condR hE168 rfl ?_ ?_
                · intro hb7
                  have ht7 := hb7
                  try simp only [decide_eq_true_eq, decide_eq_false_iff_not, Bool.not_eq_true', Bool.not_eq_false', beq_iff_eq, Bool.and_eq_true, Bool.or_eq_true] at ht7
                  refine wp_seq_k fun K27 hK27 => ?_
                  refine wp_region_lit ?_
                  refine one fun C hC => lit1 hE168 hM110 4 el_50 rfl rfl rfl  fun b105 a169 w111 hE169 hM111 => hC _ _ ?_
                  clear hC C hE168 hM110 a168
                  refine one fun C hC => val hE169 (R.move hE169 rfl) rfl fun a170 hE170 => hC _ _ ?_
                  clear hC C
                  clear hE169 a169
                  have hM112 := (hM111.split (FindP.out (b := b105))).row_of_pts (xs := [38]) (enc := rune) (sz := 1) (by intro x _; rfl) rfl (by simp [maxLen])
                  clear hM111
                  have hsub := hM112.split (FindRow.out (a := x1.inA)); rw [hg] at hsub
                  have hnm : ((S.inp.drop S.pos).take LL.1).length = LL.1 := by rw [List.length_take, List.length_drop]; omega
                  refine one fun C hC => appendS (enc := rune) (xs := [38]) (ys := ((S.inp.drop S.pos).take LL.1)) (o := 0 + S.pos) hE170 el_50 rfl rfl hM112 (fun j u hj => row_sub hsub hj) rfl (by rw [hnm]; omega) (by rw [hnm]; unfold maxLen; simp; omega) (by rw [hnm]; simp; omega) rfl fun A107 C107 a171 w113 hE171 hM113 => hC _ _ ?_
                  clear hC C hE170 hM112 a170
                  refine one fun C hC => val hE171 (R.assign hE171 rfl) rfl fun a172 hE172 => hC _ _ ?_
                  clear hC C
                  clear hE171 a171
                  refine wpList_nil (hK27 _ _ ?_)
                  clear hK27 K27
                  replace hE172 := hE172.keep (E' := [(0, _), (1, _), (4, _), (6, _), (8, _), (9, _), (11, _), (12, _), (13, _), (46, _), (104, _)]) ⟨rfl, rfl, rfl, rfl, rfl, rfl, rfl, rfl, rfl, rfl, rfl, trivial⟩
                  refine wp_ret (hQ _ _ ?_)
                  have hm : Mem β _ (star (mach V b { S with pos := S.pos + LL.1 }) (star (row 21 1 rune A107 C107 ([38] ++ ((S.inp.drop S.pos).take LL.1))) (star (row 21 1 rune q.1 q.2 LL.2) (star G F0)))) := (machAt.close (T := 53) (R := 21) (K := 43) (L := 24) (A := 45) (V := V) (b := b) (S := { S with pos := S.pos + LL.1 }) (F := star (row 21 1 rune A107 C107 ([38] ++ ((S.inp.drop S.pos).take LL.1))) (star (row 21 1 rune q.1 q.2 LL.2) (star G F0))) x1 hk1 hV1 (by (try dsimp only); (try simp only [List.length_nil, attrsOf_snoc, tagAt_true]); (try simp only [emp_star, star_emp]); exact hM113.cast (by ac_rfl)))
                  have hx : S.reference ab = ([38] ++ ((S.inp.drop S.pos).take LL.1), { S with pos := S.pos + LL.1 }) := by rw [ref_named ht1 ht2w hLg hn0 hc0 hpl]; unfold M.skipTo; (repeat' split) <;> first | rfl | (exfalso; simp_all; done)
                  replace hm := hm.cut (row 21 1 rune q.1 q.2 LL.2)
                  refine back1 hE172 rfl rfl (Mem.doneX ((A107, C107) : Option Addr × Nat) ?_ ?_)
                  · rw [hx]; try rfl
                  · rw [hx]; dsimp only; exact hm.cast (by ac_rfl)
                · intro hb7
                  have ht7 := hb7
                  try simp only [decide_eq_true_eq, decide_eq_false_iff_not, Bool.not_eq_true', Bool.not_eq_false', beq_iff_eq, Bool.and_eq_true, Bool.or_eq_true] at ht7
                  refine wp_skip (hK23 _ _ ?_)
                  refine wp_seq_k fun K28 hK28 => ?_
                  refine wp_seq_k fun K29 hK29 => ?_
                  refine wp_region_lit ?_
                  refine one fun C hC => val hE168 (R.move hE168 rfl) rfl fun a169 hE169 => hC _ _ ?_
                  clear hC C
                  clear hE168 a168
                  refine wpList_nil (hK29 _ _ ?_)
                  clear hK29 K29
                  replace hE169 := hE169.keep (E' := [(0, _), (1, _), (6, _), (8, _), (9, _), (11, _), (12, _), (13, _), (46, _), (104, _), (108, _)]) ⟨rfl, rfl, rfl, rfl, rfl, rfl, rfl, rfl, rfl, rfl, rfl, trivial⟩
                  refine condT hE169 rfl hb5 ?_
                  refine wp_region_lit ?_
                  refine one fun C hC => val hE169 (R.move hE169 rfl) rfl fun a170 hE170 => hC _ _ ?_
                  clear hC C
                  clear hE169 a169
                  have hO101 : M.Ok ({ S with pos := S.pos + LL.1 }) 16 := by have h1 := hO100.p; have h2 := hO100.n; have h3 := hO100.s; exact ⟨by (try dsimp only); omega, by (try dsimp only); omega, hO100.r, by (try simp only [M.sz, List.length_append, List.length_cons, List.length_nil] at h3 ⊢); omega⟩
                  have hp101 := hO101.p
                  have hn101 := hO101.n
                  refine one fun C hC => callM hE170 (fault_c b { S with pos := S.pos + LL.1 } 12 hO101.f) cb_20 rfl (machAt.close (T := 53) (R := 21) (K := 43) (L := 24) (A := 45) (V := V) (b := b) (S := { S with pos := S.pos + LL.1 }) (F := star (row 21 1 rune q.1 q.2 LL.2) (star G F0)) x1 hk1 hV1 (by (try dsimp only); (try simp only [List.length_nil, attrsOf_snoc, tagAt_true]); (try simp only [emp_star, star_emp]); exact hM110.cast (by ac_rfl))) rfl fun  a171 w111 hE171 hM111 => hC _ _ ?_
                  clear hC C hE170 hM110 a170
                  have hO102 := hO101.fault (x := 12) (d := 15) (by omega)
                  have hp102 := hO102.p
                  have hn102 := hO102.n
                  replace hE171 := hE171.keep (E' := [(0, _), (1, _), (6, _), (8, _), (9, _), (11, _), (12, _), (13, _), (46, _), (104, _), (108, _)]) ⟨rfl, rfl, rfl, rfl, rfl, rfl, rfl, rfl, rfl, rfl, rfl, trivial⟩
                  refine wpList_nil (hK28 _ _ ?_)
                  refine wp_seq_k fun K30 hK30 => ?_
                  refine wp_region_lit ?_
                  refine one fun C hC => val hE171 (R.move hE171 rfl) rfl fun a172 hE172 => hC _ _ ?_
                  clear hC C
                  clear hE171 a171
                  refine one fun C hC => val hE172 (R.assign hE172 rfl) rfl fun a173 hE173 => hC _ _ ?_
                  clear hC C
                  clear hE172 a172
                  refine wpList_nil (hK30 _ _ ?_)
                  clear hK30 K30
                  replace hE173 := hE173.keep (E' := [(0, _), (1, _), (4, _), (6, _), (8, _), (9, _), (11, _), (12, _), (13, _), (46, _), (104, _), (108, _)]) ⟨rfl, rfl, rfl, rfl, rfl, rfl, rfl, rfl, rfl, rfl, rfl, rfl, trivial⟩
                  refine wp_ret (hQ _ _ ?_)
                  have hm := hM111
                  have hx : S.reference ab = (LL.2, ({ S with pos := S.pos + LL.1 }.fault 12)) := by rw [ref_named ht1 ht2w hLg hn0 hc0 hpl]; unfold M.skipTo; (repeat' split) <;> first | rfl | (exfalso; simp_all; done)
                  refine back1 hE173 rfl rfl (Mem.doneX ((q.1, q.2) : Option Addr × Nat) ?_ ?_)
                  · rw [hx]; try rfl
                  · rw [hx]; dsimp only; exact hm.cast (by ac_rfl)
            · intro hb5
              have ht5 := hb5
              try simp only [decide_eq_true_eq, decide_eq_false_iff_not, Bool.not_eq_true', Bool.not_eq_false', beq_iff_eq, Bool.and_eq_true, Bool.or_eq_true] at ht5
              refine oneOff hE161 rfl rfl hb5 rfl fun a162 hE162 => ?_
              clear hE161 a161
              refine oneOff hE162 rfl rfl hb5 rfl fun a163 hE163 => ?_
              clear hE162 a162
              refine oneOff hE163 rfl rfl hb5 rfl fun a164 hE164 => ?_
              clear hE163 a163
              refine oneOffU hE164 rfl rfl rfl fun a165 hE165 => ?_
              clear hE164 a164
              refine oneOffU hE165 rfl rfl rfl fun a166 hE166 => ?_
              clear hE165 a165
              refine oneOff hE166 rfl rfl hb5 rfl fun a167 hE167 => ?_
              clear hE166 a166
              refine one fun C hC => val hE167 (R.pickF hE167 rfl hb5 rfl) rfl fun a168 hE168 => hC _ _ ?_
              clear hC C
              clear hE167 a167
              refine wpList_nil (hK25 _ _ ?_)
              clear hK25 K25
              replace hE168 := hE168.keep (E' := [(0, _), (1, _), (6, _), (8, _), (9, _), (11, _), (12, _), (13, _), (46, _), (104, _)]) ⟨rfl, rfl, rfl, rfl, rfl, rfl, rfl, rfl, rfl, rfl, trivial⟩
              refine condF hE168 rfl rfl ?_
              refine wp_skip (hK23 _ _ ?_)
              refine wp_seq_k fun K31 hK31 => ?_
              refine wp_seq_k fun K32 hK32 => ?_
              refine wp_region_lit ?_
              refine one fun C hC => val hE168 (R.move hE168 rfl) rfl fun a169 hE169 => hC _ _ ?_
              clear hC C
              clear hE168 a168
              refine wpList_nil (hK32 _ _ ?_)
              clear hK32 K32
              replace hE169 := hE169.keep (E' := [(0, _), (1, _), (6, _), (8, _), (9, _), (11, _), (12, _), (13, _), (46, _), (104, _), (108, _)]) ⟨rfl, rfl, rfl, rfl, rfl, rfl, rfl, rfl, rfl, rfl, rfl, trivial⟩
              refine condF hE169 rfl hb5 ?_
              refine wp_skip (hK31 _ _ ?_)
              refine wp_seq_k fun K33 hK33 => ?_
              refine wp_region_lit ?_
              refine one fun C hC => val hE169 (R.move hE169 rfl) rfl fun a170 hE170 => hC _ _ ?_
              clear hC C
              clear hE169 a169
              refine one fun C hC => val hE170 (R.assign hE170 rfl) rfl fun a171 hE171 => hC _ _ ?_
              clear hC C
              clear hE170 a170
              refine wpList_nil (hK33 _ _ ?_)
              clear hK33 K33
              replace hE171 := hE171.keep (E' := [(0, _), (1, _), (4, _), (6, _), (8, _), (9, _), (11, _), (12, _), (13, _), (46, _), (104, _), (108, _)]) ⟨rfl, rfl, rfl, rfl, rfl, rfl, rfl, rfl, rfl, rfl, rfl, rfl, trivial⟩
              refine wp_ret (hQ _ _ ?_)
              have hm : Mem β _ (star (mach V b { S with pos := S.pos + LL.1 }) (star (row 21 1 rune q.1 q.2 LL.2) (star G F0))) := (machAt.close (T := 53) (R := 21) (K := 43) (L := 24) (A := 45) (V := V) (b := b) (S := { S with pos := S.pos + LL.1 }) (F := star (row 21 1 rune q.1 q.2 LL.2) (star G F0)) x1 hk1 hV1 (by (try dsimp only); (try simp only [List.length_nil, attrsOf_snoc, tagAt_true]); (try simp only [emp_star, star_emp]); exact hM109.cast (by ac_rfl)))
              have hx : S.reference ab = (LL.2, { S with pos := S.pos + LL.1 }) := by rw [ref_named ht1 ht2w hLg hn0 hc0 hpl]; unfold M.skipTo; (repeat' split) <;> first | rfl | (exfalso; simp_all; done)
              refine back1 hE171 rfl rfl (Mem.doneX ((q.1, q.2) : Option Addr × Nat) ?_ ?_)
              · rw [hx]; try rfl
              · rw [hx]; dsimp only; exact hm.cast (by ac_rfl)
          · intro hb4
            have ht4 := hb4
            try simp only [decide_eq_true_eq, decide_eq_false_iff_not, Bool.not_eq_true', Bool.not_eq_false', beq_iff_eq, Bool.and_eq_true, Bool.or_eq_true] at ht4
            refine oneOff hE158 rfl rfl hb4 rfl fun a159 hE159 => ?_
            clear hE158 a158
            refine one fun C hC => val hE159 (R.pickF hE159 rfl hb4 rfl) rfl fun a160 hE160 => hC _ _ ?_
            clear hC C
            clear hE159 a159
            refine one fun C hC => val hE160 (R.move hE160 rfl) rfl fun a161 hE161 => hC _ _ ?_
            clear hC C
            clear hE160 a160
            refine oneOff hE161 rfl rfl rfl rfl fun a162 hE162 => ?_
            clear hE161 a161
            refine oneOff hE162 rfl rfl rfl rfl fun a163 hE163 => ?_
            clear hE162 a162
            refine oneOff hE163 rfl rfl rfl rfl fun a164 hE164 => ?_
            clear hE163 a163
            refine oneOffU hE164 rfl rfl rfl fun a165 hE165 => ?_
            clear hE164 a164
            refine oneOffU hE165 rfl rfl rfl fun a166 hE166 => ?_
            clear hE165 a165
            refine oneOff hE166 rfl rfl rfl rfl fun a167 hE167 => ?_
            clear hE166 a166
            refine one fun C hC => val hE167 (R.pickF hE167 rfl rfl rfl) rfl fun a168 hE168 => hC _ _ ?_
            clear hC C
            clear hE167 a167
            refine wpList_nil (hK25 _ _ ?_)
            clear hK25 K25
            replace hE168 := hE168.keep (E' := [(0, _), (1, _), (6, _), (8, _), (9, _), (11, _), (12, _), (13, _), (46, _), (104, _)]) ⟨rfl, rfl, rfl, rfl, rfl, rfl, rfl, rfl, rfl, rfl, trivial⟩
            refine condF hE168 rfl rfl ?_
            refine wp_skip (hK23 _ _ ?_)
            refine wp_seq_k fun K34 hK34 => ?_
            refine wp_seq_k fun K35 hK35 => ?_
            refine wp_region_lit ?_
            refine one fun C hC => val hE168 (R.move hE168 rfl) rfl fun a169 hE169 => hC _ _ ?_
            clear hC C
            clear hE168 a168
            refine wpList_nil (hK35 _ _ ?_)
            clear hK35 K35
            replace hE169 := hE169.keep (E' := [(0, _), (1, _), (6, _), (8, _), (9, _), (11, _), (12, _), (13, _), (46, _), (104, _), (108, _)]) ⟨rfl, rfl, rfl, rfl, rfl, rfl, rfl, rfl, rfl, rfl, rfl, trivial⟩
            refine condR hE169 rfl ?_ ?_
            · intro hb5
              have ht5 := hb5
              try simp only [decide_eq_true_eq, decide_eq_false_iff_not, Bool.not_eq_true', Bool.not_eq_false', beq_iff_eq, Bool.and_eq_true, Bool.or_eq_true] at ht5
              refine wp_region_lit ?_
              refine one fun C hC => val hE169 (R.move hE169 rfl) rfl fun a170 hE170 => hC _ _ ?_
              clear hC C
              clear hE169 a169
              have hO101 : M.Ok ({ S with pos := S.pos + LL.1 }) 16 := by have h1 := hO100.p; have h2 := hO100.n; have h3 := hO100.s; exact ⟨by (try dsimp only); omega, by (try dsimp only); omega, hO100.r, by (try simp only [M.sz, List.length_append, List.length_cons, List.length_nil] at h3 ⊢); omega⟩
              have hp101 := hO101.p
              have hn101 := hO101.n
              refine one fun C hC => callM hE170 (fault_c b { S with pos := S.pos + LL.1 } 12 hO101.f) cb_20 rfl (machAt.close (T := 53) (R := 21) (K := 43) (L := 24) (A := 45) (V := V) (b := b) (S := { S with pos := S.pos + LL.1 }) (F := star (row 21 1 rune q.1 q.2 LL.2) (star G F0)) x1 hk1 hV1 (by (try dsimp only); (try simp only [List.length_nil, attrsOf_snoc, tagAt_true]); (try simp only [emp_star, star_emp]); exact hM109.cast (by ac_rfl))) rfl fun  a171 w110 hE171 hM110 => hC _ _ ?_
              clear hC C hE170 hM109 a170
              have hO102 := hO101.fault (x := 12) (d := 15) (by omega)
              have hp102 := hO102.p
              have hn102 := hO102.n
              replace hE171 := hE171.keep (E' := [(0, _), (1, _), (6, _), (8, _), (9, _), (11, _), (12, _), (13, _), (46, _), (104, _), (108, _)]) ⟨rfl, rfl, rfl, rfl, rfl, rfl, rfl, rfl, rfl, rfl, rfl, trivial⟩
              refine wpList_nil (hK34 _ _ ?_)
              refine wp_seq_k fun K36 hK36 => ?_
              refine wp_region_lit ?_
              refine one fun C hC => val hE171 (R.move hE171 rfl) rfl fun a172 hE172 => hC _ _ ?_
              clear hC C
              clear hE171 a171
              refine one fun C hC => val hE172 (R.assign hE172 rfl) rfl fun a173 hE173 => hC _ _ ?_
              clear hC C
              clear hE172 a172
              refine wpList_nil (hK36 _ _ ?_)
              clear hK36 K36
              replace hE173 := hE173.keep (E' := [(0, _), (1, _), (4, _), (6, _), (8, _), (9, _), (11, _), (12, _), (13, _), (46, _), (104, _), (108, _)]) ⟨rfl, rfl, rfl, rfl, rfl, rfl, rfl, rfl, rfl, rfl, rfl, rfl, trivial⟩
              refine wp_ret (hQ _ _ ?_)
              have hm := hM110
              have hx : S.reference ab = (LL.2, ({ S with pos := S.pos + LL.1 }.fault 12)) := by rw [ref_named ht1 ht2w hLg hn0 hc0 hpl]; unfold M.skipTo; (repeat' split) <;> first | rfl | (exfalso; simp_all; done)
              refine back1 hE173 rfl rfl (Mem.doneX ((q.1, q.2) : Option Addr × Nat) ?_ ?_)
              · rw [hx]; try rfl
              · rw [hx]; dsimp only; exact hm.cast (by ac_rfl)
            · intro hb5
              have ht5 := hb5
              try simp only [decide_eq_true_eq, decide_eq_false_iff_not, Bool.not_eq_true', Bool.not_eq_false', beq_iff_eq, Bool.and_eq_true, Bool.or_eq_true] at ht5
              refine wp_skip (hK34 _ _ ?_)
              refine wp_seq_k fun K37 hK37 => ?_
              refine wp_region_lit ?_
              refine one fun C hC => val hE169 (R.move hE169 rfl) rfl fun a170 hE170 => hC _ _ ?_
              clear hC C
              clear hE169 a169
              refine one fun C hC => val hE170 (R.assign hE170 rfl) rfl fun a171 hE171 => hC _ _ ?_
              clear hC C
              clear hE170 a170
              refine wpList_nil (hK37 _ _ ?_)
              clear hK37 K37
              replace hE171 := hE171.keep (E' := [(0, _), (1, _), (4, _), (6, _), (8, _), (9, _), (11, _), (12, _), (13, _), (46, _), (104, _), (108, _)]) ⟨rfl, rfl, rfl, rfl, rfl, rfl, rfl, rfl, rfl, rfl, rfl, rfl, trivial⟩
              refine wp_ret (hQ _ _ ?_)
              have hm : Mem β _ (star (mach V b { S with pos := S.pos + LL.1 }) (star (row 21 1 rune q.1 q.2 LL.2) (star G F0))) := (machAt.close (T := 53) (R := 21) (K := 43) (L := 24) (A := 45) (V := V) (b := b) (S := { S with pos := S.pos + LL.1 }) (F := star (row 21 1 rune q.1 q.2 LL.2) (star G F0)) x1 hk1 hV1 (by (try dsimp only); (try simp only [List.length_nil, attrsOf_snoc, tagAt_true]); (try simp only [emp_star, star_emp]); exact hM109.cast (by ac_rfl)))
              have hx : S.reference ab = (LL.2, { S with pos := S.pos + LL.1 }) := by rw [ref_named ht1 ht2w hLg hn0 hc0 hpl]; unfold M.skipTo; (repeat' split) <;> first | rfl | (exfalso; simp_all; done)
              refine back1 hE171 rfl rfl (Mem.doneX ((q.1, q.2) : Option Addr × Nat) ?_ ?_)
              · rw [hx]; try rfl
              · rw [hx]; dsimp only; exact hm.cast (by ac_rfl)
      clear hK8
      have hL8 : ∀ a w, K8 a w → K8 a w := fun _ _ h => h
      refine wp_seq_k fun K38 hK38 => ?_
      have hM4 : Mem β _ (star (bld b6 (encs (S.ahead.take 0))) _) := bldAt.close (B := 71) (E := 5) (b := b6) (L := encs (S.ahead.take 0)) none none 0 (.inl rfl) ((hM3.row_nil 5 1 (encInt .u8) none).cast (star_left _ _ _))
      clear hM3
      refine wp_region_lit ?_
      refine one fun C hC => val hE12 (R.assign hE12 rfl) rfl fun a13 hE13 => hC _ _ ?_
      clear hC C
      clear hE12 a12
      refine wpList_nil (hK38 _ _ ?_)
      clear hK38 K38
      replace hE13 := hE13.keep (E' := [(0, _), (1, _), (4, _), (5, _), (6, _), (7, _), (16, _), (21, _)]) ⟨rfl, rfl, rfl, rfl, rfl, rfl, rfl, rfl, trivial⟩
      refine wp_block ?_
      have hm := hM4
      refine loopR (σ := Nat) (fun i a w => Env 112 [] a [(0, .pointer (some ⟨b, 0, none⟩)), (1, .bool ab), (6, .pointer (some ⟨b6, 0, none⟩)), (7, .int .i64 i)] ∧ Mem β w (star (mach V b S) (star (bld b6 (encs (S.ahead.take i))) (star G F0))) ∧ M.Ok S 16 ∧ (i ≤ 100 ∧ S.pos + i ≤ S.inp.length)) (fun i => 100 - i) 0 ?_ ?_
      · exact ⟨hE13.keep (by refine ⟨?_, ?_, ?_, ?_, trivial⟩ <;> rfl), hm.cast (by ac_rfl), hO.le (by omega), (by omega), (by omega)⟩
      · clear hm hE13 hM4 a13
        rintro i a14 w5 ⟨hE14, hM5, hO1, ⟨hi, hil⟩⟩ K hK
        try dsimp only at hE14 hM5 hO1
        have hp1 := hO1.p
        have hn1 := hO1.n
        have hpk := hO1.peek 0
        have hpi := hO.peek i
        have hK39 : ∀ a w, K a w → K a w := fun _ _ h => h
        refine wp_seq_k fun K40 hK40 => ?_
        refine wp_seq_k fun K41 hK41 => ?_
        refine wp_region_lit ?_
        refine one fun C hC => val hE14 (R.move hE14 rfl) rfl fun a15 hE15 => hC _ _ ?_
        clear hC C
        clear hE14 a14
        refine one fun C hC => val hE15 (R.move hE15 rfl) rfl fun a16 hE16 => hC _ _ ?_
        clear hC C
        clear hE15 a15
        refine one fun C hC => callM hE16 (peek_k b S i i (by omega) (by omega) hO1.pos) cb_21 rfl (hM5.cast (show _ = (star (mach V b S) (star (bld b6 (encs (S.ahead.take i))) (star G F0))) from by ac_rfl)) rfl fun  a17 w6 hE17 hM6 => hC _ _ ?_
        clear hC C hE16 hM5 a16
        refine one fun C hC => val hE17 (R.neq hE17 rfl rfl) rfl fun a18 hE18 => hC _ _ ?_
        clear hC C
        clear hE17 a17
        refine one fun C hC => val hE18 (R.move hE18 rfl) rfl fun a19 hE19 => hC _ _ ?_
        clear hC C
        clear hE18 a18
        refine splitE hE19 (x := .tmp 30) rfl ?_ ?_
        · intro hb3
          have ht3 := hb3
          try simp only [decide_eq_true_eq, decide_eq_false_iff_not, Bool.not_eq_true', Bool.not_eq_false', beq_iff_eq, Bool.and_eq_true, Bool.or_eq_true] at ht3
          refine oneOn hE19 rfl rfl hb3 fun C hC => val hE19 (R.move hE19 rfl) rfl fun a20 hE20 => hC _ _ ?_
          clear hC C
          clear hE19 a19
          refine oneOn hE20 rfl rfl hb3 fun C hC => val hE20 (R.lss hE20 rfl rfl) rfl fun a21 hE21 => hC _ _ ?_
          clear hC C
          clear hE20 a20
          refine one fun C hC => val hE21 (R.pickT hE21 rfl hb3 rfl) rfl fun a22 hE22 => hC _ _ ?_
          clear hC C
          clear hE21 a21
          refine wpList_nil (hK41 _ _ ?_)
          clear hK41 K41
          replace hE22 := hE22.keep (E' := [(0, _), (1, _), (6, _), (7, _), (33, _)]) ⟨rfl, rfl, rfl, rfl, rfl, trivial⟩
          refine condR hE22 rfl ?_ ?_
          · intro hb4
            have ht4 := hb4
            try simp only [decide_eq_true_eq, decide_eq_false_iff_not, Bool.not_eq_true', Bool.not_eq_false', beq_iff_eq, Bool.and_eq_true, Bool.or_eq_true] at ht4
            refine wp_skip (hK40 _ _ ?_)
            refine wp_seq_k fun K42 hK42 => ?_
            refine wp_block ?_
            refine wp_region_lit ?_
            refine one fun C hC => val hE22 (R.move hE22 rfl) rfl fun a23 hE23 => hC _ _ ?_
            clear hC C
            clear hE22 a22
            refine one fun C hC => val hE23 (R.move hE23 rfl) rfl fun a24 hE24 => hC _ _ ?_
            clear hC C
            clear hE23 a23
            refine one fun C hC => callM hE24 (peek_k b S i i (by omega) (by omega) hO1.pos) cb_21 rfl (hM6.cast (show _ = (star (mach V b S) (star (bld b6 (encs (S.ahead.take i))) (star G F0))) from by ac_rfl)) rfl fun  a25 w7 hE25 hM7 => hC _ _ ?_
            clear hC C hE24 hM6 a24
            have hel := encs_len (S.ahead.take i)
            have htl : (S.ahead.take i).length ≤ 100 := by rw [List.length_take]; omega
            refine one fun C hC => callX hE25 (writeRune_i b6 (encs (S.ahead.take i)) (S.peek i) (by omega) (by omega) (by omega)) cb_32 rfl (hM7.split (FindA.out (A := bld b6 (encs (S.ahead.take i))))) rfl fun q a26 w8 hE26 hM8 => hC _ _ ?_
            clear hC C hE25 hM7 a25 hel htl
            replace hE26 := hE26.keep (E' := [(0, _), (1, _), (6, _), (7, _), (33, _)]) ⟨rfl, rfl, rfl, rfl, rfl, trivial⟩
            refine wpList_nil (hK42 _ _ ?_)
            refine wp_region_lit ?_
            refine one fun C hC => val hE26 (R.move hE26 rfl) rfl fun a27 hE27 => hC _ _ ?_
            clear hC C
            clear hE26 a26
            refine one fun C hC => val hE27 (R.add64 hE27 rfl rfl (by omega) (by omega)) rfl fun a28 hE28 => hC _ _ ?_
            clear hC C
            clear hE27 a27
            refine one fun C hC => val hE28 (R.assign hE28 rfl) rfl fun a29 hE29 => hC _ _ ?_
            clear hC C
            clear hE28 a28
            replace hE29 := hE29.keep (E' := [(0, _), (1, _), (6, _), (7, _), (33, _)]) ⟨rfl, rfl, rfl, rfl, rfl, trivial⟩
            refine wpList_nil (hK39 _ _ ?_)
            have hm := hM8
            have hlt := peek_i_lt ht3
            rw [ahead_step hlt (by omega)] at hm
            exact hK (i + 1) _ _ ⟨hE29.keep (by refine ⟨?_, ?_, ?_, ?_, trivial⟩ <;> first | rfl | exact eqInt (by push_cast; rfl)), hm.cast (by ac_rfl), hO1.le (by omega), by omega, by omega⟩ (by omega)
          · intro hb4
            have ht4 := hb4
            try simp only [decide_eq_true_eq, decide_eq_false_iff_not, Bool.not_eq_true', Bool.not_eq_false', beq_iff_eq, Bool.and_eq_true, Bool.or_eq_true] at ht4
            refine wp_exit (exitThen (exitThen (exitIn ?_)))
            refine hL8 _ _ ?_
            have hm := hM6
            have hal := M.ahead_len S
            have et : S.ahead.take i = S.ahead := List.take_of_length_le (by omega)
            rw [et] at hm
            exact hJ8 () _ _ (hE22.keep (by refine ⟨?_, ?_, ?_, trivial⟩ <;> rfl)) (hm.cast (by ac_rfl)) (hO1.le (by omega)) (trivial)
        · intro hb3
          have ht3 := hb3
          try simp only [decide_eq_true_eq, decide_eq_false_iff_not, Bool.not_eq_true', Bool.not_eq_false', beq_iff_eq, Bool.and_eq_true, Bool.or_eq_true] at ht3
          refine oneOff hE19 rfl rfl hb3 rfl fun a20 hE20 => ?_
          clear hE19 a19
          refine oneOff hE20 rfl rfl hb3 rfl fun a21 hE21 => ?_
          clear hE20 a20
          refine one fun C hC => val hE21 (R.pickF hE21 rfl hb3 rfl) rfl fun a22 hE22 => hC _ _ ?_
          clear hC C
          clear hE21 a21
          refine wpList_nil (hK41 _ _ ?_)
          clear hK41 K41
          replace hE22 := hE22.keep (E' := [(0, _), (1, _), (6, _), (7, _), (33, _)]) ⟨rfl, rfl, rfl, rfl, rfl, trivial⟩
          refine condF hE22 rfl rfl ?_
          refine wp_exit (exitThen (exitThen (exitIn ?_)))
          refine hL8 _ _ ?_
          have hm := hM6
          have hal := M.ahead_len S
          have heo := peek_i_eof hO ht3
          have et : S.ahead.take i = S.ahead := List.take_of_length_le (by omega)
          rw [et] at hm
          exact hJ8 () _ _ (hE22.keep (by refine ⟨?_, ?_, ?_, trivial⟩ <;> rfl)) (hm.cast (by ac_rfl)) (hO1.le (by omega)) (trivial)

end Go.Sv
