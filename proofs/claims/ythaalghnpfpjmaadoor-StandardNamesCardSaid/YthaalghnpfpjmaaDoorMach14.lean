import Derived.Test.YthaalghnpfpjmaaDoorProg
import Derived.Test.YthaalghnpfpjmaaDoorMach13
import Derived.Test.YthaalghnpfpjmaaDoorRules4
set_option linter.all false
set_option linter.unusedVariables false
set_option linter.unusedSimpArgs false
set_option maxRecDepth 100000
namespace Go.Sv
open Go.RowKit Go.Proofs
attribute [local irreducible] row pts star blk emp fact any attrsOf machAt tagAt

namespace FMach14
theorem cb_51 : callB Tryd.prog 51 = true := by kernel_rfl
theorem cb_52 : callB Tryd.prog 52 = true := by kernel_rfl
theorem fb_71_0 : fieldB Tryd.prog 71 0 0 = true := by kernel_rfl
theorem fb_71_1 : fieldB Tryd.prog 71 1 1 = true := by kernel_rfl
theorem mix : Tryd.prog.follows .mixedOrders = true := by kernel_rfl
theorem pt_69 : ptrB Tryd.prog 69 71 = true := by kernel_rfl
theorem sc_67 : scalarB Tryd.prog 67 = true := by kernel_rfl
theorem sc_69 : scalarB Tryd.prog 69 = true := by kernel_rfl
theorem sl_67 : sliceB Tryd.prog 67 5 1 = true := by kernel_rfl
theorem tu_69 : toUnsafeB Tryd.prog 69 102 71 = true := by kernel_rfl
theorem us : unsafeStrB Tryd.prog 96 5 = true := by kernel_rfl
end FMach14
open FMach14
/-- A builder that a call has made itself, and what it holds. -/
def bldAt (B E : Nat) (b : Nat) (L : List UInt8) : HProp := any fun q : Option Addr × Option Addr × Nat => star (fact (q.1 = none ∨ q.1 = some ⟨b, 0, none⟩)) (star (pts b B [.pointer q.1, .slice q.2.1 (bytesB L).length q.2.2]) (row E 1 (encInt .u8) q.2.1 q.2.2 (bytesB L)))
abbrev bld := bldAt 71 5
theorem bldAt.open_ {B E b : Nat} {L : List UInt8} {β : Base} {w : World} {F : HProp} (h : Mem β w (star (bldAt B E b L) F)) : ∃ p a c, (p = none ∨ p = some ⟨b, 0, none⟩) ∧ Mem β w (star (pts b B [.pointer p, .slice a (bytesB L).length c]) (star (row E 1 (encInt .u8) a c (bytesB L)) F)) := by
  unfold bldAt at h
  obtain ⟨⟨p, a, c⟩, h⟩ := h.any
  obtain ⟨hp, h⟩ := (h.cast (star_assoc _ _ _)).fact
  exact ⟨p, a, c, hp, h.cast (star_assoc _ _ _)⟩
theorem bldAt.close {B E b : Nat} {L : List UInt8} {β : Base} {w : World} {F : HProp} (p : Option Addr) (a : Option Addr) (c : Nat) (hp : p = none ∨ p = some ⟨b, 0, none⟩) (h : Mem β w (star (pts b B [.pointer p, .slice a (bytesB L).length c]) (star (row E 1 (encInt .u8) a c (bytesB L)) F))) : Mem β w (star (bldAt B E b L) F) := by
  unfold bldAt
  exact Mem.mkAny ((p, a, c) : Option Addr × Option Addr × Nat) ((Mem.mkFact hp (h.cast (star_assoc _ _ _).symm)).cast (star_assoc _ _ _).symm)
theorem encB_le (n : Nat) : (encB n).length ≤ 4 := by
  unfold encB Utf8.encode
  simp only [List.length_map]
  (repeat' split) <;> simp
theorem bytesB_enc (L : List UInt8) (n : Nat) : bytesB (L ++ (Utf8.encode n).data.toList) = bytesB L ++ encB n := by simp [bytesB, encB]
theorem bytesB_len (L : List UInt8) : (bytesB L).length = L.length := by simp [bytesB]

set_option maxHeartbeats 400000 in
theorem copyCheck0 (b : Nat) (v : Value) : Fm Tryd.prog 51 [.pointer (some ⟨b, 0, none⟩)] (pts b 71 [.pointer none, v]) (.tuple #[]) (pts b 71 [.pointer (some ⟨b, 0, none⟩), v]) := by
  intro β w0 F0 hM0
  refine enter Tryd.func51 (by rfl) 20 rfl rfl fun a0 Q hE0 hQ hN hP => ?_
  refine wp_seq_k fun K0 hK0 => ?_
  refine wp_region_lit ?_
  refine one fun C hC => val hE0 (R.move hE0 rfl) rfl fun a1 hE1 => hC _ _ ?_
  clear hC C
  clear hE0 a0
  refine one fun C hC => val hE1 (R.nil hE1 rfl) rfl fun a2 hE2 => hC _ _ ?_
  clear hC C
  clear hE1 a1
  refine one fun C hC => val hE2 (R.fieldAddr hE2 71 0 0 fb_71_0 rfl) rfl fun a3 hE3 => hC _ _ ?_
  clear hC C
  clear hE2 a2
  refine one fun C hC => val hE3 (R.load hE3 sc_69 rfl hM0 (by rfl)) rfl fun a4 hE4 => hC _ _ ?_
  clear hC C
  clear hE3 a3
  refine one fun C hC => val hE4 (R.eqlPN hE4 pt_69 rfl rfl) rfl fun a5 hE5 => hC _ _ ?_
  clear hC C
  clear hE4 a4
  refine wpList_nil (hK0 _ _ ?_)
  clear hK0 K0
  replace hE5 := hE5.keep (E' := [(0, _), (6, _)]) ⟨rfl, rfl, trivial⟩
  refine condR hE5 rfl ?_ ?_
  · intro hb1
    have ht1 := hb1
    try simp only [decide_eq_true_eq, decide_eq_false_iff_not, Bool.not_eq_true', Bool.not_eq_false', beq_iff_eq, Bool.and_eq_true, Bool.or_eq_true] at ht1
    refine wp_region_lit ?_
    refine one fun C hC => val hE5 (R.move hE5 rfl) rfl fun a6 hE6 => hC _ _ ?_
    clear hC C
    clear hE5 a5
    refine one fun C hC => val hE6 (R.move hE6 rfl) rfl fun a7 hE7 => hC _ _ ?_
    clear hC C
    clear hE6 a6
    refine one fun C hC => val hE7 (R.toUnsafe hE7 tu_69 rfl hM0 (by simp)) rfl fun a8 hE8 => hC _ _ ?_
    clear hC C
    clear hE7 a7
    refine one fun C hC => val hE8 (R.noEscape hE8 Tryd.func67 rfl (by kernel_rfl) (by kernel_rfl) (by kernel_rfl) rfl) rfl fun a9 hE9 => hC _ _ ?_
    clear hC C
    clear hE8 a8
    refine one fun C hC => val hE9 (R.fromUnsafe hE9 (by rfl) pt_69 rfl hM0 (by kernel_rfl)) rfl fun a10 hE10 => hC _ _ ?_
    clear hC C
    clear hE9 a9
    refine one fun C hC => val hE10 (R.nil hE10 rfl) rfl fun a11 hE11 => hC _ _ ?_
    clear hC C
    clear hE10 a10
    refine one fun C hC => val hE11 (R.fieldAddr hE11 71 0 0 fb_71_0 rfl) rfl fun a12 hE12 => hC _ _ ?_
    clear hC C
    clear hE11 a11
    refine one fun C hC => store hE12 hM0 sc_69 rfl rfl rfl rfl  fun  a13 w1 hE13 hM1 => hC _ _ ?_
    clear hC C hE12 hM0 a12
    try simp only [List.set_cons_zero, List.set_cons_succ, Nat.zero_add] at hM1
    replace hE13 := hE13.keep (E' := [(0, _), (6, _)]) ⟨rfl, rfl, trivial⟩
    refine wpList_nil (hN _ _ ?_)
    exact back0 hE13 rfl (Mem.done rfl hM1)
  · intro hb1
    have ht1 := hb1
    try simp only [decide_eq_true_eq, decide_eq_false_iff_not, Bool.not_eq_true', Bool.not_eq_false', beq_iff_eq, Bool.and_eq_true, Bool.or_eq_true] at ht1
    refine wp_seq_k fun K1 hK1 => ?_
    exact absurd hb1 (by simp)

set_option maxHeartbeats 400000 in
theorem copyCheck1 (b : Nat) (v : Value) : Fm Tryd.prog 51 [.pointer (some ⟨b, 0, none⟩)] (pts b 71 [.pointer (some ⟨b, 0, none⟩), v]) (.tuple #[]) (pts b 71 [.pointer (some ⟨b, 0, none⟩), v]) := by
  intro β w0 F0 hM0
  refine enter Tryd.func51 (by rfl) 20 rfl rfl fun a0 Q hE0 hQ hN hP => ?_
  refine wp_seq_k fun K0 hK0 => ?_
  refine wp_region_lit ?_
  refine one fun C hC => val hE0 (R.move hE0 rfl) rfl fun a1 hE1 => hC _ _ ?_
  clear hC C
  clear hE0 a0
  refine one fun C hC => val hE1 (R.nil hE1 rfl) rfl fun a2 hE2 => hC _ _ ?_
  clear hC C
  clear hE1 a1
  refine one fun C hC => val hE2 (R.fieldAddr hE2 71 0 0 fb_71_0 rfl) rfl fun a3 hE3 => hC _ _ ?_
  clear hC C
  clear hE2 a2
  refine one fun C hC => val hE3 (R.load hE3 sc_69 rfl hM0 (by rfl)) rfl fun a4 hE4 => hC _ _ ?_
  clear hC C
  clear hE3 a3
  refine one fun C hC => val hE4 (R.eqlPN hE4 pt_69 rfl rfl) rfl fun a5 hE5 => hC _ _ ?_
  clear hC C
  clear hE4 a4
  refine wpList_nil (hK0 _ _ ?_)
  clear hK0 K0
  replace hE5 := hE5.keep (E' := [(0, _), (6, _)]) ⟨rfl, rfl, trivial⟩
  refine condR hE5 rfl ?_ ?_
  · intro hb1
    have ht1 := hb1
    try simp only [decide_eq_true_eq, decide_eq_false_iff_not, Bool.not_eq_true', Bool.not_eq_false', beq_iff_eq, Bool.and_eq_true, Bool.or_eq_true] at ht1
    exact absurd hb1 (by simp)
  · intro hb1
    have ht1 := hb1
    try simp only [decide_eq_true_eq, decide_eq_false_iff_not, Bool.not_eq_true', Bool.not_eq_false', beq_iff_eq, Bool.and_eq_true, Bool.or_eq_true] at ht1
    refine wp_seq_k fun K1 hK1 => ?_
    refine wp_region_lit ?_
    refine one fun C hC => val hE5 (R.move hE5 rfl) rfl fun a6 hE6 => hC _ _ ?_
    clear hC C
    clear hE5 a5
    refine one fun C hC => val hE6 (R.nil hE6 rfl) rfl fun a7 hE7 => hC _ _ ?_
    clear hC C
    clear hE6 a6
    refine one fun C hC => val hE7 (R.fieldAddr hE7 71 0 0 fb_71_0 rfl) rfl fun a8 hE8 => hC _ _ ?_
    clear hC C
    clear hE7 a7
    refine one fun C hC => val hE8 (R.load hE8 sc_69 rfl hM0 (by rfl)) rfl fun a9 hE9 => hC _ _ ?_
    clear hC C
    clear hE8 a8
    refine one fun C hC => val hE9 (R.move hE9 rfl) rfl fun a10 hE10 => hC _ _ ?_
    clear hC C
    clear hE9 a9
    refine one fun C hC => val hE10 (R.neqPS hE10 pt_69 rfl rfl) rfl fun a11 hE11 => hC _ _ ?_
    clear hC C
    clear hE10 a10
    refine wpList_nil (hK1 _ _ ?_)
    clear hK1 K1
    replace hE11 := hE11.keep (E' := [(0, _), (6, _), (19, _)]) ⟨rfl, rfl, rfl, trivial⟩
    refine condR hE11 rfl ?_ ?_
    · intro hb2
      have ht2 := hb2
      try simp only [decide_eq_true_eq, decide_eq_false_iff_not, Bool.not_eq_true', Bool.not_eq_false', beq_iff_eq, Bool.and_eq_true, Bool.or_eq_true] at ht2
      exact absurd hb2 (by simp)
    · intro hb2
      have ht2 := hb2
      try simp only [decide_eq_true_eq, decide_eq_false_iff_not, Bool.not_eq_true', Bool.not_eq_false', beq_iff_eq, Bool.and_eq_true, Bool.or_eq_true] at ht2
      refine wp_skip (hN _ _ ?_)
      exact back0 hE11 rfl (Mem.done rfl hM0)

theorem copyCheck_c (b : Nat) (v : Value) (p : Option Addr) (hp : p = none ∨ p = some ⟨b, 0, none⟩) : Fm Tryd.prog 51 [.pointer (some ⟨b, 0, none⟩)] (pts b 71 [.pointer p, v]) (.tuple #[]) (pts b 71 [.pointer (some ⟨b, 0, none⟩), v]) := by
  rcases hp with rfl | rfl
  · exact copyCheck0 b v
  · exact copyCheck1 b v

set_option maxHeartbeats 400000 in
theorem writeRune_c (b : Nat) (L : List UInt8) (n : Nat) (h1 : n ≤ 1114111) (hz : L.length ≤ 1000000) : Fx Tryd.prog 32 [.pointer (some ⟨b, 0, none⟩), .int .i32 n] (bld b L) (fun q : Int => .tuple #[.int .i64 q, .nilIface]) (fun _ => bld b (L ++ (Utf8.encode n).data.toList)) := by
  intro β w0 F0 hM0
  obtain ⟨p, a, c, hp, hM1⟩ := bldAt.open_ hM0
  clear hM0
  rename Mem _ _ _ => hM0
  refine enter Tryd.func32 (by rfl) 30 rfl rfl fun a0 Q hE0 hQ hN hP => ?_
  refine wp_seq_k fun K0 hK0 => ?_
  refine wp_region_lit ?_
  refine one fun C hC => val hE0 (R.assign hE0 rfl) rfl fun a1 hE1 => hC _ _ ?_
  clear hC C
  clear hE0 a0
  refine one fun C hC => val hE1 (R.assign hE1 rfl) rfl fun a2 hE2 => hC _ _ ?_
  clear hC C
  clear hE1 a1
  refine wpList_nil (hK0 _ _ ?_)
  clear hK0 K0
  replace hE2 := hE2.keep (E' := [(0, _), (1, _), (4, _), (5, _)]) ⟨rfl, rfl, rfl, rfl, trivial⟩
  refine wp_seq_k fun K1 hK1 => ?_
  refine wp_region_lit ?_
  refine one fun C hC => val hE2 (R.move hE2 rfl) rfl fun a3 hE3 => hC _ _ ?_
  clear hC C
  clear hE2 a2
  refine one fun C hC => callM hE3 (copyCheck_c b _ p hp) cb_51 rfl (hM0.split (FindP.out (b := b))) rfl  fun  a4 w1 hE4 hM1 => hC _ _ ?_
  clear hC C hE3 hM0 a3
  refine wpList_nil (hK1 _ _ ?_)
  clear hK1 K1
  replace hE4 := hE4.keep (E' := [(0, _), (1, _), (4, _), (5, _)]) ⟨rfl, rfl, rfl, rfl, trivial⟩
  refine wp_seq_k fun K2 hK2 => ?_
  refine wp_region_lit ?_
  refine one fun C hC => val hE4 (R.move hE4 rfl) rfl fun a5 hE5 => hC _ _ ?_
  clear hC C
  clear hE4 a4
  refine one fun C hC => val hE5 (R.nil hE5 rfl) rfl fun a6 hE6 => hC _ _ ?_
  clear hC C
  clear hE5 a5
  refine one fun C hC => val hE6 (R.fieldAddr hE6 71 1 1 fb_71_1 rfl) rfl fun a7 hE7 => hC _ _ ?_
  clear hC C
  clear hE6 a6
  refine one fun C hC => val hE7 (R.load hE7 sc_67 rfl hM1 (by rfl)) rfl fun a8 hE8 => hC _ _ ?_
  clear hC C
  clear hE7 a7
  refine one fun C hC => val hE8 (R.lenSlice hE8 5 1 sl_67 rfl) rfl fun a9 hE9 => hC _ _ ?_
  clear hC C
  clear hE8 a8
  refine one fun C hC => val hE9 (R.assign hE9 rfl) rfl fun a10 hE10 => hC _ _ ?_
  clear hC C
  clear hE9 a9
  refine wpList_nil (hK2 _ _ ?_)
  clear hK2 K2
  replace hE10 := hE10.keep (E' := [(0, _), (1, _), (4, _), (5, _), (6, _)]) ⟨rfl, rfl, rfl, rfl, rfl, trivial⟩
  refine wp_seq_k fun K3 hK3 => ?_
  refine wp_region_lit ?_
  refine one fun C hC => val hE10 (R.move hE10 rfl) rfl fun a11 hE11 => hC _ _ ?_
  clear hC C
  clear hE10 a10
  refine one fun C hC => val hE11 (R.move hE11 rfl) rfl fun a12 hE12 => hC _ _ ?_
  clear hC C
  clear hE11 a11
  refine one fun C hC => val hE12 (R.nil hE12 rfl) rfl fun a13 hE13 => hC _ _ ?_
  clear hC C
  clear hE12 a12
  refine one fun C hC => val hE13 (R.fieldAddr hE13 71 1 1 fb_71_1 rfl) rfl fun a14 hE14 => hC _ _ ?_
  clear hC C
  clear hE13 a13
  refine one fun C hC => val hE14 (R.load hE14 sc_67 rfl hM1 (by rfl)) rfl fun a15 hE15 => hC _ _ ?_
  clear hC C
  clear hE14 a14
  refine one fun C hC => val hE15 (R.move hE15 rfl) rfl fun a16 hE16 => hC _ _ ?_
  clear hC C
  clear hE15 a15
  refine one fun C hC => callX hE16 (appendRune_c a c (bytesB L) n h1 (by rw [bytesB_len]; exact hz)) cb_52 rfl (hM1.split (FindRow.out (a := a))) rfl  fun q a17 w2 hE17 hM2 => hC _ _ ?_
  clear hC C hE16 hM1 a16
  refine one fun C hC => val hE17 (R.nil hE17 rfl) rfl fun a18 hE18 => hC _ _ ?_
  clear hC C
  clear hE17 a17
  refine one fun C hC => val hE18 (R.fieldAddr hE18 71 1 1 fb_71_1 rfl) rfl fun a19 hE19 => hC _ _ ?_
  clear hC C
  clear hE18 a18
  refine one fun C hC => store hE19 hM2 sc_67 rfl rfl rfl rfl  fun  a20 w3 hE20 hM3 => hC _ _ ?_
  clear hC C hE19 hM2 a19
  try simp only [List.set_cons_zero, List.set_cons_succ, Nat.zero_add] at hM3
  refine wpList_nil (hK3 _ _ ?_)
  clear hK3 K3
  replace hE20 := hE20.keep (E' := [(0, _), (1, _), (4, _), (5, _), (6, _)]) ⟨rfl, rfl, rfl, rfl, rfl, trivial⟩
  refine wp_seq_k fun K4 hK4 => ?_
  refine wp_region_lit ?_
  refine one fun C hC => val hE20 (R.move hE20 rfl) rfl fun a21 hE21 => hC _ _ ?_
  clear hC C
  clear hE20 a20
  refine one fun C hC => val hE21 (R.nil hE21 rfl) rfl fun a22 hE22 => hC _ _ ?_
  clear hC C
  clear hE21 a21
  refine one fun C hC => val hE22 (R.fieldAddr hE22 71 1 1 fb_71_1 rfl) rfl fun a23 hE23 => hC _ _ ?_
  clear hC C
  clear hE22 a22
  refine one fun C hC => val hE23 (R.load hE23 sc_67 rfl hM3 (by rfl)) rfl fun a24 hE24 => hC _ _ ?_
  clear hC C
  clear hE23 a23
  refine one fun C hC => val hE24 (R.lenSlice hE24 5 1 sl_67 rfl) rfl fun a25 hE25 => hC _ _ ?_
  clear hC C
  clear hE24 a24
  refine one fun C hC => val hE25 (R.move hE25 rfl) rfl fun a26 hE26 => hC _ _ ?_
  clear hC C
  clear hE25 a25
  refine one fun C hC => val hE26 (R.sub64 hE26 rfl rfl (by rw [List.length_append]; omega) (by rw [List.length_append, bytesB_len]; have := encB_le n; omega)) rfl fun a27 hE27 => hC _ _ ?_
  clear hC C
  clear hE26 a26
  refine one fun C hC => val hE27 (R.assign hE27 rfl) rfl fun a28 hE28 => hC _ _ ?_
  clear hC C
  clear hE27 a27
  refine one fun C hC => val hE28 (R.assign hE28 rfl) rfl fun a29 hE29 => hC _ _ ?_
  clear hC C
  clear hE28 a28
  refine wpList_nil (hK4 _ _ ?_)
  clear hK4 K4
  replace hE29 := hE29.keep (E' := [(0, _), (1, _), (4, _), (5, _), (6, _)]) ⟨rfl, rfl, rfl, rfl, rfl, trivial⟩
  refine wp_ret (hQ _ _ ?_)
  have hm := bldAt.close (B := 71) (E := 5) (b := b) (L := L ++ (Utf8.encode n).data.toList) (F := F0) (some ⟨b, 0, none⟩) q.1 q.2 (.inr rfl) (by rw [bytesB_enc]; first | exact hM3 | exact hM3.cast (by ac_rfl))
  exact back2 hE29 rfl rfl rfl (Mem.doneX (α := Int) _ rfl hm)

set_option maxHeartbeats 400000 in
theorem bString_c (b : Nat) (L : List UInt8) (hL : L ≠ []) (hl : L.length ≤ 1000000000) : Fm Tryd.prog 34 [.pointer (some ⟨b, 0, none⟩)] (bld b L) (.string ⟨L.toArray⟩) emp := by
  intro β w0 F0 hM0
  obtain ⟨p, a, c, hp, hM1⟩ := bldAt.open_ hM0
  clear hM0
  rename Mem _ _ _ => hM0
  obtain ⟨g, rest, rfl, hc, hM1⟩ := row_some_all (hM0.cast (star_left _ _ _)) (by unfold bytesB; simpa using hL)
  clear hM0
  rename Mem _ _ _ => hM0
  rw [flat_u8, bytesB_len] at hM0
  replace hM0 := hM0.cast (star_left _ _ _)
  refine enter Tryd.func34 (by rfl) 14 rfl rfl fun a0 Q hE0 hQ hN hP => ?_
  refine wp_seq_k fun K0 hK0 => ?_
  refine wp_region_lit ?_
  refine one fun C hC => val hE0 (R.assign hE0 rfl) rfl fun a1 hE1 => hC _ _ ?_
  clear hC C
  clear hE0 a0
  refine wpList_nil (hK0 _ _ ?_)
  clear hK0 K0
  replace hE1 := hE1.keep (E' := [(0, _), (2, _)]) ⟨rfl, rfl, trivial⟩
  refine wp_seq_k fun K1 hK1 => ?_
  refine planM [10] [(0, 1), (1, 1), (2, 1), (5, 1), (6, 1), (7, 1), (3, 0), (4, 1), (8, 0), (9, 1), (10, 2), (11, 1)] mix (by kernel_rfl) hM0 (fun c a a2 w hd => hP c a a2 w hd) fun w1 hM1 C0 hC0 => ?_
  clear hM0
  refine pPure rfl hE1 (fun _ => by exact R.move hE1 rfl) rfl fun a2 hE2 => ?_
  clear hE1 a1
  refine pPure rfl hE2 (fun _ => by exact R.nil hE2 rfl) rfl fun a3 hE3 => ?_
  clear hE2 a2
  refine pPure rfl hE3 (fun _ => by exact R.fieldAddr hE3 71 1 1 fb_71_1 rfl) rfl fun a4 hE4 => ?_
  clear hE3 a3
  refine pPure rfl hE4 (fun _ => by exact R.move hE4 rfl) rfl fun a5 hE5 => ?_
  clear hE4 a4
  refine pPure rfl hE5 (fun _ => by exact R.nil hE5 rfl) rfl fun a6 hE6 => ?_
  clear hE5 a5
  refine pPure rfl hE6 (fun _ => by exact R.fieldAddr hE6 71 1 1 fb_71_1 rfl) rfl fun a7 hE7 => ?_
  clear hE6 a6
  refine pTake rfl hE7 (fun _ hW => by exact R.load hE7 sc_67 rfl hW (by rfl)) rfl hM1 fun a8 hE8 => ?_
  clear hE7 a7
  refine pPure rfl hE8 (fun _ => by exact R.sliceData hE8 rfl (by omega)) rfl fun a9 hE9 => ?_
  clear hE8 a8
  refine pTake rfl hE9 (fun _ hW => by exact R.load hE9 sc_67 rfl hW (by rfl)) rfl hM1 fun a10 hE10 => ?_
  clear hE9 a9
  refine pPure rfl hE10 (fun _ => by exact R.lenSlice hE10 5 1 sl_67 rfl) rfl fun a11 hE11 => ?_
  clear hE10 a10
  refine pOne rfl rfl fun C hC => unsafeStr hE11 us rfl rfl hL hl (hM1.split (FindP.out (b := g))) rfl fun  a12 w2 hE12 hM2 => hC _ _ ?_
  clear hC C hE11 hM1 a11
  refine pPure rfl hE12 (fun _ => by exact R.assign hE12 rfl) rfl fun a13 hE13 => ?_
  clear hE12 a12
  refine pNil (hC0 _ _ ?_)
  clear hC0 C0
  refine hK1 _ _ ?_
  clear hK1 K1
  replace hE13 := hE13.keep (E' := [(0, _), (2, _)]) ⟨rfl, rfl, trivial⟩
  refine wp_ret (hQ _ _ ?_)
  exact back1 hE13 rfl rfl (Mem.done rfl ((hM2.cut (pts b 71 [.pointer p, .slice (some ⟨g, 0, none⟩) L.length c])).cast (emp_star _).symm))

end Go.Sv
