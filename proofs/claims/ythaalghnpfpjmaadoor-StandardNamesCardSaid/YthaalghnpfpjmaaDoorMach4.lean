import Derived.Test.YthaalghnpfpjmaaDoorProg
import Derived.Test.YthaalghnpfpjmaaDoorMach3
set_option linter.all false
set_option linter.unusedVariables false
set_option linter.unusedSimpArgs false
set_option maxRecDepth 100000
namespace Go.Sv
open Go.RowKit Go.Proofs
attribute [local irreducible] row pts star blk emp fact any attrsOf machAt tagAt

namespace FMach4
theorem cb_14 : callB Tryd.prog 14 = true := by kernel_rfl
theorem cb_15 : callB Tryd.prog 15 = true := by kernel_rfl
theorem cb_20 : callB Tryd.prog 20 = true := by kernel_rfl
theorem cb_35 : callB Tryd.prog 35 = true := by kernel_rfl
theorem cb_36 : callB Tryd.prog 36 = true := by kernel_rfl
theorem cb_39 : callB Tryd.prog 39 = true := by kernel_rfl
theorem cb_56 : callB Tryd.prog 56 = true := by kernel_rfl
theorem el_50 : elemB Tryd.prog 50 21 1 4 = true := by kernel_rfl
theorem fb_53_13 : fieldB Tryd.prog 53 13 20 = true := by kernel_rfl
theorem fb_53_7 : fieldB Tryd.prog 53 7 14 = true := by kernel_rfl
theorem mix : Tryd.prog.follows .mixedOrders = true := by kernel_rfl
theorem sc_21 : scalarB Tryd.prog 21 = true := by kernel_rfl
theorem sc_50 : scalarB Tryd.prog 50 = true := by kernel_rfl
end FMach4
open FMach4

theorem bl47 : blankB 47 = false := by decide
theorem bl62 : blankB 62 = false := by decide
theorem blE : blankB (-1) = false := by decide
section
variable (G : HProp) (hIn : ∀ (n : ByteArray) (k : Int), k = 2 ∨ k = 3 → Fm Tryd.prog 70 [.string n, .int .i64 k] G (.bool (inSet k n)) G)
namespace M.Ok
variable {S : M} {c : Nat}
theorem titled (h : S.Ok c) : S.titled.Ok c := ⟨h.p, h.n, h.r, h.s⟩
theorem mid (h : S.Ok c) {d : Nat} (hd : d + 2 ≤ c) : S.mid.Ok d := by
  have h1 : S.ended1.Ok (d + 1) := by unfold M.ended1; split; exact h.fault (by omega); exact h.le (by omega)
  have h2 : S.ended1.ended2.Ok d := by unfold M.ended2; split; exact h1.fault (by omega); exact h1.le (by omega)
  unfold M.mid
  split
  · exact ⟨h2.p, h2.n, h2.r, by have := h2.s; simp [M.ended, M.bared, M.sz] at *; omega⟩
  · exact h.le (by omega)
theorem push (h : S.Ok c) {d : Nat} (hd : d + 1 ≤ c) : S.push.Ok d := ⟨h.p, h.n, h.r, by have := h.s; simp [M.push, M.sz] at *; omega⟩
theorem rest {T : M} (h : S.Ok c) (e : S.rest = some T) : T.Ok c := by
  unfold M.rest at e
  (repeat' split at e) <;> first | (cases e; done) | (cases e; exact ⟨h.p, h.n, h.r, h.s⟩)
theorem told {T : M} (h : S.Ok c) (e : S.told = some T) {d : Nat} (hd : d + 4 ≤ c) : T.Ok d := by
  have h1 : S.keep.Ok (d + 3) := h.keep (by omega)
  have h2 : S.keep.titled.mid.Ok (d + 1) := h1.titled.mid (by omega)
  have h3 : S.keep.titled.mid.flush.push.Ok d := h2.flush.push (by omega)
  exact h3.rest e
theorem last (h : S.Ok c) {r : Int} : ({ S with last := r } : M).Ok c := ⟨h.p, h.n, h.r, h.s⟩
theorem edge {y : Int × M} {r : Int} (h : S.Ok c) (e : S.edge r = some y) {d : Nat} (hd : d + 4 ≤ c) : y.2.Ok d := by
  unfold M.edge at e
  (repeat' split at e)
  · cases e; exact h.le (by omega)
  · cases e; exact h.le (by omega)
  · cases ht : S.told with
    | none => rw [ht] at e; cases e
    | some T => rw [ht] at e; cases e; exact h.told ht hd
  · cases e; exact (h.fault (d := d) (by omega)).flush
  · cases e; exact h.last.le (by omega)
end M.Ok
theorem edge_stay {S : M} {y : Int × M} {r : Int} (e : S.edge r = some y) (h : y.1 = 0) : r ≠ -1 ∧ r ≠ 62 ∧ y = (0, { S with last := r }) := by
  unfold M.edge at e
  (repeat' split at e)
  · cases e; cases h
  · cases e; cases h
  · cases ht : S.told with
    | none => rw [ht] at e; cases e
    | some T => rw [ht] at e; cases e; cases h
  · cases e; cases h
  · rename_i h1 h2 h3 h4; cases e; exact ⟨h4, h3, rfl⟩
def M.nameOf (S : M) (r : Int) : M := if r = 0 then { S.fault 21 with name := S.name ++ [lowerR 65533] } else { S with name := S.name ++ [lowerR r] }
def M.tagNameN : Nat → M → Option (Int × M)
  | 0, _ => none
  | n + 1, S => (S.read.edge (S.peek 0)).bind fun y => if y.1 ≠ 0 then some y else M.tagNameN n (y.2.nameOf (S.peek 0))
def M.tagName (S : M) : Option (Int × M) := M.tagNameN (S.inp.length + 1) S

theorem M.nameOf_st (S : M) (r : Int) : (S.nameOf r).stale = S.stale := by unfold M.nameOf; split <;> rfl
theorem M.nameOf_inp (S : M) (r : Int) : (S.nameOf r).inp = S.inp := by unfold M.nameOf; split <;> rfl
theorem M.nameOf_pos (S : M) (r : Int) : (S.nameOf r).pos = S.pos := by unfold M.nameOf; split <;> rfl
theorem M.Ok.nameOf {S : M} {c d : Nat} {r : Int} (h : S.Ok c) (hd : d + 2 ≤ c) : (S.nameOf r).Ok d := by
  unfold M.nameOf
  split
  · exact ⟨h.p, h.n, h.r, by have := h.s; simp [M.fault, M.sz] at *; omega⟩
  · exact ⟨h.p, h.n, h.r, by have := h.s; simp [M.sz] at *; omega⟩

set_option maxHeartbeats 1000000 in
include hIn in
theorem edge_c (b : Nat) (S : M) (hs : S.stale = false) (r : Int) (hO : S.Ok 8) : Fo Tryd.prog rej 39 [.pointer (some ⟨b, 0, none⟩), .int .i32 r] (star (mach none b S) G) (S.edge r) (fun y => (.int .i64 y.1)) (fun y => star (mach none b y.2) G) G := by
  intro β w0 F0 hM0
  replace hM0 := hM0.cast (star_assoc _ _ _)
  obtain ⟨x, hk, hV, hM1⟩ := machAt.openT hs hM0
  clear hM0
  rename Mem _ _ _ => hM0
  refine enterO Tryd.func39 (by rfl) 27 rfl rfl fun a0 Q hE0 hQ hN hP hX => ?_
  have hp0 := hO.p
  have hn0 := hO.n
  have hs0 := hO.s
  simp only [M.sz] at hs0
  refine wp_seq_k fun K0 hK0 => ?_
  refine wp_region_lit ?_
  refine one fun C hC => val hE0 (R.assign hE0 rfl) rfl fun a1 hE1 => hC _ _ ?_
  clear hC C
  clear hE0 a0
  refine wpList_nil (hK0 _ _ ?_)
  clear hK0 K0
  replace hE1 := hE1.keep (E' := [(0, _), (1, _), (4, _)]) ⟨rfl, rfl, rfl, trivial⟩
  refine wp_seq_k fun K1 hK1 => ?_
  refine wp_block ?_
  refine wp_seq_k fun K2 hK2 => ?_
  refine wp_region_lit ?_
  refine one fun C hC => val hE1 (R.move hE1 rfl) rfl fun a2 hE2 => hC _ _ ?_
  clear hC C
  clear hE1 a1
  refine one fun C hC => callF hE2 (blank_c _) cb_36 rfl hM0 rfl  fun  a3 w1 hE3 hM1 => hC _ _ ?_
  clear hC C hE2 hM0 a2
  refine one fun C hC => val hE3 (R.assign hE3 rfl) rfl fun a4 hE4 => hC _ _ ?_
  clear hC C
  clear hE3 a3
  refine wpList_nil (hK2 _ _ ?_)
  clear hK2 K2
  replace hE4 := hE4.keep (E' := [(0, _), (1, _), (4, _), (5, _)]) ⟨rfl, rfl, rfl, rfl, trivial⟩
  refine condR hE4 rfl ?_ ?_
  · intro hb1
    have ht1 := hb1
    try simp only [decide_eq_true_eq, decide_eq_false_iff_not, Bool.not_eq_true', Bool.not_eq_false', beq_iff_eq, Bool.and_eq_true, Bool.or_eq_true] at ht1
    refine wp_seq_k fun K3 hK3 => ?_
    refine wp_region_lit ?_
    refine one fun C hC => val hE4 (R.assign hE4 rfl) rfl fun a5 hE5 => hC _ _ ?_
    clear hC C
    clear hE4 a4
    refine wpList_nil (hK3 _ _ ?_)
    clear hK3 K3
    replace hE5 := hE5.keep (E' := [(0, _), (1, _), (4, _), (5, _)]) ⟨rfl, rfl, rfl, rfl, trivial⟩
    refine wp_ret (hQ _ _ ?_)
    have hm := (machAt.closeT (T := 53) (R := 21) (K := 43) (L := 24) (A := 45) (V := none) (b := b) (S := S) (F := star G F0) (by first | rfl | assumption | ((try dsimp only); (try simp only [M.read_st, M.fault_st, M.say_st, M.begin_st, M.flush_st, M.keep_st, M.leave_st, M.again_st, M.first_st]); first | rfl | assumption)) x hk trivial (by (try dsimp only); (try simp only [List.length_nil, attrsOf_snoc, tagAt_true]); (try simp only [emp_star, star_emp]); exact hM1.cast (by ac_rfl)))
    refine back1 hE5 rfl rfl (Mem.doneO (1, S) ?_ rfl ?_)
    · simp [M.edge, bl47, bl62, blE, ht1]
    exact hm.cast (by ac_rfl)
  · intro hb1
    have ht1 := hb1
    try simp only [decide_eq_true_eq, decide_eq_false_iff_not, Bool.not_eq_true', Bool.not_eq_false', beq_iff_eq, Bool.and_eq_true, Bool.or_eq_true] at ht1
    refine wp_seq_k fun K4 hK4 => ?_
    refine wp_region_lit ?_
    refine one fun C hC => val hE4 (R.move hE4 rfl) rfl fun a5 hE5 => hC _ _ ?_
    clear hC C
    clear hE4 a4
    refine one fun C hC => val hE5 (R.eql hE5 rfl rfl) rfl fun a6 hE6 => hC _ _ ?_
    clear hC C
    clear hE5 a5
    refine one fun C hC => val hE6 (R.assign hE6 rfl) rfl fun a7 hE7 => hC _ _ ?_
    clear hC C
    clear hE6 a6
    refine wpList_nil (hK4 _ _ ?_)
    clear hK4 K4
    replace hE7 := hE7.keep (E' := [(0, _), (1, _), (4, _), (5, _), (8, _)]) ⟨rfl, rfl, rfl, rfl, rfl, trivial⟩
    refine condR hE7 rfl ?_ ?_
    · intro hb2
      have ht2 := hb2
      try simp only [decide_eq_true_eq, decide_eq_false_iff_not, Bool.not_eq_true', Bool.not_eq_false', beq_iff_eq, Bool.and_eq_true, Bool.or_eq_true] at ht2
      refine wp_seq_k fun K5 hK5 => ?_
      refine wp_region_lit ?_
      refine one fun C hC => val hE7 (R.assign hE7 rfl) rfl fun a8 hE8 => hC _ _ ?_
      clear hC C
      clear hE7 a7
      refine wpList_nil (hK5 _ _ ?_)
      clear hK5 K5
      replace hE8 := hE8.keep (E' := [(0, _), (1, _), (4, _), (5, _), (8, _)]) ⟨rfl, rfl, rfl, rfl, rfl, trivial⟩
      refine wp_ret (hQ _ _ ?_)
      have hm := (machAt.closeT (T := 53) (R := 21) (K := 43) (L := 24) (A := 45) (V := none) (b := b) (S := S) (F := star G F0) (by first | rfl | assumption | ((try dsimp only); (try simp only [M.read_st, M.fault_st, M.say_st, M.begin_st, M.flush_st, M.keep_st, M.leave_st, M.again_st, M.first_st]); first | rfl | assumption)) x hk trivial (by (try dsimp only); (try simp only [List.length_nil, attrsOf_snoc, tagAt_true]); (try simp only [emp_star, star_emp]); exact hM1.cast (by ac_rfl)))
      refine back1 hE8 rfl rfl (Mem.doneO (3, S) ?_ rfl ?_)
      · simp [M.edge, bl47, bl62, blE, ht1, ht2]
      exact hm.cast (by ac_rfl)
    · intro hb2
      have ht2 := hb2
      try simp only [decide_eq_true_eq, decide_eq_false_iff_not, Bool.not_eq_true', Bool.not_eq_false', beq_iff_eq, Bool.and_eq_true, Bool.or_eq_true] at ht2
      refine wp_seq_k fun K6 hK6 => ?_
      refine wp_region_lit ?_
      refine one fun C hC => val hE7 (R.move hE7 rfl) rfl fun a8 hE8 => hC _ _ ?_
      clear hC C
      clear hE7 a7
      refine one fun C hC => val hE8 (R.eql hE8 rfl rfl) rfl fun a9 hE9 => hC _ _ ?_
      clear hC C
      clear hE8 a8
      refine one fun C hC => val hE9 (R.assign hE9 rfl) rfl fun a10 hE10 => hC _ _ ?_
      clear hC C
      clear hE9 a9
      refine wpList_nil (hK6 _ _ ?_)
      clear hK6 K6
      replace hE10 := hE10.keep (E' := [(0, _), (1, _), (4, _), (5, _), (8, _), (11, _)]) ⟨rfl, rfl, rfl, rfl, rfl, rfl, trivial⟩
      refine condR hE10 rfl ?_ ?_
      · intro hb3
        have ht3 := hb3
        try simp only [decide_eq_true_eq, decide_eq_false_iff_not, Bool.not_eq_true', Bool.not_eq_false', beq_iff_eq, Bool.and_eq_true, Bool.or_eq_true] at ht3
        refine wp_seq_k fun K7 hK7 => ?_
        refine wp_region_lit ?_
        refine one fun C hC => val hE10 (R.move hE10 rfl) rfl fun a11 hE11 => hC _ _ ?_
        clear hC C
        clear hE10 a10
        refine one fun C hC => callO hE11 (told_c G hIn b S (by first | rfl | assumption | ((try dsimp only); (try simp only [M.read_st, M.fault_st, M.say_st, M.begin_st, M.flush_st, M.keep_st, M.leave_st, M.again_st, M.first_st]); first | rfl | assumption)) (hO.le (by omega))) cb_56 rfl ((machAt.closeT (T := 53) (R := 21) (K := 43) (L := 24) (A := 45) (V := none) (b := b) (S := S) (F := star G F0) (by first | rfl | assumption | ((try dsimp only); (try simp only [M.read_st, M.fault_st, M.say_st, M.begin_st, M.flush_st, M.keep_st, M.leave_st, M.again_st, M.first_st]); first | rfl | assumption)) x hk trivial (by (try dsimp only); (try simp only [List.length_nil, attrsOf_snoc, tagAt_true]); (try simp only [emp_star, star_emp]); exact hM1.cast (by ac_rfl))).cast (show (star (mach none b S) (star G F0)) = (star (star (mach none b S) G) F0) from by ac_rfl)) rfl ?_ ?_
        · intro hy1 w2 hM2
          exact hX _ _ hE11.defers (by simp [M.edge, bl47, bl62, blE, ht1, ht2, ht3, hy1]) hM2
        intro y1 hy1 a12 w2 hE12 hM2
        refine hC _ _ ?_
        clear hC C hE11 hM1 a11
        replace hM2 := hM2.cast (star_assoc _ _ _)
        have hO1 := hO.told hy1 (d := 4) (by omega)
        have hp1 := hO1.p
        have hn1 := hO1.n
        refine wpList_nil (hK7 _ _ ?_)
        clear hK7 K7
        replace hE12 := hE12.keep (E' := [(0, _), (1, _), (4, _), (5, _), (8, _), (11, _)]) ⟨rfl, rfl, rfl, rfl, rfl, rfl, trivial⟩
        refine wp_seq_k fun K8 hK8 => ?_
        refine wp_region_lit ?_
        refine one fun C hC => val hE12 (R.assign hE12 rfl) rfl fun a13 hE13 => hC _ _ ?_
        clear hC C
        clear hE12 a12
        refine wpList_nil (hK8 _ _ ?_)
        clear hK8 K8
        replace hE13 := hE13.keep (E' := [(0, _), (1, _), (4, _), (5, _), (8, _), (11, _)]) ⟨rfl, rfl, rfl, rfl, rfl, rfl, trivial⟩
        refine wp_ret (hQ _ _ ?_)
        have hm := hM2
        refine back1 hE13 rfl rfl (Mem.doneO (4, y1) ?_ rfl ?_)
        · simp [M.edge, bl47, bl62, blE, ht1, ht2, ht3, hy1]
        exact hm.cast (by ac_rfl)
      · intro hb3
        have ht3 := hb3
        try simp only [decide_eq_true_eq, decide_eq_false_iff_not, Bool.not_eq_true', Bool.not_eq_false', beq_iff_eq, Bool.and_eq_true, Bool.or_eq_true] at ht3
        refine wp_seq_k fun K9 hK9 => ?_
        refine wp_region_lit ?_
        refine one fun C hC => val hE10 (R.move hE10 rfl) rfl fun a11 hE11 => hC _ _ ?_
        clear hC C
        clear hE10 a10
        refine one fun C hC => val hE11 (R.eql hE11 rfl rfl) rfl fun a12 hE12 => hC _ _ ?_
        clear hC C
        clear hE11 a11
        refine one fun C hC => val hE12 (R.assign hE12 rfl) rfl fun a13 hE13 => hC _ _ ?_
        clear hC C
        clear hE12 a12
        refine wpList_nil (hK9 _ _ ?_)
        clear hK9 K9
        replace hE13 := hE13.keep (E' := [(0, _), (1, _), (4, _), (5, _), (8, _), (11, _), (16, _)]) ⟨rfl, rfl, rfl, rfl, rfl, rfl, rfl, trivial⟩
        refine condR hE13 rfl ?_ ?_
        · intro hb4
          have ht4 := hb4
          try simp only [decide_eq_true_eq, decide_eq_false_iff_not, Bool.not_eq_true', Bool.not_eq_false', beq_iff_eq, Bool.and_eq_true, Bool.or_eq_true] at ht4
          refine wp_seq_k fun K10 hK10 => ?_
          refine wp_region_lit ?_
          refine one fun C hC => val hE13 (R.move hE13 rfl) rfl fun a14 hE14 => hC _ _ ?_
          clear hC C
          clear hE13 a13
          refine one fun C hC => callM hE14 (fault_c b S 8 hO.f) cb_20 rfl (machAt.closeT (T := 53) (R := 21) (K := 43) (L := 24) (A := 45) (V := none) (b := b) (S := S) (F := star G F0) (by first | rfl | assumption | ((try dsimp only); (try simp only [M.read_st, M.fault_st, M.say_st, M.begin_st, M.flush_st, M.keep_st, M.leave_st, M.again_st, M.first_st]); first | rfl | assumption)) x hk trivial (by (try dsimp only); (try simp only [List.length_nil, attrsOf_snoc, tagAt_true]); (try simp only [emp_star, star_emp]); exact hM1.cast (by ac_rfl))) rfl fun  a15 w2 hE15 hM2 => hC _ _ ?_
          clear hC C hE14 hM1 a14
          have hO1 := hO.fault (x := 8) (d := 7) (by omega)
          have hp1 := hO1.p
          have hn1 := hO1.n
          refine wpList_nil (hK10 _ _ ?_)
          clear hK10 K10
          replace hE15 := hE15.keep (E' := [(0, _), (1, _), (4, _), (5, _), (8, _), (11, _), (16, _)]) ⟨rfl, rfl, rfl, rfl, rfl, rfl, rfl, trivial⟩
          refine wp_seq_k fun K11 hK11 => ?_
          refine wp_region_lit ?_
          refine one fun C hC => val hE15 (R.move hE15 rfl) rfl fun a16 hE16 => hC _ _ ?_
          clear hC C
          clear hE15 a15
          refine one fun C hC => callM hE16 (flush_c b (S.fault 8) hO1.t) cb_15 rfl hM2 rfl fun  a17 w3 hE17 hM3 => hC _ _ ?_
          clear hC C hE16 hM2 a16
          have hO2 := hO1.flush
          have hp2 := hO2.p
          have hn2 := hO2.n
          refine wpList_nil (hK11 _ _ ?_)
          clear hK11 K11
          replace hE17 := hE17.keep (E' := [(0, _), (1, _), (4, _), (5, _), (8, _), (11, _), (16, _)]) ⟨rfl, rfl, rfl, rfl, rfl, rfl, rfl, trivial⟩
          refine wp_seq_k fun K12 hK12 => ?_
          refine wp_region_lit ?_
          refine one fun C hC => val hE17 (R.assign hE17 rfl) rfl fun a18 hE18 => hC _ _ ?_
          clear hC C
          clear hE17 a17
          refine wpList_nil (hK12 _ _ ?_)
          clear hK12 K12
          replace hE18 := hE18.keep (E' := [(0, _), (1, _), (4, _), (5, _), (8, _), (11, _), (16, _)]) ⟨rfl, rfl, rfl, rfl, rfl, rfl, rfl, trivial⟩
          refine wp_ret (hQ _ _ ?_)
          have hm := hM3
          refine back1 hE18 rfl rfl (Mem.doneO (5, ((S.fault 8).flush)) ?_ rfl ?_)
          · simp [M.edge, bl47, bl62, blE, ht1, ht2, ht3, ht4]
          exact hm.cast (by ac_rfl)
        · intro hb4
          have ht4 := hb4
          try simp only [decide_eq_true_eq, decide_eq_false_iff_not, Bool.not_eq_true', Bool.not_eq_false', beq_iff_eq, Bool.and_eq_true, Bool.or_eq_true] at ht4
          refine wp_skip (hK1 _ _ ?_)
          refine wp_seq_k fun K13 hK13 => ?_
          refine wp_region_lit ?_
          refine one fun C hC => val hE13 (R.move hE13 rfl) rfl fun a14 hE14 => hC _ _ ?_
          clear hC C
          clear hE13 a13
          refine one fun C hC => val hE14 (R.move hE14 rfl) rfl fun a15 hE15 => hC _ _ ?_
          clear hC C
          clear hE14 a14
          refine one fun C hC => val hE15 (R.nil hE15 rfl) rfl fun a16 hE16 => hC _ _ ?_
          clear hC C
          clear hE15 a15
          refine one fun C hC => val hE16 (R.fieldAddr hE16 53 13 20 fb_53_13 rfl) rfl fun a17 hE17 => hC _ _ ?_
          clear hC C
          clear hE16 a16
          refine one fun C hC => store hE17 hM1 sc_21 rfl rfl rfl rfl  fun  a18 w2 hE18 hM2 => hC _ _ ?_
          clear hC C hE17 hM1 a17
          try simp only [List.set_cons_zero, List.set_cons_succ, Nat.zero_add] at hM2
          refine wpList_nil (hK13 _ _ ?_)
          clear hK13 K13
          replace hE18 := hE18.keep (E' := [(0, _), (1, _), (4, _), (5, _), (8, _), (11, _), (16, _)]) ⟨rfl, rfl, rfl, rfl, rfl, rfl, rfl, trivial⟩
          refine wp_seq_k fun K14 hK14 => ?_
          refine wp_region_lit ?_
          refine one fun C hC => val hE18 (R.assign hE18 rfl) rfl fun a19 hE19 => hC _ _ ?_
          clear hC C
          clear hE18 a18
          refine wpList_nil (hK14 _ _ ?_)
          clear hK14 K14
          replace hE19 := hE19.keep (E' := [(0, _), (1, _), (4, _), (5, _), (8, _), (11, _), (16, _)]) ⟨rfl, rfl, rfl, rfl, rfl, rfl, rfl, trivial⟩
          refine wp_ret (hQ _ _ ?_)
          have hm := (machAt.closeT (T := 53) (R := 21) (K := 43) (L := 24) (A := 45) (V := none) (b := b) (S := { S with last := r }) (F := star G F0) (by first | rfl | assumption | ((try dsimp only); (try simp only [M.read_st, M.fault_st, M.say_st, M.begin_st, M.flush_st, M.keep_st, M.leave_st, M.again_st, M.first_st]); first | rfl | assumption)) x hk trivial (by (try dsimp only); (try simp only [List.length_nil, attrsOf_snoc, tagAt_true]); (try simp only [emp_star, star_emp]); exact hM2.cast (by ac_rfl)))
          refine back1 hE19 rfl rfl (Mem.doneO (0, { S with last := r }) ?_ rfl ?_)
          · simp [M.edge, bl47, bl62, blE, ht1, ht2, ht3, ht4]
          exact hm.cast (by ac_rfl)

set_option maxHeartbeats 1000000 in
include hIn in
theorem tagName_c (b : Nat) (S : M) (hs : S.stale = false)  (hO : S.Ok 20) : Fo Tryd.prog rej 25 [.pointer (some ⟨b, 0, none⟩)] (star (mach none b S) G) (S.tagName) (fun y => (.int .i64 y.1)) (fun y => star (mach none b y.2) G) G := by
  intro β w0 F0 hM0
  replace hM0 := hM0.cast (star_assoc _ _ _)
  obtain ⟨x, hk, hV, hM1⟩ := machAt.openT hs hM0
  clear hM0
  rename Mem _ _ _ => hM0
  refine enterO Tryd.func25 (by rfl) 28 rfl rfl fun a0 Q hE0 hQ hN hP hX => ?_
  have hp0 := hO.p
  have hn0 := hO.n
  have hs0 := hO.s
  simp only [M.sz] at hs0
  refine wp_seq_k fun K0 hK0 => ?_
  refine wp_region_lit ?_
  refine one fun C hC => val hE0 (R.assign hE0 rfl) rfl fun a1 hE1 => hC _ _ ?_
  clear hC C
  clear hE0 a0
  refine wpList_nil (hK0 _ _ ?_)
  clear hK0 K0
  replace hE1 := hE1.keep (E' := [(0, _), (2, _)]) ⟨rfl, rfl, trivial⟩
  refine wp_block ?_
  refine loopR (σ := Nat × M) (fun p a w => Env 28 [] a [(0, .pointer (some ⟨b, 0, none⟩))] ∧ Mem β w (star (mach none b p.2) (star G F0)) ∧ (M.tagNameN p.1 p.2 = S.tagName) ∧ p.2.Ok 20 ∧ p.2.stale = false ∧ p.2.inp.length - p.2.pos < p.1) (fun p => p.1) ((S).inp.length + 1, S) ?_ ?_
  · refine ⟨hE1.keep ⟨rfl, trivial⟩, (machAt.closeT (T := 53) (R := 21) (K := 43) (L := 24) (A := 45) (V := none) (b := b) (S := S) (F := star G F0) (by first | rfl | assumption | ((try dsimp only); (try simp only [M.read_st, M.fault_st, M.say_st, M.begin_st, M.flush_st, M.keep_st, M.leave_st, M.again_st, M.first_st]); first | rfl | assumption)) x hk trivial (by (try dsimp only); (try simp only [List.length_nil, attrsOf_snoc, tagAt_true]); (try simp only [emp_star, star_emp]); exact hM0.cast (by ac_rfl))), rfl, hO.le (by omega), (by first | rfl | assumption | ((try dsimp only); (try simp only [M.read_st, M.fault_st, M.say_st, M.begin_st, M.flush_st, M.keep_st, M.leave_st, M.again_st, M.first_st]); first | rfl | assumption)), by (try dsimp only); omega⟩
  · clear hE1 hM0 a1
    rintro ⟨n, V⟩ a2 w1 ⟨hE2, hM1, hT, hO1, hsV, hr⟩ K hK
    dsimp only at hE2 hM1 hT hO1 hsV hr
    obtain ⟨n, rfl⟩ : ∃ n', n = n' + 1 := ⟨n - 1, by omega⟩
    have hp1 := hO1.p
    have hn1 := hO1.n
    have hpk := hO1.peek 0
    simp only [M.tagNameN] at hT
    have hK1 : ∀ a w, K a w → K a w := fun _ _ h => h
    refine wp_block ?_
    refine wp_seq_k fun K2 hK2 => ?_
    refine wp_region_lit ?_
    refine one fun C hC => val hE2 (R.move hE2 rfl) rfl fun a3 hE3 => hC _ _ ?_
    clear hC C
    clear hE2 a2
    refine one fun C hC => callM hE3 (read_c b V hO1.pos hO1.f) cb_14 rfl hM1 rfl fun  a4 w2 hE4 hM2 => hC _ _ ?_
    clear hC C hE3 hM1 a3
    have hO2 := hO1.read
    have hp2 := hO2.p
    have hn2 := hO2.n
    refine one fun C hC => val hE4 (R.assign hE4 rfl) rfl fun a5 hE5 => hC _ _ ?_
    clear hC C
    clear hE4 a4
    refine wpList_nil (hK2 _ _ ?_)
    clear hK2 K2
    replace hE5 := hE5.keep (E' := [(0, _), (3, _)]) ⟨rfl, rfl, trivial⟩
    refine wp_seq_k fun K3 hK3 => ?_
    refine wp_seq_k fun K4 hK4 => ?_
    refine wp_region_lit ?_
    refine one fun C hC => val hE5 (R.move hE5 rfl) rfl fun a6 hE6 => hC _ _ ?_
    clear hC C
    clear hE5 a5
    refine one fun C hC => val hE6 (R.move hE6 rfl) rfl fun a7 hE7 => hC _ _ ?_
    clear hC C
    clear hE6 a6
    refine one fun C hC => callO hE7 (edge_c G hIn b V.read (by first | rfl | assumption | ((try dsimp only); (try simp only [M.read_st, M.fault_st, M.say_st, M.begin_st, M.flush_st, M.keep_st, M.leave_st, M.again_st, M.first_st]); first | rfl | assumption)) (V.peek 0) (hO2.le (by omega))) cb_39 rfl (hM2.cast (show (star (mach none b V.read) (star G F0)) = (star (star (mach none b V.read) G) F0) from by ac_rfl)) rfl ?_ ?_
    · intro hy1 w3 hM3
      exact hX _ _ hE7.defers (by rw [← hT, hy1]; rfl) hM3
    intro y1 hy1 a8 w3 hE8 hM3
    refine hC _ _ ?_
    clear hC C hE7 hM2 a7
    replace hM3 := hM3.cast (star_assoc _ _ _)
    have hO3 := hO2.edge hy1 (d := 16) (by omega)
    have hp3 := hO3.p
    have hn3 := hO3.n
    refine one fun C hC => val hE8 (R.assign hE8 rfl) rfl fun a9 hE9 => hC _ _ ?_
    clear hC C
    clear hE8 a8
    refine wpList_nil (hK4 _ _ ?_)
    clear hK4 K4
    replace hE9 := hE9.keep (E' := [(0, _), (3, _), (4, _)]) ⟨rfl, rfl, rfl, trivial⟩
    refine wp_seq_k fun K5 hK5 => ?_
    refine wp_region_lit ?_
    refine one fun C hC => val hE9 (R.move hE9 rfl) rfl fun a10 hE10 => hC _ _ ?_
    clear hC C
    clear hE9 a9
    refine one fun C hC => val hE10 (R.neq hE10 rfl rfl) rfl fun a11 hE11 => hC _ _ ?_
    clear hC C
    clear hE10 a10
    refine wpList_nil (hK5 _ _ ?_)
    clear hK5 K5
    replace hE11 := hE11.keep (E' := [(0, _), (3, _), (4, _), (11, _)]) ⟨rfl, rfl, rfl, rfl, trivial⟩
    refine condR hE11 rfl ?_ ?_
    · intro hb1
      have ht1 := hb1
      try simp only [decide_eq_true_eq, decide_eq_false_iff_not, Bool.not_eq_true', Bool.not_eq_false', beq_iff_eq, Bool.and_eq_true, Bool.or_eq_true] at ht1
      refine wp_seq_k fun K6 hK6 => ?_
      refine wp_region_lit ?_
      refine one fun C hC => val hE11 (R.move hE11 rfl) rfl fun a12 hE12 => hC _ _ ?_
      clear hC C
      clear hE11 a11
      refine one fun C hC => val hE12 (R.assign hE12 rfl) rfl fun a13 hE13 => hC _ _ ?_
      clear hC C
      clear hE12 a12
      refine wpList_nil (hK6 _ _ ?_)
      clear hK6 K6
      replace hE13 := hE13.keep (E' := [(0, _), (2, _), (3, _), (4, _), (11, _)]) ⟨rfl, rfl, rfl, rfl, rfl, trivial⟩
      refine wp_ret (hQ _ _ ?_)
      have hm := hM3
      refine back1 hE13 rfl rfl (Mem.doneO (y1.1, y1.2) ?_ rfl ?_)
      · rw [← hT, hy1]; show (if y1.1 ≠ 0 then some y1 else _) = _; rw [if_pos (by simpa using ht1)]
      exact hm.cast (by ac_rfl)
    · intro hb1
      have ht1 := hb1
      try simp only [decide_eq_true_eq, decide_eq_false_iff_not, Bool.not_eq_true', Bool.not_eq_false', beq_iff_eq, Bool.and_eq_true, Bool.or_eq_true] at ht1
      refine wp_skip (hK3 _ _ ?_)
      refine wp_seq_k fun K7 hK7 => ?_
      refine wp_seq_k fun K8 hK8 => ?_
      refine wp_region_lit ?_
      refine one fun C hC => val hE11 (R.move hE11 rfl) rfl fun a12 hE12 => hC _ _ ?_
      clear hC C
      clear hE11 a11
      refine one fun C hC => val hE12 (R.eql hE12 rfl rfl) rfl fun a13 hE13 => hC _ _ ?_
      clear hC C
      clear hE12 a12
      refine wpList_nil (hK8 _ _ ?_)
      clear hK8 K8
      replace hE13 := hE13.keep (E' := [(0, _), (3, _), (4, _), (11, _), (14, _)]) ⟨rfl, rfl, rfl, rfl, rfl, trivial⟩
      refine condR hE13 rfl ?_ ?_
      · intro hb2
        have ht2 := hb2
        try simp only [decide_eq_true_eq, decide_eq_false_iff_not, Bool.not_eq_true', Bool.not_eq_false', beq_iff_eq, Bool.and_eq_true, Bool.or_eq_true] at ht2
        refine wp_seq_k fun K9 hK9 => ?_
        refine wp_region_lit ?_
        refine one fun C hC => val hE13 (R.move hE13 rfl) rfl fun a14 hE14 => hC _ _ ?_
        clear hC C
        clear hE13 a13
        refine one fun C hC => callM hE14 (fault_c b y1.2 21 hO3.f) cb_20 rfl hM3 rfl fun  a15 w4 hE15 hM4 => hC _ _ ?_
        clear hC C hE14 hM3 a14
        have hO4 := hO3.fault (x := 21) (d := 15) (by omega)
        have hp4 := hO4.p
        have hn4 := hO4.n
        refine wpList_nil (hK9 _ _ ?_)
        clear hK9 K9
        replace hE15 := hE15.keep (E' := [(0, _), (3, _), (4, _), (11, _), (14, _)]) ⟨rfl, rfl, rfl, rfl, rfl, trivial⟩
        refine wp_region_lit ?_
        refine one fun C hC => val hE15 (R.assign hE15 rfl) rfl fun a16 hE16 => hC _ _ ?_
        clear hC C
        clear hE15 a15
        replace hE16 := hE16.keep (E' := [(0, _), (3, _), (4, _), (11, _), (14, _)]) ⟨rfl, rfl, rfl, rfl, rfl, trivial⟩
        refine wpList_nil (hK7 _ _ ?_)
        obtain ⟨x1, hk1, hV1, hM5⟩ := machAt.open_ hM4
        try dsimp only at hM5 hk1
        clear hM4
        have hZ1 := hO4.ls
        try dsimp only at hZ1
        refine planM [8, 11] [(0, 1), (1, 1), (2, 1), (3, 1), (5, 1), (4, 0), (6, 2), (7, 2), (8, 2), (9, 1), (10, 1), (11, 2)] mix (by kernel_rfl) hM5 (fun c a a2 w hd => hP c a a2 w hd) fun w6 hM6 C0 hC0 => ?_
        clear hM5
        refine pPure rfl hE16 (fun _ => by exact R.move hE16 rfl) rfl fun a17 hE17 => ?_
        clear hE16 a16
        refine pPure rfl hE17 (fun _ => by exact R.move hE17 rfl) rfl fun a18 hE18 => ?_
        clear hE17 a17
        refine pPure rfl hE18 (fun _ => by exact R.nil hE18 rfl) rfl fun a19 hE19 => ?_
        clear hE18 a18
        refine pPure rfl hE19 (fun _ => by exact R.fieldAddr hE19 53 7 14 fb_53_7 rfl) rfl fun a20 hE20 => ?_
        clear hE19 a19
        refine pPure rfl hE20 (fun _ => by exact R.move hE20 rfl) rfl fun a21 hE21 => ?_
        clear hE20 a20
        refine pTake rfl hE21 (fun _ hW => by exact R.load hE21 sc_50 rfl hW (by rfl)) rfl hM6 fun a22 hE22 => ?_
        clear hE21 a21
        refine pOneS rfl fun C hC => callF hE22 (lowerRune_c _ (by omega) (by omega)) cb_35 rfl hM6 rfl  fun  a23 w7 hE23 hM7 => hC _ _ hM7 ?_
        clear hC C hE22 hM6 a22
        refine pOneS rfl fun C hC => lit1 hE23 hM7 4 el_50 rfl rfl rfl  fun b24 a24 w8 hE24 hM8 => hC _ _ hM8.drop ?_
        clear hC C hE23 hM7 a23
        refine pOne rfl rfl fun C hC => appendL (xs := (y1.2.fault 21).name) hE24 [lowerR 65533] el_50 rfl rfl hM8 rfl rfl rfl (by unfold maxLen; first | omega | (simp; done) | (simp; omega)) (by first | omega | (simp; done) | (simp; omega)) rfl fun A25 C25 a25 w9 hE25 hM9 => hC _ _ ?_
        clear hC C hE24 hM8 a24
        refine pPure rfl hE25 (fun _ => by exact R.nil hE25 rfl) rfl fun a26 hE26 => ?_
        clear hE25 a25
        refine pPure rfl hE26 (fun _ => by exact R.fieldAddr hE26 53 7 14 fb_53_7 rfl) rfl fun a27 hE27 => ?_
        clear hE26 a26
        refine pOne rfl rfl fun C hC => store hE27 hM9 sc_50 rfl rfl rfl rfl  fun  a28 w10 hE28 hM10 => hC _ _ ?_
        clear hC C hE27 hM9 a27
        try simp only [List.set_cons_zero, List.set_cons_succ, Nat.zero_add] at hM10
        refine pNil (hC0 _ _ ?_)
        clear hC0 C0
        replace hE28 := hE28.keep (E' := [(0, _), (3, _), (4, _), (11, _), (14, _)]) ⟨rfl, rfl, rfl, rfl, rfl, trivial⟩
        refine hK1 _ _ ?_
        have hm := (machAt.close (T := 53) (R := 21) (K := 43) (L := 24) (A := 45) (V := none) (b := b) (S := { (y1.2.fault 21) with name := ((y1.2.fault 21).name) ++ [lowerR 65533] }) (F := star G F0) { x1 with nA := A25, nC := C25 } hk1 trivial (by (try dsimp only); (try simp only [List.length_nil, attrsOf_snoc, tagAt_true]); (try simp only [emp_star, star_emp]); exact hM10.cast (by ac_rfl)))
        have hst := edge_stay hy1 ht1
        have e1 : y1.2.nameOf (V.peek 0) = { (y1.2.fault 21) with name := ((y1.2.fault 21).name) ++ [lowerR 65533] } := by rw [M.nameOf, if_pos ht2]; rfl
        rw [hy1] at hT
        replace hT : (if y1.1 ≠ 0 then some y1 else M.tagNameN n (y1.2.nameOf (V.peek 0))) = S.tagName := hT
        rw [if_neg (by simp [ht1]), e1] at hT
        have e3 : y1.2 = { V.read with last := V.peek 0 } := by rw [hst.2.2]
        have ei := M.read_inp V
        have er := M.read_pos hst.1
        have el := peek_lt hst.1
        refine hK (n, { (y1.2.fault 21) with name := ((y1.2.fault 21).name) ++ [lowerR 65533] }) _ _ ⟨hE28.keep ⟨rfl, trivial⟩, hm, hT, by rw [← e1]; exact M.Ok.nameOf (c := 83) (by rw [e3]; exact (hO1.read_more hst.1).last) (by omega), by rw [← e1, M.nameOf_st, e3]; exact (V.read_st).trans hsV, by rw [← e1, M.nameOf_inp, M.nameOf_pos, e3]; dsimp only; rw [ei, er]; omega⟩ (Nat.lt_succ_self _)
      · intro hb2
        have ht2 := hb2
        try simp only [decide_eq_true_eq, decide_eq_false_iff_not, Bool.not_eq_true', Bool.not_eq_false', beq_iff_eq, Bool.and_eq_true, Bool.or_eq_true] at ht2
        refine wp_skip (hK7 _ _ ?_)
        obtain ⟨x1, hk1, hV1, hM4⟩ := machAt.open_ hM3
        try dsimp only at hM4 hk1
        clear hM3
        have hZ1 := hO3.ls
        try dsimp only at hZ1
        refine planM [8, 11] [(0, 1), (1, 1), (2, 1), (3, 1), (5, 1), (4, 0), (6, 2), (7, 2), (8, 2), (9, 1), (10, 1), (11, 2)] mix (by kernel_rfl) hM4 (fun c a a2 w hd => hP c a a2 w hd) fun w5 hM5 C0 hC0 => ?_
        clear hM4
        refine pPure rfl hE13 (fun _ => by exact R.move hE13 rfl) rfl fun a14 hE14 => ?_
        clear hE13 a13
        refine pPure rfl hE14 (fun _ => by exact R.move hE14 rfl) rfl fun a15 hE15 => ?_
        clear hE14 a14
        refine pPure rfl hE15 (fun _ => by exact R.nil hE15 rfl) rfl fun a16 hE16 => ?_
        clear hE15 a15
        refine pPure rfl hE16 (fun _ => by exact R.fieldAddr hE16 53 7 14 fb_53_7 rfl) rfl fun a17 hE17 => ?_
        clear hE16 a16
        refine pPure rfl hE17 (fun _ => by exact R.move hE17 rfl) rfl fun a18 hE18 => ?_
        clear hE17 a17
        refine pTake rfl hE18 (fun _ hW => by exact R.load hE18 sc_50 rfl hW (by rfl)) rfl hM5 fun a19 hE19 => ?_
        clear hE18 a18
        refine pOneS rfl fun C hC => callF hE19 (lowerRune_c _ (by omega) (by omega)) cb_35 rfl hM5 rfl  fun  a20 w6 hE20 hM6 => hC _ _ hM6 ?_
        clear hC C hE19 hM5 a19
        refine pOneS rfl fun C hC => lit1 hE20 hM6 4 el_50 rfl rfl rfl  fun b24 a21 w7 hE21 hM7 => hC _ _ hM7.drop ?_
        clear hC C hE20 hM6 a20
        refine pOne rfl rfl fun C hC => appendL (xs := y1.2.name) hE21 [lowerR (V.peek 0)] el_50 rfl rfl hM7 rfl rfl rfl (by unfold maxLen; first | omega | (simp; done) | (simp; omega)) (by first | omega | (simp; done) | (simp; omega)) rfl fun A25 C25 a22 w8 hE22 hM8 => hC _ _ ?_
        clear hC C hE21 hM7 a21
        refine pPure rfl hE22 (fun _ => by exact R.nil hE22 rfl) rfl fun a23 hE23 => ?_
        clear hE22 a22
        refine pPure rfl hE23 (fun _ => by exact R.fieldAddr hE23 53 7 14 fb_53_7 rfl) rfl fun a24 hE24 => ?_
        clear hE23 a23
        refine pOne rfl rfl fun C hC => store hE24 hM8 sc_50 rfl rfl rfl rfl  fun  a25 w9 hE25 hM9 => hC _ _ ?_
        clear hC C hE24 hM8 a24
        try simp only [List.set_cons_zero, List.set_cons_succ, Nat.zero_add] at hM9
        refine pNil (hC0 _ _ ?_)
        clear hC0 C0
        replace hE25 := hE25.keep (E' := [(0, _), (3, _), (4, _), (11, _), (14, _)]) ⟨rfl, rfl, rfl, rfl, rfl, trivial⟩
        refine hK1 _ _ ?_
        have hm := (machAt.close (T := 53) (R := 21) (K := 43) (L := 24) (A := 45) (V := none) (b := b) (S := { y1.2 with name := y1.2.name ++ [lowerR (V.peek 0)] }) (F := star G F0) { x1 with nA := A25, nC := C25 } hk1 trivial (by (try dsimp only); (try simp only [List.length_nil, attrsOf_snoc, tagAt_true]); (try simp only [emp_star, star_emp]); exact hM9.cast (by ac_rfl)))
        have hst := edge_stay hy1 ht1
        have e1 : y1.2.nameOf (V.peek 0) = { y1.2 with name := y1.2.name ++ [lowerR (V.peek 0)] } := by rw [M.nameOf, if_neg ht2]
        rw [hy1] at hT
        replace hT : (if y1.1 ≠ 0 then some y1 else M.tagNameN n (y1.2.nameOf (V.peek 0))) = S.tagName := hT
        rw [if_neg (by simp [ht1]), e1] at hT
        have e3 : y1.2 = { V.read with last := V.peek 0 } := by rw [hst.2.2]
        have ei := M.read_inp V
        have er := M.read_pos hst.1
        have el := peek_lt hst.1
        refine hK (n, { y1.2 with name := y1.2.name ++ [lowerR (V.peek 0)] }) _ _ ⟨hE25.keep ⟨rfl, trivial⟩, hm, hT, by rw [← e1]; exact M.Ok.nameOf (c := 83) (by rw [e3]; exact (hO1.read_more hst.1).last) (by omega), by rw [← e1, M.nameOf_st, e3]; exact (V.read_st).trans hsV, by rw [← e1, M.nameOf_inp, M.nameOf_pos, e3]; dsimp only; rw [ei, er]; omega⟩ (Nat.lt_succ_self _)

end

end Go.Sv
