import Derived.Test.YthaalghnpfpjmaaDoorProg
import Derived.Test.YthaalghnpfpjmaaDoorMach
import Derived.Test.YthaalghnpfpjmaaDoorOps2
import Derived.Test.YthaalghnpfpjmaaDoorPlan
import Derived.Test.YthaalghnpfpjmaaDoorDraw
import Derived.Test.YthaalghnpfpjmaaDoorNames
set_option linter.all false
set_option linter.unusedVariables false
set_option linter.unusedSimpArgs false
set_option maxRecDepth 100000
namespace Go.Sv
open Go.RowKit Go.Proofs
attribute [local irreducible] row pts star blk emp fact any attrsOf machAt tagAt

namespace FMach1
theorem bd_43_0 : ∀ (x0 : Int), ∀ w, (Instr.build 43 [(0, .int .i64 x0)].toArray).run Tryd.prog w = .ok (.agg [.int .i64 x0, .string ByteArray.empty, .string ByteArray.empty, .slice none 0 0, .bool false, .int .i64 0, .int .i64 0, .int .i64 0].toArray) w := by
  intros
  exact run_build _ 43 _ _ (by kernel_rfl)
theorem bd_43_0_2 : ∀ (x0 : Int) (x2 : ByteArray), ∀ w, (Instr.build 43 [(0, .int .i64 x0), (2, .string x2)].toArray).run Tryd.prog w = .ok (.agg [.int .i64 x0, .string ByteArray.empty, .string x2, .slice none 0 0, .bool false, .int .i64 0, .int .i64 0, .int .i64 0].toArray) w := by
  intros
  exact run_build _ 43 _ _ (by kernel_rfl)
theorem bd_45_0_1 : ∀ (x0 : ByteArray) (x1 : ByteArray), ∀ w, (Instr.build 45 [(0, .string x0), (1, .string x1)].toArray).run Tryd.prog w = .ok (.agg [.string x0, .string x1].toArray) w := by
  intros
  exact run_build _ 45 _ _ (by kernel_rfl)
theorem cb_20 : callB Tryd.prog 20 = true := by kernel_rfl
theorem cb_21 : callB Tryd.prog 21 = true := by kernel_rfl
theorem cb_28 : callB Tryd.prog 28 = true := by kernel_rfl
theorem cb_29 : callB Tryd.prog 29 = true := by kernel_rfl
theorem el_26 : elemB Tryd.prog 26 24 1 8 = true := by kernel_rfl
theorem el_35 : elemB Tryd.prog 35 43 8 96 = true := by kernel_rfl
theorem el_39 : elemB Tryd.prog 39 45 2 32 = true := by kernel_rfl
theorem el_50 : elemB Tryd.prog 50 21 1 4 = true := by kernel_rfl
theorem fb_43_3 : fieldB Tryd.prog 43 3 3 = true := by kernel_rfl
theorem fb_53_0 : fieldB Tryd.prog 53 0 0 = true := by kernel_rfl
theorem fb_53_1 : fieldB Tryd.prog 53 1 1 = true := by kernel_rfl
theorem fb_53_10 : fieldB Tryd.prog 53 10 17 = true := by kernel_rfl
theorem fb_53_11 : fieldB Tryd.prog 53 11 18 = true := by kernel_rfl
theorem fb_53_12 : fieldB Tryd.prog 53 12 19 = true := by kernel_rfl
theorem fb_53_2 : fieldB Tryd.prog 53 2 2 = true := by kernel_rfl
theorem fb_53_3 : fieldB Tryd.prog 53 3 3 = true := by kernel_rfl
theorem fb_53_4 : fieldB Tryd.prog 53 4 4 = true := by kernel_rfl
theorem fb_53_6 : fieldB Tryd.prog 53 6 6 = true := by kernel_rfl
theorem fb_53_7 : fieldB Tryd.prog 53 7 14 = true := by kernel_rfl
theorem fb_53_8 : fieldB Tryd.prog 53 8 15 = true := by kernel_rfl
theorem fb_53_9 : fieldB Tryd.prog 53 9 16 = true := by kernel_rfl
theorem mix : Tryd.prog.follows .mixedOrders = true := by kernel_rfl
theorem ru_50_9 : runesB Tryd.prog 50 9 21 = true := by kernel_rfl
theorem sc_21 : scalarB Tryd.prog 21 = true := by kernel_rfl
theorem sc_26 : scalarB Tryd.prog 26 = true := by kernel_rfl
theorem sc_3 : scalarB Tryd.prog 3 = true := by kernel_rfl
theorem sc_35 : scalarB Tryd.prog 35 = true := by kernel_rfl
theorem sc_39 : scalarB Tryd.prog 39 = true := by kernel_rfl
theorem sc_4 : scalarB Tryd.prog 4 = true := by kernel_rfl
theorem sc_50 : scalarB Tryd.prog 50 = true := by kernel_rfl
theorem sl_50 : sliceB Tryd.prog 50 21 1 = true := by kernel_rfl
theorem ss_43 : structB Tryd.prog 43 8 = true := by kernel_rfl
end FMach1
open FMach1
abbrev mach := machAt 53 21 43 24 45
def M.peek (S : M) (i : Nat) : Int := (S.inp[S.pos + i]?).getD (-1)
def M.fault (S : M) (f : Int) : M := { S with faults := S.faults ++ [f] }
def M.read (S : M) : M :=
  if S.peek 0 = -1 then S else
  if controlB (S.peek 0) then { S with pos := S.pos + 1, faults := S.faults ++ [2] } else
  if noncharB (S.peek 0) then { S with pos := S.pos + 1, faults := S.faults ++ [15] } else { S with pos := S.pos + 1 }

set_option maxHeartbeats 400000 in
theorem peek_c {V : Option (Option Addr × Nat)} (b : Nat) (S : M) (i : Int) (h0 : 0 ≤ i) (h1 : i ≤ 4194304) (hp : S.pos ≤ 4194304) : Fm Tryd.prog 21 [.pointer (some ⟨b, 0, none⟩), .int .i64 i] (mach V b S) (.int .i32 (S.peek i.toNat)) (mach V b S) := by
  intro β w0 F0 hM0
  obtain ⟨x, hk, hV, hM1⟩ := machAt.open_ hM0
  clear hM0
  rename Mem _ _ _ => hM0
  refine enter Tryd.func21 (by rfl) 29 rfl rfl fun a0 Q hE0 hQ hN hP => ?_
  refine wp_seq_k fun K0 hK0 => ?_
  refine wp_region_lit ?_
  refine one fun C hC => val hE0 (R.assign hE0 rfl) rfl fun a1 hE1 => hC _ _ ?_
  clear hC C
  clear hE0 a0
  refine wpList_nil (hK0 _ _ ?_)
  clear hK0 K0
  replace hE1 := hE1.keep (E' := [(0, _), (1, _), (4, _)]) ⟨rfl, rfl, rfl, trivial⟩
  refine wp_seq_k fun K1 hK1 => ?_
  refine wp_seq_k fun K2 hK2 => ?_
  refine quietR mix (by kernel_rfl) hM0 fun C hC => ?_
  refine qval hE1 (fun _ hW => by exact R.move hE1 rfl) rfl fun a2 hE2 => ?_
  clear hE1 a1
  refine qval hE2 (fun _ hW => by exact R.nil hE2 rfl) rfl fun a3 hE3 => ?_
  clear hE2 a2
  refine qval hE3 (fun _ hW => by exact R.fieldAddr hE3 53 1 1 fb_53_1 rfl) rfl fun a4 hE4 => ?_
  clear hE3 a3
  refine qval hE4 (fun _ hW => by exact R.load hE4 sc_3 rfl hW (by rfl)) rfl fun a5 hE5 => ?_
  clear hE4 a4
  refine qval hE5 (fun _ hW => by exact R.move hE5 rfl) rfl fun a6 hE6 => ?_
  clear hE5 a5
  refine qval hE6 (fun _ hW => by exact R.add64 hE6 rfl rfl (by omega) (by omega)) rfl fun a7 hE7 => ?_
  clear hE6 a6
  refine qval hE7 (fun _ hW => by exact R.move hE7 rfl) rfl fun a8 hE8 => ?_
  clear hE7 a7
  refine qval hE8 (fun _ hW => by exact R.nil hE8 rfl) rfl fun a9 hE9 => ?_
  clear hE8 a8
  refine qval hE9 (fun _ hW => by exact R.fieldAddr hE9 53 0 0 fb_53_0 rfl) rfl fun a10 hE10 => ?_
  clear hE9 a9
  refine qval hE10 (fun _ hW => by exact R.load hE10 sc_50 rfl hW (by rfl)) rfl fun a11 hE11 => ?_
  clear hE10 a10
  refine qval hE11 (fun _ hW => by exact R.lenSlice hE11 21 1 sl_50 rfl) rfl fun a12 hE12 => ?_
  clear hE11 a11
  refine qval hE12 (fun _ hW => by exact R.lss hE12 rfl rfl) rfl fun a13 hE13 => ?_
  clear hE12 a12
  refine wpQuiet_nil (hC _ fun w1 hM1 => ?_)
  clear hC C hM0
  refine hK2 _ _ ?_
  clear hK2 K2
  replace hE13 := hE13.keep (E' := [(0, _), (1, _), (4, _), (16, _)]) ⟨rfl, rfl, rfl, rfl, trivial⟩
  refine condR hE13 rfl ?_ ?_
  · intro hb1
    have ht1 := hb1
    try simp only [decide_eq_true_eq, decide_eq_false_iff_not, Bool.not_eq_true', Bool.not_eq_false', beq_iff_eq, Bool.and_eq_true, Bool.or_eq_true] at ht1
    refine wp_seq_k fun K3 hK3 => ?_
    refine quietR mix (by kernel_rfl) hM1 fun C hC => ?_
    refine qval hE13 (fun _ hW => by exact R.move hE13 rfl) rfl fun a14 hE14 => ?_
    clear hE13 a13
    refine qval hE14 (fun _ hW => by exact R.nil hE14 rfl) rfl fun a15 hE15 => ?_
    clear hE14 a14
    refine qval hE15 (fun _ hW => by exact R.fieldAddr hE15 53 0 0 fb_53_0 rfl) rfl fun a16 hE16 => ?_
    clear hE15 a15
    refine qval hE16 (fun _ hW => by exact R.load hE16 sc_50 rfl hW (by rfl)) rfl fun a17 hE17 => ?_
    clear hE16 a16
    refine qval hE17 (fun _ hW => by exact R.move hE17 rfl) rfl fun a18 hE18 => ?_
    clear hE17 a17
    refine qval hE18 (fun _ hW => by exact R.nil hE18 rfl) rfl fun a19 hE19 => ?_
    clear hE18 a18
    refine qval hE19 (fun _ hW => by exact R.fieldAddr hE19 53 1 1 fb_53_1 rfl) rfl fun a20 hE20 => ?_
    clear hE19 a19
    refine qval hE20 (fun _ hW => by exact R.load hE20 sc_3 rfl hW (by rfl)) rfl fun a21 hE21 => ?_
    clear hE20 a20
    refine qval hE21 (fun _ hW => by exact R.move hE21 rfl) rfl fun a22 hE22 => ?_
    clear hE21 a21
    refine qval hE22 (fun _ hW => by exact R.add64 hE22 rfl rfl (by omega) (by omega)) rfl fun a23 hE23 => ?_
    clear hE22 a22
    refine qval hE23 (fun _ hW => by exact R.indexRow hE23 21 1 sl_50 rfl rfl hW (S.pos + i.toNat) (by omega) (by omega) rfl) rfl fun a24 hE24 => ?_
    clear hE23 a23
    refine qval hE24 (fun _ hW => by exact R.loadInt hE24 sc_21 rfl hW (S.pos + i.toNat) rfl (getElem?_of_lt (l := S.inp) (j := S.pos + i.toNat) (by omega))) rfl fun a25 hE25 => ?_
    clear hE24 a24
    refine qval hE25 (fun _ hW => by exact R.assign hE25 rfl) rfl fun a26 hE26 => ?_
    clear hE25 a25
    refine wpQuiet_nil (hC _ fun w2 hM2 => ?_)
    clear hC C hM1
    refine hK3 _ _ ?_
    clear hK3 K3
    replace hE26 := hE26.keep (E' := [(0, _), (1, _), (4, _), (16, _)]) ⟨rfl, rfl, rfl, rfl, trivial⟩
    refine wp_ret (hQ _ _ ?_)
    refine back1 hE26 rfl rfl (Mem.done ?_ ?_)
    · rw [M.peek]; first | rw [getElem?_of_lt (by omega)]; rfl | rw [List.getElem?_eq_none (by omega)]; rfl
    have hm := (machAt.close (T := 53) (R := 21) (K := 43) (L := 24) (A := 45) (V := V) (b := b) (S := S) (F := F0) x hk hV (by (try dsimp only); (try simp only [List.length_nil, attrsOf_snoc, tagAt_true]); (try simp only [emp_star, star_emp]); exact hM2.cast (by ac_rfl)))
    first | exact hm | (simpa using hm)
  · intro hb1
    have ht1 := hb1
    try simp only [decide_eq_true_eq, decide_eq_false_iff_not, Bool.not_eq_true', Bool.not_eq_false', beq_iff_eq, Bool.and_eq_true, Bool.or_eq_true] at ht1
    refine wp_skip (hK1 _ _ ?_)
    refine wp_seq_k fun K4 hK4 => ?_
    refine wp_region_lit ?_
    refine one fun C hC => val hE13 (R.assign hE13 rfl) rfl fun a14 hE14 => hC _ _ ?_
    clear hC C
    clear hE13 a13
    refine wpList_nil (hK4 _ _ ?_)
    clear hK4 K4
    replace hE14 := hE14.keep (E' := [(0, _), (1, _), (4, _), (16, _)]) ⟨rfl, rfl, rfl, rfl, trivial⟩
    refine wp_ret (hQ _ _ ?_)
    refine back1 hE14 rfl rfl (Mem.done ?_ ?_)
    · rw [M.peek]; first | rw [getElem?_of_lt (by omega)]; rfl | rw [List.getElem?_eq_none (by omega)]; rfl
    have hm := (machAt.close (T := 53) (R := 21) (K := 43) (L := 24) (A := 45) (V := V) (b := b) (S := S) (F := F0) x hk hV (by (try dsimp only); (try simp only [List.length_nil, attrsOf_snoc, tagAt_true]); (try simp only [emp_star, star_emp]); exact hM1.cast (by ac_rfl)))
    first | exact hm | (simpa using hm)

theorem peek_k {V : Option (Option Addr × Nat)} (b : Nat) (S : M) (i : Int) (k : Nat) (hk : i = k) (h1 : k ≤ 4194304) (hp : S.pos ≤ 4194304) : Fm Tryd.prog 21 [.pointer (some ⟨b, 0, none⟩), .int .i64 i] (mach V b S) (.int .i32 (S.peek k)) (mach V b S) := by
  subst hk
  exact peek_c b S k (by omega) (by omega) hp
set_option maxHeartbeats 400000 in
theorem fault_c {V : Option (Option Addr × Nat)} (b : Nat) (S : M) (f : Int) (hf : S.faults.length < 1000000000) : Fm Tryd.prog 20 [.pointer (some ⟨b, 0, none⟩), .int .i64 f] (mach V b S) (.tuple #[]) (mach V b (S.fault f)) := by
  intro β w0 F0 hM0
  obtain ⟨x, hk, hV, hM1⟩ := machAt.open_ hM0
  clear hM0
  rename Mem _ _ _ => hM0
  refine enter Tryd.func20 (by rfl) 14 rfl rfl fun a0 Q hE0 hQ hN hP => ?_
  refine wp_region_lit ?_
  refine one fun C hC => val hE0 (R.move hE0 rfl) rfl fun a1 hE1 => hC _ _ ?_
  clear hC C
  clear hE0 a0
  refine one fun C hC => val hE1 (R.move hE1 rfl) rfl fun a2 hE2 => hC _ _ ?_
  clear hC C
  clear hE1 a1
  refine one fun C hC => val hE2 (R.nil hE2 rfl) rfl fun a3 hE3 => hC _ _ ?_
  clear hC C
  clear hE2 a2
  refine one fun C hC => val hE3 (R.fieldAddr hE3 53 3 3 fb_53_3 rfl) rfl fun a4 hE4 => hC _ _ ?_
  clear hC C
  clear hE3 a3
  refine one fun C hC => val hE4 (R.load hE4 sc_26 rfl hM0 (by rfl)) rfl fun a5 hE5 => hC _ _ ?_
  clear hC C
  clear hE4 a4
  refine one fun C hC => val hE5 (R.move hE5 rfl) rfl fun a6 hE6 => hC _ _ ?_
  clear hC C
  clear hE5 a5
  refine one fun C hC => lit1 hE6 hM0 8 el_26 rfl rfl rfl  fun b10 a7 w1 hE7 hM1 => hC _ _ ?_
  clear hC C hE6 hM0 a6
  refine one fun C hC => appendL (xs := S.faults) hE7 [f] el_26 rfl rfl hM1 rfl rfl rfl (by unfold maxLen; first | omega | (simp; done) | (simp; omega)) (by first | omega | (simp; done) | (simp; omega)) rfl fun A11 C11 a8 w2 hE8 hM2 => hC _ _ ?_
  clear hC C hE7 hM1 a7
  refine one fun C hC => val hE8 (R.nil hE8 rfl) rfl fun a9 hE9 => hC _ _ ?_
  clear hC C
  clear hE8 a8
  refine one fun C hC => val hE9 (R.fieldAddr hE9 53 3 3 fb_53_3 rfl) rfl fun a10 hE10 => hC _ _ ?_
  clear hC C
  clear hE9 a9
  refine one fun C hC => store hE10 hM2 sc_26 rfl rfl rfl rfl  fun  a11 w3 hE11 hM3 => hC _ _ ?_
  clear hC C hE10 hM2 a10
  try simp only [List.set_cons_zero, List.set_cons_succ, Nat.zero_add] at hM3
  replace hE11 := hE11.keep (E' := [(0, _), (1, _)]) ⟨rfl, rfl, trivial⟩
  refine wpList_nil (hN _ _ ?_)
  refine back0 hE11 rfl (Mem.done rfl ?_)
  have hm := (machAt.close (T := 53) (R := 21) (K := 43) (L := 24) (A := 45) (V := V) (b := b) (S := { S with faults := S.faults ++ [f] }) (F := F0) { x with fA := A11, fC := C11 } hk hV (by (try dsimp only); (try simp only [List.length_nil, attrsOf_snoc, tagAt_true]); (try simp only [emp_star, star_emp]); exact hM3.cast (by ac_rfl)))
  exact hm

set_option maxHeartbeats 400000 in
theorem read_c {V : Option (Option Addr × Nat)} (b : Nat) (S : M) (hp : S.pos ≤ 4194304) (hf : S.faults.length < 1000000000) : Fm Tryd.prog 14 [.pointer (some ⟨b, 0, none⟩)] (mach V b S) (.int .i32 (S.peek 0)) (mach V b S.read) := by
  intro β w0 F0 hM0
  obtain ⟨x, hk, hV, hM1⟩ := machAt.open_ hM0
  clear hM0
  rename Mem _ _ _ => hM0
  refine enter Tryd.func14 (by rfl) 27 rfl rfl fun a0 Q hE0 hQ hN hP => ?_
  refine wp_seq_k fun K0 hK0 => ?_
  refine wp_region_lit ?_
  refine one fun C hC => val hE0 (R.assign hE0 rfl) rfl fun a1 hE1 => hC _ _ ?_
  clear hC C
  clear hE0 a0
  refine wpList_nil (hK0 _ _ ?_)
  clear hK0 K0
  replace hE1 := hE1.keep (E' := [(0, _), (2, _)]) ⟨rfl, rfl, trivial⟩
  refine wp_seq_k fun K1 hK1 => ?_
  refine wp_region_lit ?_
  refine one fun C hC => val hE1 (R.move hE1 rfl) rfl fun a2 hE2 => hC _ _ ?_
  clear hC C
  clear hE1 a1
  refine one fun C hC => callM hE2 (peek_k b S 0 0 (by omega) (by omega) (by omega)) cb_21 rfl (machAt.close (T := 53) (R := 21) (K := 43) (L := 24) (A := 45) (V := V) (b := b) (S := S) (F := F0) x hk hV (by (try dsimp only); (try simp only [List.length_nil, attrsOf_snoc, tagAt_true]); (try simp only [emp_star, star_emp]); exact hM0.cast (by ac_rfl))) rfl fun  a3 w1 hE3 hM1 => hC _ _ ?_
  clear hC C hE2 hM0 a2
  refine one fun C hC => val hE3 (R.assign hE3 rfl) rfl fun a4 hE4 => hC _ _ ?_
  clear hC C
  clear hE3 a3
  refine wpList_nil (hK1 _ _ ?_)
  clear hK1 K1
  replace hE4 := hE4.keep (E' := [(0, _), (2, _), (3, _)]) ⟨rfl, rfl, rfl, trivial⟩
  refine wp_seq_k fun K2 hK2 => ?_
  refine wp_seq_k fun K3 hK3 => ?_
  refine wp_region_lit ?_
  refine one fun C hC => val hE4 (R.move hE4 rfl) rfl fun a5 hE5 => hC _ _ ?_
  clear hC C
  clear hE4 a4
  refine one fun C hC => val hE5 (R.eql hE5 rfl rfl) rfl fun a6 hE6 => hC _ _ ?_
  clear hC C
  clear hE5 a5
  refine wpList_nil (hK3 _ _ ?_)
  clear hK3 K3
  replace hE6 := hE6.keep (E' := [(0, _), (2, _), (3, _), (7, _)]) ⟨rfl, rfl, rfl, rfl, trivial⟩
  refine condR hE6 rfl ?_ ?_
  · intro hb1
    have ht1 := hb1
    try simp only [decide_eq_true_eq, decide_eq_false_iff_not, Bool.not_eq_true', Bool.not_eq_false', beq_iff_eq, Bool.and_eq_true, Bool.or_eq_true] at ht1
    refine wp_seq_k fun K4 hK4 => ?_
    refine wp_region_lit ?_
    refine one fun C hC => val hE6 (R.move hE6 rfl) rfl fun a7 hE7 => hC _ _ ?_
    clear hC C
    clear hE6 a6
    refine one fun C hC => val hE7 (R.assign hE7 rfl) rfl fun a8 hE8 => hC _ _ ?_
    clear hC C
    clear hE7 a7
    refine wpList_nil (hK4 _ _ ?_)
    clear hK4 K4
    replace hE8 := hE8.keep (E' := [(0, _), (2, _), (3, _), (7, _)]) ⟨rfl, rfl, rfl, rfl, trivial⟩
    refine wp_ret (hQ _ _ ?_)
    refine back1 hE8 rfl rfl (Mem.done ?_ ?_)
    · rfl
    have hm := hM1
    simpa [M.read, M.fault, ht1] using hm
  · intro hb1
    have ht1 := hb1
    try simp only [decide_eq_true_eq, decide_eq_false_iff_not, Bool.not_eq_true', Bool.not_eq_false', beq_iff_eq, Bool.and_eq_true, Bool.or_eq_true] at ht1
    refine wp_skip (hK2 _ _ ?_)
    refine wp_seq_k fun K5 hK5 => ?_
    refine wp_region_lit ?_
    refine one fun C hC => val hE6 (R.move hE6 rfl) rfl fun a7 hE7 => hC _ _ ?_
    clear hC C
    clear hE6 a6
    refine one fun C hC => val hE7 (R.nil hE7 rfl) rfl fun a8 hE8 => hC _ _ ?_
    clear hC C
    clear hE7 a7
    refine one fun C hC => val hE8 (R.fieldAddr hE8 53 1 1 fb_53_1 rfl) rfl fun a9 hE9 => hC _ _ ?_
    clear hC C
    clear hE8 a8
    obtain ⟨x1, hk1, hV1, hM2⟩ := machAt.open_ hM1
    try dsimp only at hM2 hk1
    clear hM1
    refine one fun C hC => val hE9 (R.load hE9 sc_3 rfl hM2 (by rfl)) rfl fun a10 hE10 => hC _ _ ?_
    clear hC C
    clear hE9 a9
    refine one fun C hC => val hE10 (R.add64 hE10 rfl rfl (by omega) (by omega)) rfl fun a11 hE11 => hC _ _ ?_
    clear hC C
    clear hE10 a10
    refine one fun C hC => val hE11 (R.nil hE11 rfl) rfl fun a12 hE12 => hC _ _ ?_
    clear hC C
    clear hE11 a11
    refine one fun C hC => val hE12 (R.fieldAddr hE12 53 1 1 fb_53_1 rfl) rfl fun a13 hE13 => hC _ _ ?_
    clear hC C
    clear hE12 a12
    refine one fun C hC => store hE13 hM2 sc_3 rfl rfl rfl rfl  fun  a14 w3 hE14 hM3 => hC _ _ ?_
    clear hC C hE13 hM2 a13
    try simp only [List.set_cons_zero, List.set_cons_succ, Nat.zero_add] at hM3
    refine wpList_nil (hK5 _ _ ?_)
    clear hK5 K5
    replace hE14 := hE14.keep (E' := [(0, _), (2, _), (3, _), (7, _)]) ⟨rfl, rfl, rfl, rfl, trivial⟩
    refine wp_seq_k fun K6 hK6 => ?_
    refine wp_block ?_
    refine wp_seq_k fun K7 hK7 => ?_
    refine wp_region_lit ?_
    refine one fun C hC => val hE14 (R.move hE14 rfl) rfl fun a15 hE15 => hC _ _ ?_
    clear hC C
    clear hE14 a14
    refine one fun C hC => callF hE15 (control_c _) cb_28 rfl hM3 rfl  fun  a16 w4 hE16 hM4 => hC _ _ ?_
    clear hC C hE15 hM3 a15
    refine one fun C hC => val hE16 (R.assign hE16 rfl) rfl fun a17 hE17 => hC _ _ ?_
    clear hC C
    clear hE16 a16
    refine wpList_nil (hK7 _ _ ?_)
    clear hK7 K7
    replace hE17 := hE17.keep (E' := [(0, _), (2, _), (3, _), (7, _), (16, _)]) ⟨rfl, rfl, rfl, rfl, rfl, trivial⟩
    refine condR hE17 rfl ?_ ?_
    · intro hb2
      have ht2 := hb2
      try simp only [decide_eq_true_eq, decide_eq_false_iff_not, Bool.not_eq_true', Bool.not_eq_false', beq_iff_eq, Bool.and_eq_true, Bool.or_eq_true] at ht2
      refine wp_region_lit ?_
      refine one fun C hC => val hE17 (R.move hE17 rfl) rfl fun a18 hE18 => hC _ _ ?_
      clear hC C
      clear hE17 a17
      refine one fun C hC => callM hE18 (fault_c b { S with pos := S.pos + 1 } 2 (by assumption)) cb_20 rfl (machAt.close (T := 53) (R := 21) (K := 43) (L := 24) (A := 45) (V := V) (b := b) (S := { S with pos := S.pos + 1 }) (F := F0) x1 hk1 hV1 (by (try dsimp only); (try simp only [List.length_nil, attrsOf_snoc, tagAt_true]); (try simp only [emp_star, star_emp]); exact hM4.cast (by ac_rfl))) rfl fun  a19 w5 hE19 hM5 => hC _ _ ?_
      clear hC C hE18 hM4 a18
      replace hE19 := hE19.keep (E' := [(0, _), (2, _), (3, _), (7, _), (16, _)]) ⟨rfl, rfl, rfl, rfl, rfl, trivial⟩
      refine wpList_nil (hK6 _ _ ?_)
      refine wp_seq_k fun K8 hK8 => ?_
      refine wp_region_lit ?_
      refine one fun C hC => val hE19 (R.move hE19 rfl) rfl fun a20 hE20 => hC _ _ ?_
      clear hC C
      clear hE19 a19
      refine one fun C hC => val hE20 (R.assign hE20 rfl) rfl fun a21 hE21 => hC _ _ ?_
      clear hC C
      clear hE20 a20
      refine wpList_nil (hK8 _ _ ?_)
      clear hK8 K8
      replace hE21 := hE21.keep (E' := [(0, _), (2, _), (3, _), (7, _), (16, _)]) ⟨rfl, rfl, rfl, rfl, rfl, trivial⟩
      refine wp_ret (hQ _ _ ?_)
      refine back1 hE21 rfl rfl (Mem.done ?_ ?_)
      · rfl
      have hm := hM5
      simpa [M.read, M.fault, ht1, ht2] using hm
    · intro hb2
      have ht2 := hb2
      try simp only [decide_eq_true_eq, decide_eq_false_iff_not, Bool.not_eq_true', Bool.not_eq_false', beq_iff_eq, Bool.and_eq_true, Bool.or_eq_true] at ht2
      refine wp_seq_k fun K9 hK9 => ?_
      refine wp_region_lit ?_
      refine one fun C hC => val hE17 (R.move hE17 rfl) rfl fun a18 hE18 => hC _ _ ?_
      clear hC C
      clear hE17 a17
      refine one fun C hC => callF hE18 (nonchar_c _) cb_29 rfl hM4 rfl  fun  a19 w5 hE19 hM5 => hC _ _ ?_
      clear hC C hE18 hM4 a18
      refine one fun C hC => val hE19 (R.assign hE19 rfl) rfl fun a20 hE20 => hC _ _ ?_
      clear hC C
      clear hE19 a19
      refine wpList_nil (hK9 _ _ ?_)
      clear hK9 K9
      replace hE20 := hE20.keep (E' := [(0, _), (2, _), (3, _), (7, _), (16, _), (21, _)]) ⟨rfl, rfl, rfl, rfl, rfl, rfl, trivial⟩
      refine condR hE20 rfl ?_ ?_
      · intro hb3
        have ht3 := hb3
        try simp only [decide_eq_true_eq, decide_eq_false_iff_not, Bool.not_eq_true', Bool.not_eq_false', beq_iff_eq, Bool.and_eq_true, Bool.or_eq_true] at ht3
        refine wp_region_lit ?_
        refine one fun C hC => val hE20 (R.move hE20 rfl) rfl fun a21 hE21 => hC _ _ ?_
        clear hC C
        clear hE20 a20
        refine one fun C hC => callM hE21 (fault_c b { S with pos := S.pos + 1 } 15 (by assumption)) cb_20 rfl (machAt.close (T := 53) (R := 21) (K := 43) (L := 24) (A := 45) (V := V) (b := b) (S := { S with pos := S.pos + 1 }) (F := F0) x1 hk1 hV1 (by (try dsimp only); (try simp only [List.length_nil, attrsOf_snoc, tagAt_true]); (try simp only [emp_star, star_emp]); exact hM5.cast (by ac_rfl))) rfl fun  a22 w6 hE22 hM6 => hC _ _ ?_
        clear hC C hE21 hM5 a21
        replace hE22 := hE22.keep (E' := [(0, _), (2, _), (3, _), (7, _), (16, _), (21, _)]) ⟨rfl, rfl, rfl, rfl, rfl, rfl, trivial⟩
        refine wpList_nil (hK6 _ _ ?_)
        refine wp_seq_k fun K10 hK10 => ?_
        refine wp_region_lit ?_
        refine one fun C hC => val hE22 (R.move hE22 rfl) rfl fun a23 hE23 => hC _ _ ?_
        clear hC C
        clear hE22 a22
        refine one fun C hC => val hE23 (R.assign hE23 rfl) rfl fun a24 hE24 => hC _ _ ?_
        clear hC C
        clear hE23 a23
        refine wpList_nil (hK10 _ _ ?_)
        clear hK10 K10
        replace hE24 := hE24.keep (E' := [(0, _), (2, _), (3, _), (7, _), (16, _), (21, _)]) ⟨rfl, rfl, rfl, rfl, rfl, rfl, trivial⟩
        refine wp_ret (hQ _ _ ?_)
        refine back1 hE24 rfl rfl (Mem.done ?_ ?_)
        · rfl
        have hm := hM6
        simpa [M.read, M.fault, ht1, ht2, ht3] using hm
      · intro hb3
        have ht3 := hb3
        try simp only [decide_eq_true_eq, decide_eq_false_iff_not, Bool.not_eq_true', Bool.not_eq_false', beq_iff_eq, Bool.and_eq_true, Bool.or_eq_true] at ht3
        refine wp_skip (hK6 _ _ ?_)
        refine wp_seq_k fun K11 hK11 => ?_
        refine wp_region_lit ?_
        refine one fun C hC => val hE20 (R.move hE20 rfl) rfl fun a21 hE21 => hC _ _ ?_
        clear hC C
        clear hE20 a20
        refine one fun C hC => val hE21 (R.assign hE21 rfl) rfl fun a22 hE22 => hC _ _ ?_
        clear hC C
        clear hE21 a21
        refine wpList_nil (hK11 _ _ ?_)
        clear hK11 K11
        replace hE22 := hE22.keep (E' := [(0, _), (2, _), (3, _), (7, _), (16, _), (21, _)]) ⟨rfl, rfl, rfl, rfl, rfl, rfl, trivial⟩
        refine wp_ret (hQ _ _ ?_)
        refine back1 hE22 rfl rfl (Mem.done ?_ ?_)
        · rfl
        have hm := (machAt.close (T := 53) (R := 21) (K := 43) (L := 24) (A := 45) (V := V) (b := b) (S := { S with pos := S.pos + 1 }) (F := F0) x1 hk1 hV1 (by (try dsimp only); (try simp only [List.length_nil, attrsOf_snoc, tagAt_true]); (try simp only [emp_star, star_emp]); exact hM5.cast (by ac_rfl)))
        simpa [M.read, M.fault, ht1, ht2, ht3] using hm

def M.say (S : M) (l : List Int) : M := { S with text := S.text ++ l }
def M.begin (S : M) (k : Int) : M := { S with stale := false, tag := ⟨k, .empty, .empty, [], false⟩, name := [], slash := false, named := false }
def M.flush (S : M) : M := if 0 < S.text.length then { S with toks := S.toks ++ [⟨0, .empty, runesBytes S.text, [], false⟩], text := [] } else S
def M.keep (S : M) : M := { S with tag := if S.named && !S.twice then { S.tag with attrs := S.tag.attrs ++ [(runesBytes S.attr, runesBytes S.value)] } else S.tag, named := false, attr := [], value := [] }

set_option maxHeartbeats 400000 in
theorem say_c {V : Option (Option Addr × Nat)} (b : Nat) (S : M) (l : List Int) (a : Option Addr) (c : Nat) (hl : 0 < l.length) (ht : S.text.length + l.length < 1000000000) : Fm Tryd.prog 16 [.pointer (some ⟨b, 0, none⟩), .slice a l.length c] (star (mach V b S) (row 21 1 rune a c l)) (.tuple #[]) (star (mach V b (S.say l)) (row 21 1 rune a c l)) := by
  intro β w0 F0 hM0
  obtain ⟨x, hk, hV, hM1⟩ := machAt.open_ (hM0.cast (star_assoc _ _ _))
  clear hM0
  rename Mem _ _ _ => hM0
  refine enter Tryd.func16 (by rfl) 13 rfl rfl fun a0 Q hE0 hQ hN hP => ?_
  refine wp_region_lit ?_
  refine one fun C hC => val hE0 (R.move hE0 rfl) rfl fun a1 hE1 => hC _ _ ?_
  clear hC C
  clear hE0 a0
  refine one fun C hC => val hE1 (R.move hE1 rfl) rfl fun a2 hE2 => hC _ _ ?_
  clear hC C
  clear hE1 a1
  refine one fun C hC => val hE2 (R.nil hE2 rfl) rfl fun a3 hE3 => hC _ _ ?_
  clear hC C
  clear hE2 a2
  refine one fun C hC => val hE3 (R.fieldAddr hE3 53 4 4 fb_53_4 rfl) rfl fun a4 hE4 => hC _ _ ?_
  clear hC C
  clear hE3 a3
  refine one fun C hC => val hE4 (R.load hE4 sc_50 rfl hM0 (by rfl)) rfl fun a5 hE5 => hC _ _ ?_
  clear hC C
  clear hE4 a4
  refine one fun C hC => val hE5 (R.move hE5 rfl) rfl fun a6 hE6 => hC _ _ ?_
  clear hC C
  clear hE5 a5
  refine one fun C hC => appendR (xs := S.text) (ys := l) hE6 el_50 rfl rfl hM0 rfl rfl (by omega) (by unfold maxLen; first | omega | (simp; done) | (simp; omega)) (by first | omega | (simp; done) | (simp; omega)) rfl fun A10 C10 a7 w1 hE7 hM1 => hC _ _ ?_
  clear hC C hE6 hM0 a6
  refine one fun C hC => val hE7 (R.nil hE7 rfl) rfl fun a8 hE8 => hC _ _ ?_
  clear hC C
  clear hE7 a7
  refine one fun C hC => val hE8 (R.fieldAddr hE8 53 4 4 fb_53_4 rfl) rfl fun a9 hE9 => hC _ _ ?_
  clear hC C
  clear hE8 a8
  refine one fun C hC => store hE9 hM1 sc_50 rfl rfl rfl rfl  fun  a10 w2 hE10 hM2 => hC _ _ ?_
  clear hC C hE9 hM1 a9
  try simp only [List.set_cons_zero, List.set_cons_succ, Nat.zero_add] at hM2
  replace hE10 := hE10.keep (E' := [(0, _), (1, _)]) ⟨rfl, rfl, trivial⟩
  refine wpList_nil (hN _ _ ?_)
  refine back0 hE10 rfl (Mem.done rfl ?_)
  have hm := (machAt.close (T := 53) (R := 21) (K := 43) (L := 24) (A := 45) (V := V) (b := b) (S := { S with text := S.text ++ l }) (F := star (row 21 1 rune a c l) F0) { x with tA := A10, tC := C10 } hk hV (by (try dsimp only); (try simp only [List.length_nil, attrsOf_snoc, tagAt_true]); (try simp only [emp_star, star_emp]); exact hM2.cast (by ac_rfl)))
  exact hm.cast (star_assoc _ _ _).symm

set_option maxHeartbeats 400000 in
theorem begin_c {V : Option (Option Addr × Nat)} (b : Nat) (S : M) (k : Int) : Fm Tryd.prog 19 [.pointer (some ⟨b, 0, none⟩), .int .i64 k] (mach V b S) (.tuple #[]) (mach V b (S.begin k)) := by
  intro β w0 F0 hM0
  obtain ⟨x, hk, hV, hM1⟩ := machAt.open_ hM0
  clear hM0
  rename Mem _ _ _ => hM0
  refine enter Tryd.func19 (by rfl) 18 rfl rfl fun a0 Q hE0 hQ hN hP => ?_
  refine wp_seq_k fun K0 hK0 => ?_
  refine wp_region_lit ?_
  refine one fun C hC => val hE0 (R.move hE0 rfl) rfl fun a1 hE1 => hC _ _ ?_
  clear hC C
  clear hE0 a0
  refine one fun C hC => val hE1 (R.move hE1 rfl) rfl fun a2 hE2 => hC _ _ ?_
  clear hC C
  clear hE1 a1
  refine one fun C hC => val hE2 (R.move hE2 rfl) rfl fun a3 hE3 => hC _ _ ?_
  clear hC C
  clear hE2 a2
  refine one fun C hC => val hE3 (R.move hE3 rfl) rfl fun a4 hE4 => hC _ _ ?_
  clear hC C
  clear hE3 a3
  refine one fun C hC => val hE4 (R.build hE4 rfl (bd_43_0 _)) rfl fun a5 hE5 => hC _ _ ?_
  clear hC C
  clear hE4 a4
  refine one fun C hC => val hE5 (R.nil hE5 rfl) rfl fun a6 hE6 => hC _ _ ?_
  clear hC C
  clear hE5 a5
  refine one fun C hC => val hE6 (R.fieldAddr hE6 53 6 6 fb_53_6 rfl) rfl fun a7 hE7 => hC _ _ ?_
  clear hC C
  clear hE6 a6
  refine one fun C hC => storeAgg hE7 hM0 ss_43 rfl rfl rfl rfl rfl  fun  a8 w1 hE8 hM1 => hC _ _ ?_
  clear hC C hE7 hM0 a7
  try simp only [setSeg, List.set_cons_zero, List.set_cons_succ, Nat.zero_add, Nat.reduceAdd] at hM1
  have hM2 := (hM1.cut (tagAt 45 S.stale x.gA x.gN x.gC S.tag.attrs)).row_nil 45 2 encAttr none
  clear hM1
  refine one fun C hC => val hE8 (R.nil hE8 rfl) rfl fun a9 hE9 => hC _ _ ?_
  clear hC C
  clear hE8 a8
  refine one fun C hC => val hE9 (R.fieldAddr hE9 53 7 14 fb_53_7 rfl) rfl fun a10 hE10 => hC _ _ ?_
  clear hC C
  clear hE9 a9
  refine one fun C hC => store hE10 hM2 sc_50 rfl rfl rfl rfl  fun  a11 w3 hE11 hM3 => hC _ _ ?_
  clear hC C hE10 hM2 a10
  try simp only [List.set_cons_zero, List.set_cons_succ, Nat.zero_add] at hM3
  have hM4 := (hM3.cut (row 21 1 rune x.nA x.nC S.name)).row_nil 21 1 rune none
  clear hM3
  refine one fun C hC => val hE11 (R.nil hE11 rfl) rfl fun a12 hE12 => hC _ _ ?_
  clear hC C
  clear hE11 a11
  refine one fun C hC => val hE12 (R.fieldAddr hE12 53 12 19 fb_53_12 rfl) rfl fun a13 hE13 => hC _ _ ?_
  clear hC C
  clear hE12 a12
  refine one fun C hC => store hE13 hM4 sc_4 rfl rfl rfl rfl  fun  a14 w5 hE14 hM5 => hC _ _ ?_
  clear hC C hE13 hM4 a13
  try simp only [List.set_cons_zero, List.set_cons_succ, Nat.zero_add] at hM5
  refine wpList_nil (hK0 _ _ ?_)
  clear hK0 K0
  replace hE14 := hE14.keep (E' := [(0, _), (1, _)]) ⟨rfl, rfl, trivial⟩
  refine wp_region_lit ?_
  refine one fun C hC => val hE14 (R.move hE14 rfl) rfl fun a15 hE15 => hC _ _ ?_
  clear hC C
  clear hE14 a14
  refine one fun C hC => val hE15 (R.nil hE15 rfl) rfl fun a16 hE16 => hC _ _ ?_
  clear hC C
  clear hE15 a15
  refine one fun C hC => val hE16 (R.fieldAddr hE16 53 10 17 fb_53_10 rfl) rfl fun a17 hE17 => hC _ _ ?_
  clear hC C
  clear hE16 a16
  refine one fun C hC => store hE17 hM5 sc_4 rfl rfl rfl rfl  fun  a18 w6 hE18 hM6 => hC _ _ ?_
  clear hC C hE17 hM5 a17
  try simp only [List.set_cons_zero, List.set_cons_succ, Nat.zero_add] at hM6
  replace hE18 := hE18.keep (E' := [(0, _), (1, _)]) ⟨rfl, rfl, trivial⟩
  refine wpList_nil (hN _ _ ?_)
  refine back0 hE18 rfl (Mem.done rfl ?_)
  have hm := (machAt.closeT (T := 53) (R := 21) (K := 43) (L := 24) (A := 45) (V := V) (b := b) (S := { S with tag := ⟨k, .empty, .empty, [], false⟩, stale := false, name := [], slash := false, named := false }) (F := F0) (by first | rfl | assumption | ((try dsimp only); (try simp only [M.read_st, M.fault_st, M.say_st, M.begin_st, M.flush_st, M.keep_st, M.leave_st, M.again_st, M.first_st]); first | rfl | assumption)) { x with gA := none, gC := 0, nA := none, nC := 0 } hk hV (by (try dsimp only); (try simp only [List.length_nil, attrsOf_snoc, tagAt_true]); (try simp only [emp_star, star_emp]); exact hM6.cast (by ac_rfl)))
  exact hm

set_option maxHeartbeats 400000 in
theorem flush_c {V : Option (Option Addr × Nat)} (b : Nat) (S : M) (ht : S.toks.length < 1000000000) : Fm Tryd.prog 15 [.pointer (some ⟨b, 0, none⟩)] (mach V b S) (.tuple #[]) (mach V b S.flush) := by
  intro β w0 F0 hM0
  obtain ⟨x, hk, hV, hM1⟩ := machAt.open_ hM0
  clear hM0
  rename Mem _ _ _ => hM0
  refine enter Tryd.func15 (by rfl) 31 rfl rfl fun a0 Q hE0 hQ hN hP => ?_
  have htk : x.tks.length < 1000000000 := by rw [← List.length_map (f := TokV.t), hk]; exact ht
  refine wp_seq_k fun K0 hK0 => ?_
  refine wp_region_lit ?_
  refine one fun C hC => val hE0 (R.move hE0 rfl) rfl fun a1 hE1 => hC _ _ ?_
  clear hC C
  clear hE0 a0
  refine one fun C hC => val hE1 (R.nil hE1 rfl) rfl fun a2 hE2 => hC _ _ ?_
  clear hC C
  clear hE1 a1
  refine one fun C hC => val hE2 (R.fieldAddr hE2 53 4 4 fb_53_4 rfl) rfl fun a3 hE3 => hC _ _ ?_
  clear hC C
  clear hE2 a2
  refine one fun C hC => val hE3 (R.load hE3 sc_50 rfl hM0 (by rfl)) rfl fun a4 hE4 => hC _ _ ?_
  clear hC C
  clear hE3 a3
  refine one fun C hC => val hE4 (R.lenSlice hE4 21 1 sl_50 rfl) rfl fun a5 hE5 => hC _ _ ?_
  clear hC C
  clear hE4 a4
  refine one fun C hC => val hE5 (R.gtr hE5 rfl rfl) rfl fun a6 hE6 => hC _ _ ?_
  clear hC C
  clear hE5 a5
  refine wpList_nil (hK0 _ _ ?_)
  clear hK0 K0
  replace hE6 := hE6.keep (E' := [(0, _), (7, _)]) ⟨rfl, rfl, trivial⟩
  refine condR hE6 rfl ?_ ?_
  · intro hb1
    have ht1 := hb1
    try simp only [decide_eq_true_eq, decide_eq_false_iff_not, Bool.not_eq_true', Bool.not_eq_false', beq_iff_eq, Bool.and_eq_true, Bool.or_eq_true] at ht1
    refine wp_seq_k fun K1 hK1 => ?_
    refine planM [12, 15] [(0, 1), (1, 1), (2, 1), (3, 1), (5, 1), (6, 1), (7, 1), (4, 0), (8, 0), (9, 0), (10, 1), (11, 2), (12, 2), (13, 1), (14, 1), (15, 2)] mix (by kernel_rfl) hM0 (fun c a a2 w hd => hP c a a2 w hd) fun w1 hM1 C0 hC0 => ?_
    clear hM0
    refine pPure rfl hE6 (fun _ => by exact R.move hE6 rfl) rfl fun a7 hE7 => ?_
    clear hE6 a6
    refine pPure rfl hE7 (fun _ => by exact R.move hE7 rfl) rfl fun a8 hE8 => ?_
    clear hE7 a7
    refine pPure rfl hE8 (fun _ => by exact R.nil hE8 rfl) rfl fun a9 hE9 => ?_
    clear hE8 a8
    refine pPure rfl hE9 (fun _ => by exact R.fieldAddr hE9 53 2 2 fb_53_2 rfl) rfl fun a10 hE10 => ?_
    clear hE9 a9
    refine pPure rfl hE10 (fun _ => by exact R.move hE10 rfl) rfl fun a11 hE11 => ?_
    clear hE10 a10
    refine pPure rfl hE11 (fun _ => by exact R.nil hE11 rfl) rfl fun a12 hE12 => ?_
    clear hE11 a11
    refine pPure rfl hE12 (fun _ => by exact R.fieldAddr hE12 53 4 4 fb_53_4 rfl) rfl fun a13 hE13 => ?_
    clear hE12 a12
    refine pTake rfl hE13 (fun _ hW => by exact R.load hE13 sc_35 rfl hW (by rfl)) rfl hM1 fun a14 hE14 => ?_
    clear hE13 a13
    refine pTake rfl hE14 (fun _ hW => by exact R.load hE14 sc_50 rfl hW (by rfl)) rfl hM1 fun a15 hE15 => ?_
    clear hE14 a14
    refine pTake rfl hE15 (fun _ hW => by exact R.runes hE15 21 ru_50_9 rfl hW rfl) rfl hM1 fun a16 hE16 => ?_
    clear hE15 a15
    refine pPure rfl hE16 (fun _ => by exact R.build hE16 rfl (bd_43_0_2 _ _)) rfl fun a17 hE17 => ?_
    clear hE16 a16
    refine pOneS rfl fun C hC => litA hE17 hM1 96 el_35 rfl rfl rfl rfl rfl  fun b19 a18 w2 hE18 hM2 => hC _ _ hM2.drop ?_
    clear hC C hE17 hM1 a17
    refine pOne rfl rfl fun C hC => appendL (xs := x.tks) hE18 [(⟨⟨0, .empty, runesBytes S.text, [], false⟩, none, 0⟩ : TokV)] el_35 rfl rfl hM2 rfl rfl rfl (by unfold maxLen; first | omega | (simp; done) | (simp; omega)) (by first | omega | (simp; done) | (simp; omega)) rfl fun A20 C20 a19 w3 hE19 hM3 => hC _ _ ?_
    clear hC C hE18 hM2 a18
    refine pPure rfl hE19 (fun _ => by exact R.nil hE19 rfl) rfl fun a20 hE20 => ?_
    clear hE19 a19
    refine pPure rfl hE20 (fun _ => by exact R.fieldAddr hE20 53 2 2 fb_53_2 rfl) rfl fun a21 hE21 => ?_
    clear hE20 a20
    refine pOne rfl rfl fun C hC => store hE21 hM3 sc_35 rfl rfl rfl rfl  fun  a22 w4 hE22 hM4 => hC _ _ ?_
    clear hC C hE21 hM3 a21
    try simp only [List.set_cons_zero, List.set_cons_succ, Nat.zero_add] at hM4
    have hk100 : List.map (fun x : TokV => x.t) (x.tks ++ [(⟨⟨0, .empty, runesBytes S.text, [], false⟩, none, 0⟩ : TokV)]) = S.toks ++ [⟨0, .empty, runesBytes S.text, [], false⟩] := by simp [hk]
    have hM5 := hM4.row_nil 45 2 encAttr none
    clear hM4
    refine pNil (hC0 _ _ ?_)
    clear hC0 C0
    refine hK1 _ _ ?_
    clear hK1 K1
    replace hE22 := hE22.keep (E' := [(0, _), (7, _)]) ⟨rfl, rfl, trivial⟩
    refine wp_region_lit ?_
    refine one fun C hC => val hE22 (R.move hE22 rfl) rfl fun a23 hE23 => hC _ _ ?_
    clear hC C
    clear hE22 a22
    refine one fun C hC => val hE23 (R.move hE23 rfl) rfl fun a24 hE24 => hC _ _ ?_
    clear hC C
    clear hE23 a23
    refine one fun C hC => val hE24 (R.nil hE24 rfl) rfl fun a25 hE25 => hC _ _ ?_
    clear hC C
    clear hE24 a24
    refine one fun C hC => val hE25 (R.fieldAddr hE25 53 4 4 fb_53_4 rfl) rfl fun a26 hE26 => hC _ _ ?_
    clear hC C
    clear hE25 a25
    refine one fun C hC => val hE26 (R.load hE26 sc_50 rfl hM5 (by rfl)) rfl fun a27 hE27 => hC _ _ ?_
    clear hC C
    clear hE26 a26
    refine one fun C hC => val hE27 (R.sliceNone hE27 21 1 sl_50 rfl) rfl fun a28 hE28 => hC _ _ ?_
    clear hC C
    clear hE27 a27
    refine one fun C hC => val hE28 (R.nil hE28 rfl) rfl fun a29 hE29 => hC _ _ ?_
    clear hC C
    clear hE28 a28
    refine one fun C hC => val hE29 (R.fieldAddr hE29 53 4 4 fb_53_4 rfl) rfl fun a30 hE30 => hC _ _ ?_
    clear hC C
    clear hE29 a29
    refine one fun C hC => store hE30 hM5 sc_50 rfl rfl rfl rfl  fun  a31 w6 hE31 hM6 => hC _ _ ?_
    clear hC C hE30 hM5 a30
    try simp only [List.set_cons_zero, List.set_cons_succ, Nat.zero_add] at hM6
    have hM7 := (hM6.cut (row 21 1 rune x.tA x.tC S.text)).row_nil 21 1 rune x.tA
    clear hM6
    replace hE31 := hE31.keep (E' := [(0, _), (7, _)]) ⟨rfl, rfl, trivial⟩
    refine wpList_nil (hN _ _ ?_)
    refine back0 hE31 rfl (Mem.done rfl ?_)
    have hm := (machAt.close (T := 53) (R := 21) (K := 43) (L := 24) (A := 45) (V := V) (b := b) (S := { S with toks := S.toks ++ [⟨0, .empty, runesBytes S.text, [], false⟩], text := [] }) (F := F0) { x with tkA := A20, tkC := C20, tA := x.tA, tC := 0, tks := x.tks ++ [(⟨⟨0, .empty, runesBytes S.text, [], false⟩, none, 0⟩ : TokV)] } hk100 hV (by (try dsimp only); (try simp only [List.length_nil, attrsOf_snoc, tagAt_true]); (try simp only [emp_star, star_emp]); exact hM7.cast (by ac_rfl)))
    simp only [M.flush]; (repeat' split) <;> first | exact hm | (exfalso; omega) | (exfalso; simp_all; done)
  · intro hb1
    have ht1 := hb1
    try simp only [decide_eq_true_eq, decide_eq_false_iff_not, Bool.not_eq_true', Bool.not_eq_false', beq_iff_eq, Bool.and_eq_true, Bool.or_eq_true] at ht1
    refine wp_skip (hN _ _ ?_)
    refine back0 hE6 rfl (Mem.done rfl ?_)
    have hm := (machAt.close (T := 53) (R := 21) (K := 43) (L := 24) (A := 45) (V := V) (b := b) (S := S) (F := F0) x hk hV (by (try dsimp only); (try simp only [List.length_nil, attrsOf_snoc, tagAt_true]); (try simp only [emp_star, star_emp]); exact hM0.cast (by ac_rfl)))
    simp only [M.flush]; (repeat' split) <;> first | exact hm | (exfalso; omega) | (exfalso; simp_all; done)

set_option maxHeartbeats 400000 in
theorem keep_c (b : Nat) (S : M) (hs : S.stale = false) (hg : S.tag.attrs.length < 1000000000) : Fm Tryd.prog 40 [.pointer (some ⟨b, 0, none⟩)] (mach none b S) (.tuple #[]) (mach none b S.keep) := by
  intro β w0 F0 hM0
  obtain ⟨x, hk, hV, hM1⟩ := machAt.openT hs hM0
  clear hM0
  rename Mem _ _ _ => hM0
  refine enter Tryd.func40 (by rfl) 44 rfl rfl fun a0 Q hE0 hQ hN hP => ?_
  refine wp_seq_k fun K0 hK0 => ?_
  refine wp_seq_k fun K1 hK1 => ?_
  refine wp_region_lit ?_
  refine one fun C hC => val hE0 (R.move hE0 rfl) rfl fun a1 hE1 => hC _ _ ?_
  clear hC C
  clear hE0 a0
  refine one fun C hC => val hE1 (R.nil hE1 rfl) rfl fun a2 hE2 => hC _ _ ?_
  clear hC C
  clear hE1 a1
  refine one fun C hC => val hE2 (R.fieldAddr hE2 53 10 17 fb_53_10 rfl) rfl fun a3 hE3 => hC _ _ ?_
  clear hC C
  clear hE2 a2
  refine one fun C hC => val hE3 (R.load hE3 sc_4 rfl hM0 (by rfl)) rfl fun a4 hE4 => hC _ _ ?_
  clear hC C
  clear hE3 a3
  refine one fun C hC => val hE4 (R.move hE4 rfl) rfl fun a5 hE5 => hC _ _ ?_
  clear hC C
  clear hE4 a4
  refine splitE hE5 (x := .tmp 6) rfl ?_ ?_
  · intro hb1
    have ht1 := hb1
    try simp only [decide_eq_true_eq, decide_eq_false_iff_not, Bool.not_eq_true', Bool.not_eq_false', beq_iff_eq, Bool.and_eq_true, Bool.or_eq_true] at ht1
    refine oneOn hE5 rfl rfl hb1 fun C hC => val hE5 (R.move hE5 rfl) rfl fun a6 hE6 => hC _ _ ?_
    clear hC C
    clear hE5 a5
    refine oneOn hE6 rfl rfl hb1 fun C hC => val hE6 (R.nil hE6 rfl) rfl fun a7 hE7 => hC _ _ ?_
    clear hC C
    clear hE6 a6
    refine oneOn hE7 rfl rfl hb1 fun C hC => val hE7 (R.fieldAddr hE7 53 11 18 fb_53_11 rfl) rfl fun a8 hE8 => hC _ _ ?_
    clear hC C
    clear hE7 a7
    refine oneOn hE8 rfl rfl hb1 fun C hC => val hE8 (R.load hE8 sc_4 rfl hM0 (by rfl)) rfl fun a9 hE9 => hC _ _ ?_
    clear hC C
    clear hE8 a8
    refine oneOn hE9 rfl rfl hb1 fun C hC => val hE9 (R.not hE9 rfl) rfl fun a10 hE10 => hC _ _ ?_
    clear hC C
    clear hE9 a9
    refine one fun C hC => val hE10 (R.pickT hE10 rfl hb1 rfl) rfl fun a11 hE11 => hC _ _ ?_
    clear hC C
    clear hE10 a10
    refine wpList_nil (hK1 _ _ ?_)
    clear hK1 K1
    replace hE11 := hE11.keep (E' := [(0, _), (12, _)]) ⟨rfl, rfl, trivial⟩
    refine condR hE11 rfl ?_ ?_
    · intro hb2
      have ht2 := hb2
      try simp only [decide_eq_true_eq, decide_eq_false_iff_not, Bool.not_eq_true', Bool.not_eq_false', beq_iff_eq, Bool.and_eq_true, Bool.or_eq_true] at ht2
      refine planM [18, 22] [(0, 1), (1, 1), (2, 1), (3, 1), (4, 1), (6, 1), (7, 1), (8, 1), (11, 1), (12, 1), (13, 1), (5, 0), (9, 0), (10, 0), (14, 0), (15, 0), (16, 1), (17, 2), (18, 2), (19, 1), (20, 1), (21, 1), (22, 2)] mix (by kernel_rfl) hM0 (fun c a a2 w hd => hP c a a2 w hd) fun w1 hM1 C0 hC0 => ?_
      clear hM0
      refine pPure rfl hE11 (fun _ => by exact R.move hE11 rfl) rfl fun a12 hE12 => ?_
      clear hE11 a11
      refine pPure rfl hE12 (fun _ => by exact R.move hE12 rfl) rfl fun a13 hE13 => ?_
      clear hE12 a12
      refine pPure rfl hE13 (fun _ => by exact R.nil hE13 rfl) rfl fun a14 hE14 => ?_
      clear hE13 a13
      refine pPure rfl hE14 (fun _ => by exact R.fieldAddr hE14 53 6 6 fb_53_6 rfl) rfl fun a15 hE15 => ?_
      clear hE14 a14
      refine pPure rfl hE15 (fun _ => by exact R.fieldAddr hE15 43 3 3 fb_43_3 rfl) rfl fun a16 hE16 => ?_
      clear hE15 a15
      refine pPure rfl hE16 (fun _ => by exact R.move hE16 rfl) rfl fun a17 hE17 => ?_
      clear hE16 a16
      refine pPure rfl hE17 (fun _ => by exact R.nil hE17 rfl) rfl fun a18 hE18 => ?_
      clear hE17 a17
      refine pPure rfl hE18 (fun _ => by exact R.fieldAddr hE18 53 8 15 fb_53_8 rfl) rfl fun a19 hE19 => ?_
      clear hE18 a18
      refine pPure rfl hE19 (fun _ => by exact R.move hE19 rfl) rfl fun a20 hE20 => ?_
      clear hE19 a19
      refine pPure rfl hE20 (fun _ => by exact R.nil hE20 rfl) rfl fun a21 hE21 => ?_
      clear hE20 a20
      refine pPure rfl hE21 (fun _ => by exact R.fieldAddr hE21 53 9 16 fb_53_9 rfl) rfl fun a22 hE22 => ?_
      clear hE21 a21
      refine pTake rfl hE22 (fun _ hW => by exact R.load hE22 sc_39 rfl hW (by rfl)) rfl hM1 fun a23 hE23 => ?_
      clear hE22 a22
      refine pTake rfl hE23 (fun _ hW => by exact R.load hE23 sc_50 rfl hW (by rfl)) rfl hM1 fun a24 hE24 => ?_
      clear hE23 a23
      refine pTake rfl hE24 (fun _ hW => by exact R.runes hE24 21 ru_50_9 rfl hW rfl) rfl hM1 fun a25 hE25 => ?_
      clear hE24 a24
      refine pTake rfl hE25 (fun _ hW => by exact R.load hE25 sc_50 rfl hW (by rfl)) rfl hM1 fun a26 hE26 => ?_
      clear hE25 a25
      refine pTake rfl hE26 (fun _ hW => by exact R.runes hE26 21 ru_50_9 rfl hW rfl) rfl hM1 fun a27 hE27 => ?_
      clear hE26 a26
      refine pPure rfl hE27 (fun _ => by exact R.build hE27 rfl (bd_45_0_1 _ _)) rfl fun a28 hE28 => ?_
      clear hE27 a27
      refine pOneS rfl fun C hC => litA hE28 hM1 32 el_39 rfl rfl rfl rfl rfl  fun b30 a29 w2 hE29 hM2 => hC _ _ hM2.drop ?_
      clear hC C hE28 hM1 a28
      refine pOne rfl rfl fun C hC => appendL (xs := S.tag.attrs) hE29 [(runesBytes S.attr, runesBytes S.value)] el_39 rfl rfl hM2 rfl rfl rfl (by unfold maxLen; first | omega | (simp; done) | (simp; omega)) (by first | omega | (simp; done) | (simp; omega)) rfl fun A31 C31 a30 w3 hE30 hM3 => hC _ _ ?_
      clear hC C hE29 hM2 a29
      refine pPure rfl hE30 (fun _ => by exact R.nil hE30 rfl) rfl fun a31 hE31 => ?_
      clear hE30 a30
      refine pPure rfl hE31 (fun _ => by exact R.fieldAddr hE31 53 6 6 fb_53_6 rfl) rfl fun a32 hE32 => ?_
      clear hE31 a31
      refine pPure rfl hE32 (fun _ => by exact R.fieldAddr hE32 43 3 3 fb_43_3 rfl) rfl fun a33 hE33 => ?_
      clear hE32 a32
      refine pOne rfl rfl fun C hC => store hE33 hM3 sc_39 rfl rfl rfl rfl  fun  a34 w4 hE34 hM4 => hC _ _ ?_
      clear hC C hE33 hM3 a33
      try simp only [List.set_cons_zero, List.set_cons_succ, Nat.zero_add] at hM4
      refine pNil (hC0 _ _ ?_)
      clear hC0 C0
      replace hE34 := hE34.keep (E' := [(0, _), (12, _)]) ⟨rfl, rfl, trivial⟩
      refine hK0 _ _ ?_
      refine wp_region_lit ?_
      refine one fun C hC => val hE34 (R.move hE34 rfl) rfl fun a35 hE35 => hC _ _ ?_
      clear hC C
      clear hE34 a34
      refine one fun C hC => val hE35 (R.move hE35 rfl) rfl fun a36 hE36 => hC _ _ ?_
      clear hC C
      clear hE35 a35
      refine one fun C hC => val hE36 (R.move hE36 rfl) rfl fun a37 hE37 => hC _ _ ?_
      clear hC C
      clear hE36 a36
      refine one fun C hC => val hE37 (R.nil hE37 rfl) rfl fun a38 hE38 => hC _ _ ?_
      clear hC C
      clear hE37 a37
      refine one fun C hC => val hE38 (R.fieldAddr hE38 53 10 17 fb_53_10 rfl) rfl fun a39 hE39 => hC _ _ ?_
      clear hC C
      clear hE38 a38
      refine one fun C hC => store hE39 hM4 sc_4 rfl rfl rfl rfl  fun  a40 w5 hE40 hM5 => hC _ _ ?_
      clear hC C hE39 hM4 a39
      try simp only [List.set_cons_zero, List.set_cons_succ, Nat.zero_add] at hM5
      refine one fun C hC => val hE40 (R.nil hE40 rfl) rfl fun a41 hE41 => hC _ _ ?_
      clear hC C
      clear hE40 a40
      refine one fun C hC => val hE41 (R.fieldAddr hE41 53 8 15 fb_53_8 rfl) rfl fun a42 hE42 => hC _ _ ?_
      clear hC C
      clear hE41 a41
      refine one fun C hC => store hE42 hM5 sc_50 rfl rfl rfl rfl  fun  a43 w6 hE43 hM6 => hC _ _ ?_
      clear hC C hE42 hM5 a42
      try simp only [List.set_cons_zero, List.set_cons_succ, Nat.zero_add] at hM6
      have hM7 := (hM6.cut (row 21 1 rune x.aA x.aC S.attr)).row_nil 21 1 rune none
      clear hM6
      refine one fun C hC => val hE43 (R.nil hE43 rfl) rfl fun a44 hE44 => hC _ _ ?_
      clear hC C
      clear hE43 a43
      refine one fun C hC => val hE44 (R.fieldAddr hE44 53 9 16 fb_53_9 rfl) rfl fun a45 hE45 => hC _ _ ?_
      clear hC C
      clear hE44 a44
      refine one fun C hC => store hE45 hM7 sc_50 rfl rfl rfl rfl  fun  a46 w8 hE46 hM8 => hC _ _ ?_
      clear hC C hE45 hM7 a45
      try simp only [List.set_cons_zero, List.set_cons_succ, Nat.zero_add] at hM8
      have hM9 := (hM8.cut (row 21 1 rune x.vA x.vC S.value)).row_nil 21 1 rune none
      clear hM8
      replace hE46 := hE46.keep (E' := [(0, _), (12, _)]) ⟨rfl, rfl, trivial⟩
      refine wpList_nil (hN _ _ ?_)
      refine back0 hE46 rfl (Mem.done rfl ?_)
      have hm := (machAt.closeT (T := 53) (R := 21) (K := 43) (L := 24) (A := 45) (V := none) (b := b) (S := { S with named := false, attr := [], value := [], tag := { S.tag with attrs := S.tag.attrs ++ [(runesBytes S.attr, runesBytes S.value)] } }) (F := F0) (by first | rfl | assumption | ((try dsimp only); (try simp only [M.read_st, M.fault_st, M.say_st, M.begin_st, M.flush_st, M.keep_st, M.leave_st, M.again_st, M.first_st]); first | rfl | assumption)) { x with gA := A31, gC := C31, aA := none, aC := 0, vA := none, vC := 0 } hk trivial (by (try dsimp only); (try simp only [List.length_nil, attrsOf_snoc, tagAt_true]); (try simp only [emp_star, star_emp]); exact hM9.cast (by ac_rfl)))
      simp only [M.keep]; (repeat' split) <;> first | exact hm | (exfalso; omega) | (exfalso; simp_all; done) | (simp_all; done)
    · intro hb2
      have ht2 := hb2
      try simp only [decide_eq_true_eq, decide_eq_false_iff_not, Bool.not_eq_true', Bool.not_eq_false', beq_iff_eq, Bool.and_eq_true, Bool.or_eq_true] at ht2
      refine wp_skip (hK0 _ _ ?_)
      refine wp_region_lit ?_
      refine one fun C hC => val hE11 (R.move hE11 rfl) rfl fun a12 hE12 => hC _ _ ?_
      clear hC C
      clear hE11 a11
      refine one fun C hC => val hE12 (R.move hE12 rfl) rfl fun a13 hE13 => hC _ _ ?_
      clear hC C
      clear hE12 a12
      refine one fun C hC => val hE13 (R.move hE13 rfl) rfl fun a14 hE14 => hC _ _ ?_
      clear hC C
      clear hE13 a13
      refine one fun C hC => val hE14 (R.nil hE14 rfl) rfl fun a15 hE15 => hC _ _ ?_
      clear hC C
      clear hE14 a14
      refine one fun C hC => val hE15 (R.fieldAddr hE15 53 10 17 fb_53_10 rfl) rfl fun a16 hE16 => hC _ _ ?_
      clear hC C
      clear hE15 a15
      refine one fun C hC => store hE16 hM0 sc_4 rfl rfl rfl rfl  fun  a17 w1 hE17 hM1 => hC _ _ ?_
      clear hC C hE16 hM0 a16
      try simp only [List.set_cons_zero, List.set_cons_succ, Nat.zero_add] at hM1
      refine one fun C hC => val hE17 (R.nil hE17 rfl) rfl fun a18 hE18 => hC _ _ ?_
      clear hC C
      clear hE17 a17
      refine one fun C hC => val hE18 (R.fieldAddr hE18 53 8 15 fb_53_8 rfl) rfl fun a19 hE19 => hC _ _ ?_
      clear hC C
      clear hE18 a18
      refine one fun C hC => store hE19 hM1 sc_50 rfl rfl rfl rfl  fun  a20 w2 hE20 hM2 => hC _ _ ?_
      clear hC C hE19 hM1 a19
      try simp only [List.set_cons_zero, List.set_cons_succ, Nat.zero_add] at hM2
      have hM3 := (hM2.cut (row 21 1 rune x.aA x.aC S.attr)).row_nil 21 1 rune none
      clear hM2
      refine one fun C hC => val hE20 (R.nil hE20 rfl) rfl fun a21 hE21 => hC _ _ ?_
      clear hC C
      clear hE20 a20
      refine one fun C hC => val hE21 (R.fieldAddr hE21 53 9 16 fb_53_9 rfl) rfl fun a22 hE22 => hC _ _ ?_
      clear hC C
      clear hE21 a21
      refine one fun C hC => store hE22 hM3 sc_50 rfl rfl rfl rfl  fun  a23 w4 hE23 hM4 => hC _ _ ?_
      clear hC C hE22 hM3 a22
      try simp only [List.set_cons_zero, List.set_cons_succ, Nat.zero_add] at hM4
      have hM5 := (hM4.cut (row 21 1 rune x.vA x.vC S.value)).row_nil 21 1 rune none
      clear hM4
      replace hE23 := hE23.keep (E' := [(0, _), (12, _)]) ⟨rfl, rfl, trivial⟩
      refine wpList_nil (hN _ _ ?_)
      refine back0 hE23 rfl (Mem.done rfl ?_)
      have hm := (machAt.closeT (T := 53) (R := 21) (K := 43) (L := 24) (A := 45) (V := none) (b := b) (S := { S with named := false, attr := [], value := [] }) (F := F0) (by first | rfl | assumption | ((try dsimp only); (try simp only [M.read_st, M.fault_st, M.say_st, M.begin_st, M.flush_st, M.keep_st, M.leave_st, M.again_st, M.first_st]); first | rfl | assumption)) { x with aA := none, aC := 0, vA := none, vC := 0 } hk trivial (by (try dsimp only); (try simp only [List.length_nil, attrsOf_snoc, tagAt_true]); (try simp only [emp_star, star_emp]); exact hM5.cast (by ac_rfl)))
      simp only [M.keep]; (repeat' split) <;> first | exact hm | (exfalso; omega) | (exfalso; simp_all; done) | (simp_all; done)
  · intro hb1
    have ht1 := hb1
    try simp only [decide_eq_true_eq, decide_eq_false_iff_not, Bool.not_eq_true', Bool.not_eq_false', beq_iff_eq, Bool.and_eq_true, Bool.or_eq_true] at ht1
    refine oneOff hE5 rfl rfl hb1 rfl fun a6 hE6 => ?_
    clear hE5 a5
    refine oneOff hE6 rfl rfl hb1 rfl fun a7 hE7 => ?_
    clear hE6 a6
    refine oneOff hE7 rfl rfl hb1 rfl fun a8 hE8 => ?_
    clear hE7 a7
    refine oneOff hE8 rfl rfl hb1 rfl fun a9 hE9 => ?_
    clear hE8 a8
    refine oneOff hE9 rfl rfl hb1 rfl fun a10 hE10 => ?_
    clear hE9 a9
    refine one fun C hC => val hE10 (R.pickF hE10 rfl hb1 rfl) rfl fun a11 hE11 => hC _ _ ?_
    clear hC C
    clear hE10 a10
    refine wpList_nil (hK1 _ _ ?_)
    clear hK1 K1
    replace hE11 := hE11.keep (E' := [(0, _), (12, _)]) ⟨rfl, rfl, trivial⟩
    refine condF hE11 rfl rfl ?_
    refine wp_skip (hK0 _ _ ?_)
    refine wp_region_lit ?_
    refine one fun C hC => val hE11 (R.move hE11 rfl) rfl fun a12 hE12 => hC _ _ ?_
    clear hC C
    clear hE11 a11
    refine one fun C hC => val hE12 (R.move hE12 rfl) rfl fun a13 hE13 => hC _ _ ?_
    clear hC C
    clear hE12 a12
    refine one fun C hC => val hE13 (R.move hE13 rfl) rfl fun a14 hE14 => hC _ _ ?_
    clear hC C
    clear hE13 a13
    refine one fun C hC => val hE14 (R.nil hE14 rfl) rfl fun a15 hE15 => hC _ _ ?_
    clear hC C
    clear hE14 a14
    refine one fun C hC => val hE15 (R.fieldAddr hE15 53 10 17 fb_53_10 rfl) rfl fun a16 hE16 => hC _ _ ?_
    clear hC C
    clear hE15 a15
    refine one fun C hC => store hE16 hM0 sc_4 rfl rfl rfl rfl  fun  a17 w1 hE17 hM1 => hC _ _ ?_
    clear hC C hE16 hM0 a16
    try simp only [List.set_cons_zero, List.set_cons_succ, Nat.zero_add] at hM1
    refine one fun C hC => val hE17 (R.nil hE17 rfl) rfl fun a18 hE18 => hC _ _ ?_
    clear hC C
    clear hE17 a17
    refine one fun C hC => val hE18 (R.fieldAddr hE18 53 8 15 fb_53_8 rfl) rfl fun a19 hE19 => hC _ _ ?_
    clear hC C
    clear hE18 a18
    refine one fun C hC => store hE19 hM1 sc_50 rfl rfl rfl rfl  fun  a20 w2 hE20 hM2 => hC _ _ ?_
    clear hC C hE19 hM1 a19
    try simp only [List.set_cons_zero, List.set_cons_succ, Nat.zero_add] at hM2
    have hM3 := (hM2.cut (row 21 1 rune x.aA x.aC S.attr)).row_nil 21 1 rune none
    clear hM2
    refine one fun C hC => val hE20 (R.nil hE20 rfl) rfl fun a21 hE21 => hC _ _ ?_
    clear hC C
    clear hE20 a20
    refine one fun C hC => val hE21 (R.fieldAddr hE21 53 9 16 fb_53_9 rfl) rfl fun a22 hE22 => hC _ _ ?_
    clear hC C
    clear hE21 a21
    refine one fun C hC => store hE22 hM3 sc_50 rfl rfl rfl rfl  fun  a23 w4 hE23 hM4 => hC _ _ ?_
    clear hC C hE22 hM3 a22
    try simp only [List.set_cons_zero, List.set_cons_succ, Nat.zero_add] at hM4
    have hM5 := (hM4.cut (row 21 1 rune x.vA x.vC S.value)).row_nil 21 1 rune none
    clear hM4
    replace hE23 := hE23.keep (E' := [(0, _), (12, _)]) ⟨rfl, rfl, trivial⟩
    refine wpList_nil (hN _ _ ?_)
    refine back0 hE23 rfl (Mem.done rfl ?_)
    have hm := (machAt.closeT (T := 53) (R := 21) (K := 43) (L := 24) (A := 45) (V := none) (b := b) (S := { S with named := false, attr := [], value := [] }) (F := F0) (by first | rfl | assumption | ((try dsimp only); (try simp only [M.read_st, M.fault_st, M.say_st, M.begin_st, M.flush_st, M.keep_st, M.leave_st, M.again_st, M.first_st]); first | rfl | assumption)) { x with aA := none, aC := 0, vA := none, vC := 0 } hk trivial (by (try dsimp only); (try simp only [List.length_nil, attrsOf_snoc, tagAt_true]); (try simp only [emp_star, star_emp]); exact hM5.cast (by ac_rfl)))
    simp only [M.keep]; (repeat' split) <;> first | exact hm | (exfalso; omega) | (exfalso; simp_all; done) | (simp_all; done)

end Go.Sv
