import Derived.Test.YthaalghnpfpjmaaDoorProg
import Derived.Test.YthaalghnpfpjmaaDoorMach21
import Derived.Test.YthaalghnpfpjmaaDoorRules12
set_option linter.all false
set_option linter.unusedVariables false
set_option linter.unusedSimpArgs false
set_option maxRecDepth 100000
namespace Go.Sv
open Go.RowKit Go.Proofs
attribute [local irreducible] row pts star blk emp fact any attrsOf machAt tagAt

namespace FMach22
theorem al_26 : (Tryd.prog.info? 26).bind (·.zero) = some (.slice none 0 0) := by kernel_rfl
theorem al_28 : (Tryd.prog.info? 28).bind (·.zero) = some (.int .i64 0) := by kernel_rfl
theorem al_35 : (Tryd.prog.info? 35).bind (·.zero) = some (.slice none 0 0) := by kernel_rfl
theorem al_47 : (Tryd.prog.info? 47).bind (·.zero) = some (.agg [].toArray) := by kernel_rfl
theorem bd_53_0 : ∀ (x0 : Option Addr) (n0 c0 : Nat), ∀ w, (Instr.build 53 [(0, .slice x0 n0 c0)].toArray).run Tryd.prog w = .ok (.agg [.slice x0 n0 c0, .int .i64 0, .slice none 0 0, .slice none 0 0, .slice none 0 0, .string ByteArray.empty, .int .i64 0, .string ByteArray.empty, .string ByteArray.empty, .slice none 0 0, .bool false, .int .i64 0, .int .i64 0, .int .i64 0, .slice none 0 0, .slice none 0 0, .slice none 0 0, .bool false, .bool false, .bool false, .int .i32 0].toArray) w := by
  intros
  exact run_build _ 53 _ _ (by kernel_rfl)
theorem cb_10 : callB Tryd.prog 10 = true := by kernel_rfl
theorem cb_11 : callB Tryd.prog 11 = true := by kernel_rfl
theorem cb_9 : callB Tryd.prog 9 = true := by kernel_rfl
theorem fb_53_2 : fieldB Tryd.prog 53 2 2 = true := by kernel_rfl
theorem fb_53_3 : fieldB Tryd.prog 53 3 3 = true := by kernel_rfl
theorem mix : Tryd.prog.follows .mixedOrders = true := by kernel_rfl
theorem sc_26 : scalarB Tryd.prog 26 = true := by kernel_rfl
theorem sc_28 : scalarB Tryd.prog 28 = true := by kernel_rfl
theorem sc_35 : scalarB Tryd.prog 35 = true := by kernel_rfl
theorem ss_47 : structB Tryd.prog 47 0 = true := by kernel_rfl
end FMach22
open FMach22
/-- The deferred function, where the text was rejected. -/
theorem tokens1_panic (c2 c3 c4 : Nat) (v2 v3 v4 : Value) (older : List PanicEntry) {β : Base} {w0 : World} {F0 : HProp} (hM0 : Mem β w0 (star (pts c2 35 [v2]) (star (pts c3 26 [v3]) (star (pts c4 28 [v4]) F0)))) :
    CallsD Tryd.prog 9 #[.pointer (some ⟨c2, 0, none⟩), .pointer (some ⟨c3, 0, none⟩), .pointer (some ⟨c4, 0, none⟩)] (.panicking ({ v := .iface 47 (.agg #[]), recovered := false } :: older)) w0 fun e u' w' => e = .returned (.tuple #[]) ∧ u' = .panicking ({ v := .iface 47 (.agg #[]), recovered := true } :: older) ∧ Mem β w' (star (pts c2 35 [.slice none 0 0]) (star (pts c3 26 [.slice none 0 0]) (star (pts c4 28 [.int .i64 220]) F0))) := by
  refine callsD_of_wpS Tryd.func9 rfl fun c₀ cs hu => ?_
  have hE0 := Env.args [.pointer (some ⟨c2, 0, none⟩), .pointer (some ⟨c3, 0, none⟩), .pointer (some ⟨c4, 0, none⟩)] 17 (by rfl)
  apply wpS_seq
  refine recoverR (v := .iface 47 (.agg #[])) (cs' := { c₀ with mode := .panicking ({ v := .iface 47 (.agg #[]), recovered := true } :: older) } :: cs) hE0 rfl rfl (by simp [recoverD, hu]) fun a1 hE1 => ?_
  replace hE1 := hE1.keep (E' := [(0, _), (1, _), (2, _), (3, _)]) ⟨rfl, rfl, rfl, rfl, trivial⟩
  refine wpS_of_wp ?_
  refine wp_seq_k fun K0 hK0 => ?_
  refine wp_region_lit ?_
  refine one fun C hC => val hE1 (R.move hE1 rfl) rfl fun a2 hE2 => hC _ _ ?_
  clear hC C
  clear hE1 a1
  refine one fun C hC => val hE2 (R.neqNil hE2 (by rfl) rfl rfl) rfl fun a3 hE3 => hC _ _ ?_
  clear hC C
  clear hE2 a2
  refine wpList_nil (hK0 _ _ ?_)
  clear hK0 K0
  replace hE3 := hE3.keep (E' := [(0, _), (1, _), (2, _), (3, _), (8, _)]) ⟨rfl, rfl, rfl, rfl, rfl, trivial⟩
  refine condR hE3 rfl ?_ ?_
  · intro hb1
    have ht1 := hb1
    try simp only [decide_eq_true_eq, decide_eq_false_iff_not, Bool.not_eq_true', Bool.not_eq_false', beq_iff_eq, Bool.and_eq_true, Bool.or_eq_true] at ht1
    refine wp_seq_k fun K1 hK1 => ?_
    refine wp_seq_k fun K2 hK2 => ?_
    refine wp_region_lit ?_
    refine one fun C hC => val hE3 (R.move hE3 rfl) rfl fun a4 hE4 => hC _ _ ?_
    clear hC C
    clear hE3 a3
    refine one fun C hC => val hE4 (R.assertOk hE4 (by intro w; kernel_rfl) rfl) rfl fun a5 hE5 => hC _ _ ?_
    clear hC C
    clear hE4 a4
    refine one fun C hC => val hE5 (R.move hE5 rfl) rfl fun a6 hE6 => hC _ _ ?_
    clear hC C
    clear hE5 a5
    refine one fun C hC => val hE6 (R.ext hE6 rfl rfl) rfl fun a7 hE7 => hC _ _ ?_
    clear hC C
    clear hE6 a6
    refine one fun C hC => val hE7 (R.ext hE7 rfl rfl) rfl fun a8 hE8 => hC _ _ ?_
    clear hC C
    clear hE7 a7
    refine one fun C hC => alloc hE8 hM0 _ al_47 [] rfl rfl  fun b4 a9 w1 hE9 hM1 => hC _ _ ?_
    clear hC C hE8 hM0 a8
    refine one fun C hC => storeAgg hE9 hM1 ss_47 rfl rfl rfl rfl rfl  fun  a10 w2 hE10 hM2 => hC _ _ ?_
    clear hC C hE9 hM1 a9
    try simp only [setSeg, List.set_cons_zero, List.set_cons_succ, Nat.zero_add, Nat.reduceAdd] at hM2
    refine one fun C hC => val hE10 (R.assign hE10 rfl) rfl fun a11 hE11 => hC _ _ ?_
    clear hC C
    clear hE10 a10
    refine wpList_nil (hK2 _ _ ?_)
    clear hK2 K2
    replace hE11 := hE11.keep (E' := [(0, _), (1, _), (2, _), (3, _), (5, _), (8, _)]) ⟨rfl, rfl, rfl, rfl, rfl, rfl, trivial⟩
    refine wp_seq_k fun K3 hK3 => ?_
    refine wp_region_lit ?_
    refine one fun C hC => val hE11 (R.move hE11 rfl) rfl fun a12 hE12 => hC _ _ ?_
    clear hC C
    clear hE11 a11
    refine one fun C hC => val hE12 (R.not hE12 rfl) rfl fun a13 hE13 => hC _ _ ?_
    clear hC C
    clear hE12 a12
    refine wpList_nil (hK3 _ _ ?_)
    clear hK3 K3
    replace hE13 := hE13.keep (E' := [(0, _), (1, _), (2, _), (3, _), (5, _), (8, _), (15, _)]) ⟨rfl, rfl, rfl, rfl, rfl, rfl, rfl, trivial⟩
    refine condR hE13 rfl ?_ ?_
    · intro hb2
      have ht2 := hb2
      try simp only [decide_eq_true_eq, decide_eq_false_iff_not, Bool.not_eq_true', Bool.not_eq_false', beq_iff_eq, Bool.and_eq_true, Bool.or_eq_true] at ht2
      exact absurd hb2 (by simp)
    · intro hb2
      have ht2 := hb2
      try simp only [decide_eq_true_eq, decide_eq_false_iff_not, Bool.not_eq_true', Bool.not_eq_false', beq_iff_eq, Bool.and_eq_true, Bool.or_eq_true] at ht2
      refine wp_skip (hK1 _ _ ?_)
      refine wp_region_lit ?_
      refine one fun C hC => store hE13 hM2 sc_35 rfl rfl rfl rfl  fun  a14 w3 hE14 hM3 => hC _ _ ?_
      clear hC C hE13 hM2 a13
      try simp only [List.set_cons_zero, List.set_cons_succ, Nat.zero_add] at hM3
      refine one fun C hC => store hE14 hM3 sc_26 rfl rfl rfl rfl  fun  a15 w4 hE15 hM4 => hC _ _ ?_
      clear hC C hE14 hM3 a14
      try simp only [List.set_cons_zero, List.set_cons_succ, Nat.zero_add] at hM4
      refine one fun C hC => store hE15 hM4 sc_28 rfl rfl rfl rfl  fun  a16 w5 hE16 hM5 => hC _ _ ?_
      clear hC C hE15 hM4 a15
      try simp only [List.set_cons_zero, List.set_cons_succ, Nat.zero_add] at hM5
      replace hE16 := hE16.keep (E' := [(0, _), (1, _), (2, _), (3, _), (5, _), (8, _), (15, _)]) ⟨rfl, rfl, rfl, rfl, rfl, rfl, rfl, trivial⟩
      refine wpList_nil (?_)
      exact ⟨hE16.defers, _, rfl, _, results_none rfl _ _ _, rfl, rfl, (hM5.cutB b4).cast (by ac_rfl)⟩
  · intro hb1
    have ht1 := hb1
    try simp only [decide_eq_true_eq, decide_eq_false_iff_not, Bool.not_eq_true', Bool.not_eq_false', beq_iff_eq, Bool.and_eq_true, Bool.or_eq_true] at ht1
    exact absurd hb1 (by simp)
/-- The same, where nothing was rejected. -/
theorem tokens1_idle (c2 c3 c4 : Nat) {β : Base} {w0 : World} {H : HProp} (hM0 : Mem β w0 H) :
    CallsD Tryd.prog 9 #[.pointer (some ⟨c2, 0, none⟩), .pointer (some ⟨c3, 0, none⟩), .pointer (some ⟨c4, 0, none⟩)] .returning w0 fun e u' w' => e = .returned (.tuple #[]) ∧ u' = .returning ∧ Mem β w' H := by
  refine callsD_of_wpS Tryd.func9 rfl fun c₀ cs hu => ?_
  have hE0 := Env.args [.pointer (some ⟨c2, 0, none⟩), .pointer (some ⟨c3, 0, none⟩), .pointer (some ⟨c4, 0, none⟩)] 17 (by rfl)
  apply wpS_seq
  refine recoverR (v := .nilIface) (cs' := c₀ :: cs) hE0 rfl rfl (by simp [recoverD, hu]) fun a1 hE1 => ?_
  replace hE1 := hE1.keep (E' := [(0, _), (1, _), (2, _), (3, _)]) ⟨rfl, rfl, rfl, rfl, trivial⟩
  refine wpS_of_wp ?_
  refine wp_seq_k fun K0 hK0 => ?_
  refine wp_region_lit ?_
  refine one fun C hC => val hE1 (R.move hE1 rfl) rfl fun a2 hE2 => hC _ _ ?_
  clear hC C
  clear hE1 a1
  refine one fun C hC => val hE2 (R.neqNilNil hE2 (by rfl) rfl) rfl fun a3 hE3 => hC _ _ ?_
  clear hC C
  clear hE2 a2
  refine wpList_nil (hK0 _ _ ?_)
  clear hK0 K0
  replace hE3 := hE3.keep (E' := [(0, _), (1, _), (2, _), (3, _), (8, _)]) ⟨rfl, rfl, rfl, rfl, rfl, trivial⟩
  refine condR hE3 rfl ?_ ?_
  · intro hb1
    have ht1 := hb1
    try simp only [decide_eq_true_eq, decide_eq_false_iff_not, Bool.not_eq_true', Bool.not_eq_false', beq_iff_eq, Bool.and_eq_true, Bool.or_eq_true] at ht1
    exact absurd hb1 (by simp)
  · intro hb1
    have ht1 := hb1
    try simp only [decide_eq_true_eq, decide_eq_false_iff_not, Bool.not_eq_true', Bool.not_eq_false', beq_iff_eq, Bool.and_eq_true, Bool.or_eq_true] at ht1
    refine wp_skip (?_)
    exact ⟨hE3.defers, _, by cases c₀; simp_all, _, results_none rfl _ _ _, rfl, rfl, hM0⟩
theorem run_k (G : HProp) (hA : AscG G) (hW : WinG G) (b : Nat) (S : M) (hR : ROk (4 * S.inp.length + 8) 0 S) (hO : S.Ok 200) : Fo Tryd.prog rej 11 [.pointer (some ⟨b, 0, none⟩)] (star (mach none b S) G) S.run (fun _ => .tuple #[]) (fun y => star (mach none b y) G) G :=
  run_c G (in_c G hA) (fun b S a V h => reference_c G hW b S a h) M.reference_ok M.reference_pos containsRune_c b S hR hO
def M.init (l : List Int) : M := ⟨l, 0, [], [], [], .empty, ⟨0, .empty, .empty, [], false⟩, [], [], [], false, false, false, 0, false⟩
theorem init_ok {l : List Int} (hn : l.length ≤ 2097152) (hr : ∀ x ∈ l, 0 ≤ x ∧ x ≤ 1114111) (c : Nat) (hc : c ≤ 240) : (M.init l).Ok c := ⟨Nat.zero_le _, hn, hr, by simp [M.sz, M.init]; omega⟩
theorem init_rok {l : List Int} (hn : l.length ≤ 2097152) (hr : ∀ x ∈ l, 0 ≤ x ∧ x ≤ 1114111) : ROk (4 * (M.init l).inp.length + 8) 0 (M.init l) :=
  ⟨.inl rfl, init_ok hn hr 200 (by omega), fun h => absurd rfl h, fun h => absurd h (by decide), by simp only [M.init]; (try simp); try omega, .inl rfl⟩
theorem streamOf_rng (t : ByteArray) : ∀ x ∈ streamOf t, 0 ≤ x ∧ x ≤ 1114111 := by
  intro x hx
  unfold streamOf at hx
  obtain ⟨y, hy, rfl⟩ := List.mem_map.1 hx
  unfold bytesInts at hy
  obtain ⟨c, _, rfl⟩ := List.mem_map.1 hy
  have := c.toNat_lt
  unfold crFix
  split <;> omega
/-- What standard.Tokens hands back, the machine being S at first. -/
def TokR (G : HProp) (S : M) (v : Value) : HProp :=
  match S.run with
  | none => star (fact (v = .tuple #[.slice none 0 0, .slice none 0 0, .int .i64 220])) G
  | some y => any fun x : MRep => star (fact (x.tks.map (·.t) = y.toks ∧ v = .tuple #[.slice x.tkA x.tks.length x.tkC, .slice x.fA y.faults.length x.fC, .int .i64 0])) (star (row 43 8 encTok x.tkA x.tkC x.tks) (star (attrsOf 45 x.tks) (star (row 24 1 (encInt .i64) x.fA x.fC y.faults) G)))
attribute [local irreducible] M.run

set_option maxHeartbeats 4000000 in
theorem tokens_ascii (G : HProp) (hX : MaxG G) (hAG : AscG G) (hW : WinG G) (s t : ByteArray) (hA0 : ascii s) (hs : s.size ≤ 2000000) (hlen : s.size + Lib.countB s ⟨#[13, 10]⟩ * 1 ≤ 140737488355328) (ht : (⟨(Lib.replaceAll s.data.toList [13, 10] [10]).toArray⟩ : ByteArray) = t) (hA : ascii t) (hts : t.size ≤ 2000000) :
    Spec Tryd.prog 8 [.string s] G (TokR G (M.init (streamOf t))) := by
  intro β w0 F0 hM0
  refine enterD Tryd.func8 (by rfl) 21 rfl rfl fun a0 hE0 => ?_
  refine wp_seq_k fun K0 hK0 => ?_
  refine wp_region_lit ?_
  refine one fun C hC => alloc hE0 hM0 _ al_35 [.slice none 0 0] rfl rfl  fun b2 a1 w1 hE1 hM1 => hC _ _ ?_
  clear hC C hE0 hM0 a0
  refine one fun C hC => alloc hE1 hM1 _ al_26 [.slice none 0 0] rfl rfl  fun b3 a2 w2 hE2 hM2 => hC _ _ ?_
  clear hC C hE1 hM1 a1
  refine one fun C hC => alloc hE2 hM2 _ al_28 [.int .i64 0] rfl rfl  fun b4 a3 w3 hE3 hM3 => hC _ _ ?_
  clear hC C hE2 hM2 a2
  refine wpList_nil (hK0 _ _ ?_)
  clear hK0 K0
  replace hE3 := hE3.keep (E' := [(0, _), (2, _), (3, _), (4, _)]) ⟨rfl, rfl, rfl, rfl, trivial⟩
  refine wp_seq_k fun K1 hK1 => ?_
  refine wp_region_lit ?_
  refine one fun C hC => val hE3 (R.mkClo hE3 rfl) rfl fun a4 hE4 => hC _ _ ?_
  clear hC C
  clear hE3 a3
  refine one fun C hC => deferR hE4 rfl fun a5 hE5 => hC _ _ ?_
  clear hC C hE4 a4
  refine wpList_nil (hK1 _ _ ?_)
  clear hK1 K1
  replace hE5 := hE5.keep (E' := [(0, _), (2, _), (3, _), (4, _)]) ⟨rfl, rfl, rfl, rfl, trivial⟩
  refine wp_seq_k fun K2 hK2 => ?_
  refine wp_region_lit ?_
  refine one fun C hC => val hE5 (R.move hE5 rfl) rfl fun a6 hE6 => hC _ _ ?_
  clear hC C
  clear hE5 a5
  refine one fun C hC => callX hE6 (stream_ascii G hX s t hA0 hs hlen ht hA hts) cb_10 rfl (hM3.split (FindA.out (A := G))) rfl  fun q a7 w4 hE7 hM4 => hC _ _ ?_
  clear hC C hE6 hM3 a6
  refine one fun C hC => val hE7 (R.build hE7 rfl (bd_53_0 _ _ _)) rfl fun a8 hE8 => hC _ _ ?_
  clear hC C
  clear hE7 a7
  refine one fun C hC => box hE8 hM4 rfl [.slice q.1 (streamOf t).length q.2, .int .i64 0, .slice none 0 0, .slice none 0 0, .slice none 0 0, .string ByteArray.empty, .int .i64 0, .string ByteArray.empty, .string ByteArray.empty, .slice none 0 0, .bool false, .int .i64 0, .int .i64 0, .int .i64 0, .slice none 0 0, .slice none 0 0, .slice none 0 0, .bool false, .bool false, .bool false, .int .i32 0] rfl rfl  fun b10 a9 w5 hE9 hM5 => hC _ _ ?_
  clear hC C hE8 hM4 a8
  refine one fun C hC => val hE9 (R.assign hE9 rfl) rfl fun a10 hE10 => hC _ _ ?_
  clear hC C
  clear hE9 a9
  refine wpList_nil (hK2 _ _ ?_)
  clear hK2 K2
  replace hE10 := hE10.keep (E' := [(0, _), (2, _), (3, _), (4, _), (5, _)]) ⟨rfl, rfl, rfl, rfl, rfl, trivial⟩
  refine wp_seq_k fun K3 hK3 => ?_
  have hM6 := hM5.row_nil 43 8 encTok none
  clear hM5
  have hM7 := hM6.row_nil 24 1 (encInt .i64) none
  clear hM6
  have hM8 := hM7.row_nil 21 1 rune none
  clear hM7
  have hM9 := hM8.row_nil 45 2 encAttr none
  clear hM8
  have hM10 := hM9.row_nil 21 1 rune none
  clear hM9
  have hM11 := hM10.row_nil 21 1 rune none
  clear hM10
  have hM12 := hM11.row_nil 21 1 rune none
  clear hM11
  have hM13 : Mem β _ (star (mach none b10 (M.init (streamOf t))) (star G (star (pts b2 35 [.slice none 0 0]) (star (pts b3 26 [.slice none 0 0]) (star (pts b4 28 [.int .i64 0]) F0))))) := machAt.closeT (T := 53) (R := 21) (K := 43) (L := 24) (A := 45) (V := none) (b := b10) (S := M.init (streamOf t)) rfl ⟨q.1, q.2, none, 0, [], none, 0, none, 0, none, 0, 0, none, 0, none, 0, none, 0⟩ rfl trivial (by simp only [M.init, attrsOf_nil, emp_star]; exact hM12.cast (by ac_rfl))
  clear hM12
  refine wp_region_lit ?_
  refine one fun C hC => val hE10 (R.move hE10 rfl) rfl fun a11 hE11 => hC _ _ ?_
  clear hC C
  clear hE10 a10
  refine one fun C hC => callO hE11 (run_k G hAG hW b10 (M.init (streamOf t)) (init_rok (by rw [streamOf_len]; omega) (streamOf_rng t)) (init_ok (by rw [streamOf_len]; omega) (streamOf_rng t) 200 (by omega))) cb_11 rfl (hM13.cast (star_assoc _ _ _).symm) rfl ?_ ?_
  · intro hy w14 hM14
    show Leaves Tryd.prog Tryd.f8 _ _ _ (.panicking rej) _
    rw [hE11.defers]
    refine leaves_cons (f := 9) (args := #[.pointer (some ⟨b2, 0, none⟩), .pointer (some ⟨b3, 0, none⟩), .pointer (some ⟨b4, 0, none⟩)]) (by simp) (by simp [invoke, callB_spec cb_9]) ?_
    refine (tokens1_panic b2 b3 b4 _ _ _ [] (hM14.cast (show _ = star (pts b2 35 [.slice none 0 0]) (star (pts b3 26 [.slice none 0 0]) (star (pts b4 28 [.int .i64 0]) (star G F0))) from by ac_rfl))).mono ?_
    rintro e u w9 ⟨rfl, rfl, hm⟩
    replace hm := hm.cast (show _ = star (pts b2 35 [.slice none 0 0]) (star (pts b3 26 [.slice none 0 0]) (star (pts b4 28 [.int .i64 220]) (star G F0))) from by ac_rfl)
    refine ⟨_, results_cells3 hE11 rfl rfl rfl rfl sc_35 sc_26 sc_28 hm, _, rfl, ?_⟩
    unfold TokR; rw [hy]; exact (Mem.mkFact rfl hm.drop.drop.drop).cast (star_assoc _ _ _).symm
  intro y hy a12 w14 hE12 hM14
  refine hC _ _ ?_
  clear hC C hE11 hM13 a11
  refine wpList_nil (hK3 _ _ ?_)
  clear hK3 K3
  replace hE12 := hE12.keep (E' := [(0, _), (2, _), (3, _), (4, _), (5, _)]) ⟨rfl, rfl, rfl, rfl, rfl, trivial⟩
  refine wp_seq_k fun K4 hK4 => ?_
  obtain ⟨x, hk, hV, hM15⟩ := machAt.open_ (hM14.cast (star_assoc _ _ _))
  clear hM14
  refine wp_mono (Q' := fun e a w => e = .normal ∧ K4 a w) ?_ (by rintro e a w ⟨rfl, h⟩; exact h)
  have hcell : _ ∧ _ := ⟨hM15.at (b := b10) 2 rfl, hM15.at (b := b10) 3 rfl⟩
  refine planR [9, 10] [(0, 1), (1, 1), (2, 1), (3, 0), (4, 1), (5, 1), (6, 1), (7, 0), (8, 2), (9, 2), (10, 2)] mix (by kernel_rfl) hM15 (fun w2 => w2.cell? ⟨b10, 2, none⟩ = some (.slice x.tkA x.tks.length x.tkC) ∧ w2.cell? ⟨b10, 3, none⟩ = some (.slice x.fA y.faults.length x.fC)) (fun c a a2 w hd hh => absurd hh.1 (by simp)) fun w16 hM16 C0 hC0 => ?_
  clear hM15 hcell
  refine pPure rfl hE12 (fun _ => by exact R.move hE12 rfl) rfl fun a13 hE13 => ?_
  clear hE12 a12
  refine pPure rfl hE13 (fun _ => by exact R.nil hE13 rfl) rfl fun a14 hE14 => ?_
  clear hE13 a13
  refine pPure rfl hE14 (fun _ => by exact R.fieldAddr hE14 53 2 2 fb_53_2 rfl) rfl fun a15 hE15 => ?_
  clear hE14 a14
  refine pTake rfl hE15 (fun _ hW => by exact R.loadCell hE15 sc_35 rfl hW.1) rfl ⟨hM16.at (b := b10) 2 rfl, hM16.at (b := b10) 3 rfl⟩ fun a16 hE16 => ?_
  clear hE15 a15
  refine pPure rfl hE16 (fun _ => by exact R.move hE16 rfl) rfl fun a17 hE17 => ?_
  clear hE16 a16
  refine pPure rfl hE17 (fun _ => by exact R.nil hE17 rfl) rfl fun a18 hE18 => ?_
  clear hE17 a17
  refine pPure rfl hE18 (fun _ => by exact R.fieldAddr hE18 53 3 3 fb_53_3 rfl) rfl fun a19 hE19 => ?_
  clear hE18 a18
  refine pTake rfl hE19 (fun _ hW => by exact R.loadCell hE19 sc_26 rfl hW.2) rfl ⟨hM16.at (b := b10) 2 rfl, hM16.at (b := b10) 3 rfl⟩ fun a20 hE20 => ?_
  clear hE19 a19
  refine pOneS rfl fun C hC => store hE20 hM16 sc_35 rfl rfl rfl rfl fun a21 w17 hE21 hM17 => hC _ _ ⟨hM17.at (b := b10) 2 rfl, hM17.at (b := b10) 3 rfl⟩ ?_
  clear hC C hE20 hM16 a20
  try simp only [List.set_cons_zero, List.set_cons_succ, Nat.zero_add] at hM17
  refine pOne rfl rfl fun C hC => store hE21 hM17 sc_26 rfl rfl rfl rfl fun a22 w18 hE22 hM18 => hC _ _ ?_
  clear hC C hE21 hM17 a21
  try simp only [List.set_cons_zero, List.set_cons_succ, Nat.zero_add] at hM18
  refine pOne rfl rfl fun C hC => store hE22 hM18 sc_28 rfl rfl rfl rfl fun a23 w19 hE23 hM19 => hC _ _ ?_
  clear hC C hE22 hM18 a22
  try simp only [List.set_cons_zero, List.set_cons_succ, Nat.zero_add] at hM19
  refine pNil (hC0 _ _ ?_)
  clear hC0 C0
  refine ⟨rfl, hK4 _ _ ?_⟩
  clear hK4 K4
  replace hE23 := hE23.keep (E' := [(0, _), (2, _), (3, _), (4, _), (5, _)]) ⟨rfl, rfl, rfl, rfl, rfl, trivial⟩
  refine wp_ret (?_)
  show Leaves Tryd.prog Tryd.f8 _ _ _ .returning _
  rw [hE23.defers]
  refine leaves_cons (f := 9) (args := #[.pointer (some ⟨b2, 0, none⟩), .pointer (some ⟨b3, 0, none⟩), .pointer (some ⟨b4, 0, none⟩)]) (by simp) (by simp [invoke, callB_spec cb_9]) ?_
  refine (tokens1_idle b2 b3 b4 hM19).mono ?_
  rintro e u w9 ⟨rfl, rfl, hm⟩
  replace hm := hm.cutB b10
  replace hm := hm.cut (row 21 1 rune x.inA x.inC y.inp)
  replace hm := hm.cut (row 21 1 rune x.tA x.tC y.text)
  replace hm := hm.cut (tagAt 45 y.stale x.gA x.gN x.gC y.tag.attrs)
  replace hm := hm.cut (row 21 1 rune x.nA x.nC y.name)
  replace hm := hm.cut (row 21 1 rune x.aA x.aC y.attr)
  replace hm := hm.cut (row 21 1 rune x.vA x.vC y.value)
  replace hm := hm.cast (show _ = star (pts b2 35 [.slice x.tkA x.tks.length x.tkC]) (star (pts b3 26 [.slice x.fA y.faults.length x.fC]) (star (pts b4 28 [.int .i64 0]) (star (star (row 43 8 encTok x.tkA x.tkC x.tks) (star (attrsOf 45 x.tks) (star (row 24 1 (encInt .i64) x.fA x.fC y.faults) G))) F0))) from by ac_rfl)
  refine ⟨_, results_cells3 hE23 rfl rfl rfl rfl sc_35 sc_26 sc_28 hm, _, rfl, ?_⟩
  unfold TokR; rw [hy]; exact Mem.mkAny x ((Mem.mkFact ⟨hk, rfl⟩ hm.drop.drop.drop).cast (star_assoc _ _ _).symm)
end Go.Sv
