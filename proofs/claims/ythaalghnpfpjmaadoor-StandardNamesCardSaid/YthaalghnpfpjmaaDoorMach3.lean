import Derived.Test.YthaalghnpfpjmaaDoorProg
import Derived.Test.YthaalghnpfpjmaaDoorMach2
set_option linter.all false
set_option linter.unusedVariables false
set_option linter.unusedSimpArgs false
set_option maxRecDepth 100000
namespace Go.Sv
open Go.RowKit Go.Proofs
attribute [local irreducible] row pts star blk emp fact any attrsOf machAt tagAt

namespace FMach3
theorem bd_47 : ∀ w, (Instr.build 47 [].toArray).run Tryd.prog w = .ok (.agg [].toArray) w := by
  intros
  exact run_build _ 47 _ _ (by kernel_rfl)
theorem cb_15 : callB Tryd.prog 15 = true := by kernel_rfl
theorem cb_20 : callB Tryd.prog 20 = true := by kernel_rfl
theorem cb_40 : callB Tryd.prog 40 = true := by kernel_rfl
theorem cb_70 : callB Tryd.prog 70 = true := by kernel_rfl
theorem co_47 : concB Tryd.prog 47 = true := by kernel_rfl
theorem el_35 : elemB Tryd.prog 35 43 8 96 = true := by kernel_rfl
theorem fb_43_0 : fieldB Tryd.prog 43 0 0 = true := by kernel_rfl
theorem fb_43_1 : fieldB Tryd.prog 43 1 1 = true := by kernel_rfl
theorem fb_43_3 : fieldB Tryd.prog 43 3 3 = true := by kernel_rfl
theorem fb_43_4 : fieldB Tryd.prog 43 4 4 = true := by kernel_rfl
theorem fb_53_12 : fieldB Tryd.prog 53 12 19 = true := by kernel_rfl
theorem fb_53_2 : fieldB Tryd.prog 53 2 2 = true := by kernel_rfl
theorem fb_53_5 : fieldB Tryd.prog 53 5 5 = true := by kernel_rfl
theorem fb_53_6 : fieldB Tryd.prog 53 6 6 = true := by kernel_rfl
theorem fb_53_7 : fieldB Tryd.prog 53 7 14 = true := by kernel_rfl
theorem mix : Tryd.prog.follows .mixedOrders = true := by kernel_rfl
theorem ru_50_9 : runesB Tryd.prog 50 9 21 = true := by kernel_rfl
theorem sc_35 : scalarB Tryd.prog 35 = true := by kernel_rfl
theorem sc_38 : scalarB Tryd.prog 38 = true := by kernel_rfl
theorem sc_39 : scalarB Tryd.prog 39 = true := by kernel_rfl
theorem sc_4 : scalarB Tryd.prog 4 = true := by kernel_rfl
theorem sc_50 : scalarB Tryd.prog 50 = true := by kernel_rfl
theorem sc_9 : scalarB Tryd.prog 9 = true := by kernel_rfl
theorem sl_39 : sliceB Tryd.prog 39 45 2 = true := by kernel_rfl
theorem ss_43 : structB Tryd.prog 43 8 = true := by kernel_rfl
end FMach3
open FMach3

/-- How a text that is outside ends the reading. -/
abbrev rej : List PanicEntry := [{ v := .iface 47 (.agg #[]), recovered := false }]
def isAny (n : ByteArray) (l : List String) : Bool := l.any fun s => s.toUTF8.data.toList == n.data.toList
def inRcdata (n : ByteArray) : Bool := isAny n ["textarea", "title"]
def inRaw (n : ByteArray) : Bool := isAny n ["iframe", "noembed", "noframes", "noscript", "style", "xmp"]
def inSet (k : Int) (n : ByteArray) : Bool := if k = 2 then inRcdata n else inRaw n
def isScript (n : ByteArray) : Bool := n.data.toList == [115, 99, 114, 105, 112, 116]
def isPlain (n : ByteArray) : Bool := n.data.toList == [112, 108, 97, 105, 110, 116, 101, 120, 116]
def M.titled (S : M) : M := { S with tag := { S.tag with name := runesBytes S.name, self := S.slash } }
def M.bared (S : M) : M := { S with tag := { S.tag with attrs := [], self := false } }
def M.ended1 (S : M) : M := if 0 < S.tag.attrs.length then S.fault 5 else S
def M.ended2 (S : M) : M := if S.slash = true then S.fault 6 else S
def M.ended (S : M) : M := S.ended1.ended2.bared
def M.push (S : M) : M := { S with toks := S.toks ++ [S.tag], rcdata := ByteArray.mk #[], stale := true }
def M.rest (S : M) : Option M :=
  if S.tag.kind = 2 then some S else
  if inSet 2 S.tag.name then some { S with rcdata := S.tag.name } else
  if inSet 3 S.tag.name || isScript S.tag.name || isPlain S.tag.name then none else some S
def M.mid (S : M) : M := if S.tag.kind = 2 then S.ended else S
def M.told (S : M) : Option M := S.keep.titled.mid.flush.push.rest
def M.edge (S : M) (r : Int) : Option (Int × M) :=
  if blankB r then some (1, S) else if r = 47 then some (3, S) else
  if r = 62 then S.told.map fun T => (4, T) else
  if r = -1 then some (5, (S.fault 8).flush) else some (0, { S with last := r })
section
variable (G : HProp) (hIn : ∀ (n : ByteArray) (k : Int), k = 2 ∨ k = 3 → Fm Tryd.prog 70 [.string n, .int .i64 k] G (.bool (inSet k n)) G)
theorem inSet_2 (n : ByteArray) : inSet 2 n = inRcdata n := rfl
theorem inSet_3 (n : ByteArray) : inSet 3 n = inRaw n := rfl
attribute [local irreducible] inSet inRcdata inRaw isScript isPlain isAny runesBytes M.keep M.flush M.read

set_option maxHeartbeats 4000000 in
include hIn in
theorem told_c (b : Nat) (S : M) (hs : S.stale = false)  (hO : S.Ok 8) : Fo Tryd.prog rej 56 [.pointer (some ⟨b, 0, none⟩)] (star (mach none b S) G) (S.told) (fun y => (.tuple #[])) (fun y => star (mach none b y) G) G := by
  intro β w0 F0 hM0
  replace hM0 := hM0.cast (star_assoc _ _ _)
  obtain ⟨x, hk, hV, hM1⟩ := machAt.openT hs hM0
  clear hM0
  rename Mem _ _ _ => hM0
  refine enterO Tryd.func56 (by rfl) 96 rfl rfl fun a0 Q hE0 hQ hN hP hX => ?_
  have hp0 := hO.p
  have hn0 := hO.n
  have hs0 := hO.s
  simp only [M.sz] at hs0
  refine wp_seq_k fun K0 hK0 => ?_
  refine wp_region_lit ?_
  refine one fun C hC => val hE0 (R.move hE0 rfl) rfl fun a1 hE1 => hC _ _ ?_
  clear hC C
  clear hE0 a0
  refine one fun C hC => callM hE1 (keep_c b S (by first | rfl | assumption | ((try dsimp only); (try simp only [M.read_st, M.fault_st, M.say_st, M.begin_st, M.flush_st, M.keep_st, M.leave_st, M.again_st, M.first_st]); first | rfl | assumption)) hO.g) cb_40 rfl (machAt.closeT (T := 53) (R := 21) (K := 43) (L := 24) (A := 45) (V := none) (b := b) (S := S) (F := star G F0) (by first | rfl | assumption | ((try dsimp only); (try simp only [M.read_st, M.fault_st, M.say_st, M.begin_st, M.flush_st, M.keep_st, M.leave_st, M.again_st, M.first_st]); first | rfl | assumption)) x hk trivial (by (try dsimp only); (try simp only [List.length_nil, attrsOf_snoc, tagAt_true]); (try simp only [emp_star, star_emp]); exact hM0.cast (by ac_rfl))) rfl fun  a2 w1 hE2 hM1 => hC _ _ ?_
  clear hC C hE1 hM0 a1
  have hO1 := hO.keep (d := 7) (by omega)
  have hp1 := hO1.p
  have hn1 := hO1.n
  refine wpList_nil (hK0 _ _ ?_)
  clear hK0 K0
  replace hE2 := hE2.keep (E' := [(0, _)]) ⟨rfl, trivial⟩
  refine wp_seq_k fun K1 hK1 => ?_
  obtain ⟨x1, hk1, hV1, hM2⟩ := machAt.openT (by first | rfl | assumption | ((try dsimp only); (try simp only [M.read_st, M.fault_st, M.say_st, M.begin_st, M.flush_st, M.keep_st, M.leave_st, M.again_st, M.first_st]); first | rfl | assumption)) hM1
  try dsimp only at hM2 hk1
  clear hM1
  have hZ1 := hO1.ls
  try dsimp only at hZ1
  have htk1 : x1.tks.length < 1000000000 := by rw [← List.length_map (f := fun x : TokV => x.t), hk1]; exact hO1.t
  refine planM [14, 18] [(0, 1), (1, 1), (2, 1), (3, 1), (4, 1), (7, 1), (8, 1), (9, 1), (5, 0), (6, 0), (10, 0), (11, 1), (12, 1), (13, 1), (14, 2), (15, 1), (16, 1), (17, 1), (18, 2)] mix (by kernel_rfl) hM2 (fun c a a2 w hd => hP c a a2 w hd) fun w3 hM3 C0 hC0 => ?_
  clear hM2
  refine pPure rfl hE2 (fun _ => by exact R.move hE2 rfl) rfl fun a3 hE3 => ?_
  clear hE2 a2
  refine pPure rfl hE3 (fun _ => by exact R.move hE3 rfl) rfl fun a4 hE4 => ?_
  clear hE3 a3
  refine pPure rfl hE4 (fun _ => by exact R.move hE4 rfl) rfl fun a5 hE5 => ?_
  clear hE4 a4
  refine pPure rfl hE5 (fun _ => by exact R.nil hE5 rfl) rfl fun a6 hE6 => ?_
  clear hE5 a5
  refine pPure rfl hE6 (fun _ => by exact R.fieldAddr hE6 53 7 14 fb_53_7 rfl) rfl fun a7 hE7 => ?_
  clear hE6 a6
  refine pPure rfl hE7 (fun _ => by exact R.move hE7 rfl) rfl fun a8 hE8 => ?_
  clear hE7 a7
  refine pPure rfl hE8 (fun _ => by exact R.nil hE8 rfl) rfl fun a9 hE9 => ?_
  clear hE8 a8
  refine pPure rfl hE9 (fun _ => by exact R.fieldAddr hE9 53 12 19 fb_53_12 rfl) rfl fun a10 hE10 => ?_
  clear hE9 a9
  refine pTake rfl hE10 (fun _ hW => by exact R.load hE10 sc_50 rfl hW (by rfl)) rfl hM3 fun a11 hE11 => ?_
  clear hE10 a10
  refine pTake rfl hE11 (fun _ hW => by exact R.runes hE11 21 ru_50_9 rfl hW rfl) rfl hM3 fun a12 hE12 => ?_
  clear hE11 a11
  refine pTake rfl hE12 (fun _ hW => by exact R.load hE12 sc_4 rfl hW (by rfl)) rfl hM3 fun a13 hE13 => ?_
  clear hE12 a12
  refine pPure rfl hE13 (fun _ => by exact R.nil hE13 rfl) rfl fun a14 hE14 => ?_
  clear hE13 a13
  refine pPure rfl hE14 (fun _ => by exact R.fieldAddr hE14 53 6 6 fb_53_6 rfl) rfl fun a15 hE15 => ?_
  clear hE14 a14
  refine pPure rfl hE15 (fun _ => by exact R.fieldAddr hE15 43 1 1 fb_43_1 rfl) rfl fun a16 hE16 => ?_
  clear hE15 a15
  refine pOne rfl rfl fun C hC => store hE16 hM3 sc_9 rfl rfl rfl rfl  fun  a17 w4 hE17 hM4 => hC _ _ ?_
  clear hC C hE16 hM3 a16
  try simp only [List.set_cons_zero, List.set_cons_succ, Nat.zero_add] at hM4
  refine pPure rfl hE17 (fun _ => by exact R.nil hE17 rfl) rfl fun a18 hE18 => ?_
  clear hE17 a17
  refine pPure rfl hE18 (fun _ => by exact R.fieldAddr hE18 53 6 6 fb_53_6 rfl) rfl fun a19 hE19 => ?_
  clear hE18 a18
  refine pPure rfl hE19 (fun _ => by exact R.fieldAddr hE19 43 4 4 fb_43_4 rfl) rfl fun a20 hE20 => ?_
  clear hE19 a19
  refine pOne rfl rfl fun C hC => store hE20 hM4 sc_4 rfl rfl rfl rfl  fun  a21 w5 hE21 hM5 => hC _ _ ?_
  clear hC C hE20 hM4 a20
  try simp only [List.set_cons_zero, List.set_cons_succ, Nat.zero_add] at hM5
  refine pNil (hC0 _ _ ?_)
  clear hC0 C0
  refine hK1 _ _ ?_
  clear hK1 K1
  replace hE21 := hE21.keep (E' := [(0, _)]) ⟨rfl, trivial⟩
  refine wp_seq_k fun K2 hK2 => ?_
  have hJ2 : ∀ a w, Env 96 [] a [(0, .pointer (some ⟨b, 0, none⟩))] → Mem β w (star (mach none b S.keep.titled.mid) (star G F0)) → M.Ok S.keep.titled.mid 5 → S.keep.titled.mid.stale = false → K2 a w := by
    intro a121 w105 hE121 hM105 hO101 hs
    refine hK2 _ _ ?_
    clear hK2
    refine wp_seq_k fun K3 hK3 => ?_
    refine wp_region_lit ?_
    refine one fun C hC => val hE121 (R.move hE121 rfl) rfl fun a122 hE122 => hC _ _ ?_
    clear hC C
    clear hE121 a121
    refine one fun C hC => callM hE122 (flush_c b S.keep.titled.mid hO101.t) cb_15 rfl hM105 rfl fun  a123 w106 hE123 hM106 => hC _ _ ?_
    clear hC C hE122 hM105 a122
    have hO102 := hO101.flush
    have hp102 := hO102.p
    have hn102 := hO102.n
    refine wpList_nil (hK3 _ _ ?_)
    clear hK3 K3
    replace hE123 := hE123.keep (E' := [(0, _)]) ⟨rfl, trivial⟩
    refine wp_seq_k fun K4 hK4 => ?_
    obtain ⟨x2, hk2, hV2, hM107⟩ := machAt.openT (by first | rfl | assumption | ((try dsimp only); (try simp only [M.read_st, M.fault_st, M.say_st, M.begin_st, M.flush_st, M.keep_st, M.leave_st, M.again_st, M.first_st]); first | rfl | assumption)) hM106
    try dsimp only at hM107 hk2
    clear hM106
    have hZ2 := hO102.ls
    try dsimp only at hZ2
    have htk2 : x2.tks.length < 1000000000 := by rw [← List.length_map (f := fun x : TokV => x.t), hk2]; exact hO102.t
    refine planM [10, 13] [(0, 1), (1, 1), (2, 1), (3, 1), (5, 1), (6, 1), (7, 1), (4, 0), (8, 0), (9, 2), (10, 2), (11, 1), (12, 1), (13, 2)] mix (by kernel_rfl) hM107 (fun c a a2 w hd => hP c a a2 w hd) fun w108 hM108 C0 hC0 => ?_
    clear hM107
    refine pPure rfl hE123 (fun _ => by exact R.move hE123 rfl) rfl fun a124 hE124 => ?_
    clear hE123 a123
    refine pPure rfl hE124 (fun _ => by exact R.move hE124 rfl) rfl fun a125 hE125 => ?_
    clear hE124 a124
    refine pPure rfl hE125 (fun _ => by exact R.nil hE125 rfl) rfl fun a126 hE126 => ?_
    clear hE125 a125
    refine pPure rfl hE126 (fun _ => by exact R.fieldAddr hE126 53 2 2 fb_53_2 rfl) rfl fun a127 hE127 => ?_
    clear hE126 a126
    refine pPure rfl hE127 (fun _ => by exact R.move hE127 rfl) rfl fun a128 hE128 => ?_
    clear hE127 a127
    refine pPure rfl hE128 (fun _ => by exact R.nil hE128 rfl) rfl fun a129 hE129 => ?_
    clear hE128 a128
    refine pPure rfl hE129 (fun _ => by exact R.fieldAddr hE129 53 6 6 fb_53_6 rfl) rfl fun a130 hE130 => ?_
    clear hE129 a129
    refine pTake rfl hE130 (fun _ hW => by exact R.load hE130 sc_35 rfl hW (by rfl)) rfl hM108 fun a131 hE131 => ?_
    clear hE130 a130
    refine pTake rfl hE131 (fun _ hW => by exact R.loadAgg hE131 ss_43 rfl hW (by rfl) (by rfl)) rfl hM108 fun a132 hE132 => ?_
    clear hE131 a131
    refine pOneS rfl fun C hC => litA hE132 hM108 96 el_35 rfl rfl rfl rfl rfl  fun b62 a133 w109 hE133 hM109 => hC _ _ hM109.drop ?_
    clear hC C hE132 hM108 a132
    refine pOne rfl rfl fun C hC => appendL (xs := x2.tks) hE133 [(⟨S.keep.titled.mid.flush.tag, x2.gA, x2.gC⟩ : TokV)] el_35 rfl rfl hM109 rfl rfl rfl (by unfold maxLen; first | omega | (simp; done) | (simp; omega)) (by first | omega | (simp; done) | (simp; omega)) rfl fun A63 C63 a134 w110 hE134 hM110 => hC _ _ ?_
    clear hC C hE133 hM109 a133
    refine pPure rfl hE134 (fun _ => by exact R.nil hE134 rfl) rfl fun a135 hE135 => ?_
    clear hE134 a134
    refine pPure rfl hE135 (fun _ => by exact R.fieldAddr hE135 53 2 2 fb_53_2 rfl) rfl fun a136 hE136 => ?_
    clear hE135 a135
    refine pOne rfl rfl fun C hC => store hE136 hM110 sc_35 rfl rfl rfl rfl  fun  a137 w111 hE137 hM111 => hC _ _ ?_
    clear hC C hE136 hM110 a136
    try simp only [List.set_cons_zero, List.set_cons_succ, Nat.zero_add] at hM111
    have hk102 : List.map (fun x : TokV => x.t) (x2.tks ++ [(⟨S.keep.titled.mid.flush.tag, x2.gA, x2.gC⟩ : TokV)]) = S.keep.titled.mid.flush.toks ++ [S.keep.titled.mid.flush.tag] := by simp [hk2]
    refine pNil (hC0 _ _ ?_)
    clear hC0 C0
    refine hK4 _ _ ?_
    clear hK4 K4
    replace hE137 := hE137.keep (E' := [(0, _)]) ⟨rfl, trivial⟩
    refine wp_seq_k fun K5 hK5 => ?_
    refine wp_region_lit ?_
    refine one fun C hC => val hE137 (R.move hE137 rfl) rfl fun a138 hE138 => hC _ _ ?_
    clear hC C
    clear hE137 a137
    refine one fun C hC => val hE138 (R.nil hE138 rfl) rfl fun a139 hE139 => hC _ _ ?_
    clear hC C
    clear hE138 a138
    refine one fun C hC => val hE139 (R.fieldAddr hE139 53 5 5 fb_53_5 rfl) rfl fun a140 hE140 => hC _ _ ?_
    clear hC C
    clear hE139 a139
    refine one fun C hC => store hE140 hM111 sc_9 rfl rfl rfl rfl  fun  a141 w112 hE141 hM112 => hC _ _ ?_
    clear hC C hE140 hM111 a140
    try simp only [List.set_cons_zero, List.set_cons_succ, Nat.zero_add] at hM112
    refine wpList_nil (hK5 _ _ ?_)
    clear hK5 K5
    replace hE141 := hE141.keep (E' := [(0, _)]) ⟨rfl, trivial⟩
    refine wp_seq_k fun K6 hK6 => ?_
    refine wp_seq_k fun K7 hK7 => ?_
    refine wp_region_lit ?_
    refine one fun C hC => val hE141 (R.move hE141 rfl) rfl fun a142 hE142 => hC _ _ ?_
    clear hC C
    clear hE141 a141
    refine one fun C hC => val hE142 (R.nil hE142 rfl) rfl fun a143 hE143 => hC _ _ ?_
    clear hC C
    clear hE142 a142
    refine one fun C hC => val hE143 (R.fieldAddr hE143 53 6 6 fb_53_6 rfl) rfl fun a144 hE144 => hC _ _ ?_
    clear hC C
    clear hE143 a143
    refine one fun C hC => val hE144 (R.fieldAddr hE144 43 0 0 fb_43_0 rfl) rfl fun a145 hE145 => hC _ _ ?_
    clear hC C
    clear hE144 a144
    refine one fun C hC => val hE145 (R.load hE145 sc_38 rfl hM112 (by rfl)) rfl fun a146 hE146 => hC _ _ ?_
    clear hC C
    clear hE145 a145
    refine one fun C hC => val hE146 (R.eql hE146 rfl rfl) rfl fun a147 hE147 => hC _ _ ?_
    clear hC C
    clear hE146 a146
    refine wpList_nil (hK7 _ _ ?_)
    clear hK7 K7
    replace hE147 := hE147.keep (E' := [(0, _), (74, _)]) ⟨rfl, rfl, trivial⟩
    refine condR hE147 rfl ?_ ?_
    · intro hb1
      have ht1 := hb1
      try simp only [decide_eq_true_eq, decide_eq_false_iff_not, Bool.not_eq_true', Bool.not_eq_false', beq_iff_eq, Bool.and_eq_true, Bool.or_eq_true] at ht1
      refine wp_ret (hQ _ _ ?_)
      have hm := (machAt.close (T := 53) (R := 21) (K := 43) (L := 24) (A := 45) (V := none) (b := b) (S := { S.keep.titled.mid.flush with toks := S.keep.titled.mid.flush.toks ++ [S.keep.titled.mid.flush.tag], stale := true, rcdata := ByteArray.mk #[] }) (F := star G F0) { x2 with tkA := A63, tkC := C63, tks := x2.tks ++ [(⟨S.keep.titled.mid.flush.tag, x2.gA, x2.gC⟩ : TokV)], gN := S.keep.titled.mid.flush.tag.attrs.length } hk102 trivial (by (try dsimp only); (try simp only [List.length_nil, attrsOf_snoc, tagAt_true]); (try simp only [emp_star, star_emp]); exact hM112.cast (by ac_rfl)))
      refine back0 hE147 rfl (Mem.doneO ({ S.keep.titled.mid.flush with toks := S.keep.titled.mid.flush.toks ++ [S.keep.titled.mid.flush.tag], stale := true, rcdata := ByteArray.mk #[] }) ?_ rfl ?_)
      · simp [M.told, M.rest, M.push, isScript, isPlain, ht1]
      exact hm.cast (by ac_rfl)
    · intro hb1
      have ht1 := hb1
      try simp only [decide_eq_true_eq, decide_eq_false_iff_not, Bool.not_eq_true', Bool.not_eq_false', beq_iff_eq, Bool.and_eq_true, Bool.or_eq_true] at ht1
      refine wp_skip (hK6 _ _ ?_)
      refine wp_seq_k fun K8 hK8 => ?_
      refine wp_region_lit ?_
      refine one fun C hC => val hE147 (R.move hE147 rfl) rfl fun a148 hE148 => hC _ _ ?_
      clear hC C
      clear hE147 a147
      refine one fun C hC => val hE148 (R.nil hE148 rfl) rfl fun a149 hE149 => hC _ _ ?_
      clear hC C
      clear hE148 a148
      refine one fun C hC => val hE149 (R.fieldAddr hE149 53 6 6 fb_53_6 rfl) rfl fun a150 hE150 => hC _ _ ?_
      clear hC C
      clear hE149 a149
      refine one fun C hC => val hE150 (R.fieldAddr hE150 43 1 1 fb_43_1 rfl) rfl fun a151 hE151 => hC _ _ ?_
      clear hC C
      clear hE150 a150
      refine one fun C hC => val hE151 (R.load hE151 sc_9 rfl hM112 (by rfl)) rfl fun a152 hE152 => hC _ _ ?_
      clear hC C
      clear hE151 a151
      refine one fun C hC => val hE152 (R.assign hE152 rfl) rfl fun a153 hE153 => hC _ _ ?_
      clear hC C
      clear hE152 a152
      refine wpList_nil (hK8 _ _ ?_)
      clear hK8 K8
      replace hE153 := hE153.keep (E' := [(0, _), (2, _), (74, _)]) ⟨rfl, rfl, rfl, trivial⟩
      refine wp_block ?_
      refine wp_seq_k fun K9 hK9 => ?_
      refine wp_region_lit ?_
      refine one fun C hC => val hE153 (R.move hE153 rfl) rfl fun a154 hE154 => hC _ _ ?_
      clear hC C
      clear hE153 a153
      refine one fun C hC => callM hE154 (hIn _ _ (by simp)) cb_70 rfl (hM112.split (FindA.out (A := G))) rfl  fun  a155 w113 hE155 hM113 => hC _ _ ?_
      clear hC C hE154 hM112 a154
      refine one fun C hC => val hE155 (R.assign hE155 rfl) rfl fun a156 hE156 => hC _ _ ?_
      clear hC C
      clear hE155 a155
      refine wpList_nil (hK9 _ _ ?_)
      clear hK9 K9
      replace hE156 := hE156.keep (E' := [(0, _), (2, _), (74, _), (80, _)]) ⟨rfl, rfl, rfl, rfl, trivial⟩
      refine condR hE156 rfl ?_ ?_
      · intro hb2
        have ht2 := hb2
        try simp only [decide_eq_true_eq, decide_eq_false_iff_not, Bool.not_eq_true', Bool.not_eq_false', beq_iff_eq, Bool.and_eq_true, Bool.or_eq_true] at ht2
        refine wp_region_lit ?_
        refine one fun C hC => val hE156 (R.move hE156 rfl) rfl fun a157 hE157 => hC _ _ ?_
        clear hC C
        clear hE156 a156
        refine one fun C hC => val hE157 (R.move hE157 rfl) rfl fun a158 hE158 => hC _ _ ?_
        clear hC C
        clear hE157 a157
        refine one fun C hC => val hE158 (R.nil hE158 rfl) rfl fun a159 hE159 => hC _ _ ?_
        clear hC C
        clear hE158 a158
        refine one fun C hC => val hE159 (R.fieldAddr hE159 53 5 5 fb_53_5 rfl) rfl fun a160 hE160 => hC _ _ ?_
        clear hC C
        clear hE159 a159
        refine one fun C hC => store hE160 hM113 sc_9 rfl rfl rfl rfl  fun  a161 w114 hE161 hM114 => hC _ _ ?_
        clear hC C hE160 hM113 a160
        try simp only [List.set_cons_zero, List.set_cons_succ, Nat.zero_add] at hM114
        replace hE161 := hE161.keep (E' := [(0, _), (2, _), (74, _), (80, _)]) ⟨rfl, rfl, rfl, rfl, trivial⟩
        refine wpList_nil (hN _ _ ?_)
        have hm := (machAt.close (T := 53) (R := 21) (K := 43) (L := 24) (A := 45) (V := none) (b := b) (S := { S.keep.titled.mid.flush with toks := S.keep.titled.mid.flush.toks ++ [S.keep.titled.mid.flush.tag], stale := true, rcdata := S.keep.titled.mid.flush.tag.name }) (F := star G F0) { x2 with tkA := A63, tkC := C63, tks := x2.tks ++ [(⟨S.keep.titled.mid.flush.tag, x2.gA, x2.gC⟩ : TokV)], gN := S.keep.titled.mid.flush.tag.attrs.length } hk102 trivial (by (try dsimp only); (try simp only [List.length_nil, attrsOf_snoc, tagAt_true]); (try simp only [emp_star, star_emp]); exact hM114.cast (by ac_rfl)))
        refine back0 hE161 rfl (Mem.doneO ({ S.keep.titled.mid.flush with toks := S.keep.titled.mid.flush.toks ++ [S.keep.titled.mid.flush.tag], stale := true, rcdata := S.keep.titled.mid.flush.tag.name }) ?_ rfl ?_)
        · simp [M.told, M.rest, M.push, isScript, isPlain, ht1, ht2]
        exact hm.cast (by ac_rfl)
      · intro hb2
        have ht2 := hb2
        try simp only [decide_eq_true_eq, decide_eq_false_iff_not, Bool.not_eq_true', Bool.not_eq_false', beq_iff_eq, Bool.and_eq_true, Bool.or_eq_true] at ht2
        refine wp_seq_k fun K10 hK10 => ?_
        refine wp_seq_k fun K11 hK11 => ?_
        refine wp_region_lit ?_
        refine one fun C hC => val hE156 (R.move hE156 rfl) rfl fun a157 hE157 => hC _ _ ?_
        clear hC C
        clear hE156 a156
        refine one fun C hC => callM hE157 (hIn _ _ (by simp)) cb_70 rfl (hM113.split (FindA.out (A := G))) rfl  fun  a158 w114 hE158 hM114 => hC _ _ ?_
        clear hC C hE157 hM113 a157
        refine one fun C hC => val hE158 (R.assign hE158 rfl) rfl fun a159 hE159 => hC _ _ ?_
        clear hC C
        clear hE158 a158
        refine wpList_nil (hK11 _ _ ?_)
        clear hK11 K11
        replace hE159 := hE159.keep (E' := [(0, _), (2, _), (74, _), (80, _), (87, _)]) ⟨rfl, rfl, rfl, rfl, rfl, trivial⟩
        refine condR hE159 rfl ?_ ?_
        · intro hb3
          have ht3 := hb3
          try simp only [decide_eq_true_eq, decide_eq_false_iff_not, Bool.not_eq_true', Bool.not_eq_false', beq_iff_eq, Bool.and_eq_true, Bool.or_eq_true] at ht3
          refine wp_skip (hK10 _ _ ?_)
          refine condT hE159 rfl hb3 ?_
          refine wp_region_lit ?_
          refine one fun C hC => val hE159 (R.build hE159 rfl (bd_47)) rfl fun a160 hE160 => hC _ _ ?_
          clear hC C
          clear hE159 a159
          refine one fun C hC => val hE160 (R.mkIface hE160 co_47 rfl) rfl fun a161 hE161 => hC _ _ ?_
          clear hC C
          clear hE160 a160
          refine one fun C hC => panics hE161 rfl ?_
          have hm := (machAt.close (T := 53) (R := 21) (K := 43) (L := 24) (A := 45) (V := none) (b := b) (S := { S.keep.titled.mid.flush with toks := S.keep.titled.mid.flush.toks ++ [S.keep.titled.mid.flush.tag], stale := true, rcdata := ByteArray.mk #[] }) (F := star G F0) { x2 with tkA := A63, tkC := C63, tks := x2.tks ++ [(⟨S.keep.titled.mid.flush.tag, x2.gA, x2.gC⟩ : TokV)], gN := S.keep.titled.mid.flush.tag.attrs.length } hk102 trivial (by (try dsimp only); (try simp only [List.length_nil, attrsOf_snoc, tagAt_true]); (try simp only [emp_star, star_emp]); exact hM114.cast (by ac_rfl)))
          exact hX _ _ hE161.defers (by simp [M.told, M.rest, M.push, isScript, isPlain, ht1, ht2, ht3]) hm.drop
        · intro hb3
          have ht3 := hb3
          try simp only [decide_eq_true_eq, decide_eq_false_iff_not, Bool.not_eq_true', Bool.not_eq_false', beq_iff_eq, Bool.and_eq_true, Bool.or_eq_true] at ht3
          refine wp_seq_k fun K12 hK12 => ?_
          refine wp_region_lit ?_
          refine one fun C hC => val hE159 (R.move hE159 rfl) rfl fun a160 hE160 => hC _ _ ?_
          clear hC C
          clear hE159 a159
          refine one fun C hC => val hE160 (R.seql hE160 rfl rfl) rfl fun a161 hE161 => hC _ _ ?_
          clear hC C
          clear hE160 a160
          refine one fun C hC => val hE161 (R.assign hE161 rfl) rfl fun a162 hE162 => hC _ _ ?_
          clear hC C
          clear hE161 a161
          refine wpList_nil (hK12 _ _ ?_)
          clear hK12 K12
          replace hE162 := hE162.keep (E' := [(0, _), (2, _), (74, _), (80, _), (87, _)]) ⟨rfl, rfl, rfl, rfl, rfl, trivial⟩
          refine condR hE162 rfl ?_ ?_
          · intro hb4
            have ht4 := hb4
            try simp only [decide_eq_true_eq, decide_eq_false_iff_not, Bool.not_eq_true', Bool.not_eq_false', beq_iff_eq, Bool.and_eq_true, Bool.or_eq_true] at ht4
            refine wp_skip (hK10 _ _ ?_)
            refine condT hE162 rfl hb4 ?_
            refine wp_region_lit ?_
            refine one fun C hC => val hE162 (R.build hE162 rfl (bd_47)) rfl fun a163 hE163 => hC _ _ ?_
            clear hC C
            clear hE162 a162
            refine one fun C hC => val hE163 (R.mkIface hE163 co_47 rfl) rfl fun a164 hE164 => hC _ _ ?_
            clear hC C
            clear hE163 a163
            refine one fun C hC => panics hE164 rfl ?_
            have hm := (machAt.close (T := 53) (R := 21) (K := 43) (L := 24) (A := 45) (V := none) (b := b) (S := { S.keep.titled.mid.flush with toks := S.keep.titled.mid.flush.toks ++ [S.keep.titled.mid.flush.tag], stale := true, rcdata := ByteArray.mk #[] }) (F := star G F0) { x2 with tkA := A63, tkC := C63, tks := x2.tks ++ [(⟨S.keep.titled.mid.flush.tag, x2.gA, x2.gC⟩ : TokV)], gN := S.keep.titled.mid.flush.tag.attrs.length } hk102 trivial (by (try dsimp only); (try simp only [List.length_nil, attrsOf_snoc, tagAt_true]); (try simp only [emp_star, star_emp]); exact hM114.cast (by ac_rfl)))
            exact hX _ _ hE164.defers (by simp [M.told, M.rest, M.push, isScript, isPlain, ht1, ht2, ht3, ht4]) hm.drop
          · intro hb4
            have ht4 := hb4
            try simp only [decide_eq_true_eq, decide_eq_false_iff_not, Bool.not_eq_true', Bool.not_eq_false', beq_iff_eq, Bool.and_eq_true, Bool.or_eq_true] at ht4
            refine wp_region_lit ?_
            refine one fun C hC => val hE162 (R.move hE162 rfl) rfl fun a163 hE163 => hC _ _ ?_
            clear hC C
            clear hE162 a162
            refine one fun C hC => val hE163 (R.seql hE163 rfl rfl) rfl fun a164 hE164 => hC _ _ ?_
            clear hC C
            clear hE163 a163
            refine one fun C hC => val hE164 (R.assign hE164 rfl) rfl fun a165 hE165 => hC _ _ ?_
            clear hC C
            clear hE164 a164
            replace hE165 := hE165.keep (E' := [(0, _), (2, _), (74, _), (80, _), (87, _)]) ⟨rfl, rfl, rfl, rfl, rfl, trivial⟩
            refine wpList_nil (hK10 _ _ ?_)
            refine condR hE165 rfl ?_ ?_
            · intro hb5
              have ht5 := hb5
              try simp only [decide_eq_true_eq, decide_eq_false_iff_not, Bool.not_eq_true', Bool.not_eq_false', beq_iff_eq, Bool.and_eq_true, Bool.or_eq_true] at ht5
              refine wp_region_lit ?_
              refine one fun C hC => val hE165 (R.build hE165 rfl (bd_47)) rfl fun a166 hE166 => hC _ _ ?_
              clear hC C
              clear hE165 a165
              refine one fun C hC => val hE166 (R.mkIface hE166 co_47 rfl) rfl fun a167 hE167 => hC _ _ ?_
              clear hC C
              clear hE166 a166
              refine one fun C hC => panics hE167 rfl ?_
              have hm := (machAt.close (T := 53) (R := 21) (K := 43) (L := 24) (A := 45) (V := none) (b := b) (S := { S.keep.titled.mid.flush with toks := S.keep.titled.mid.flush.toks ++ [S.keep.titled.mid.flush.tag], stale := true, rcdata := ByteArray.mk #[] }) (F := star G F0) { x2 with tkA := A63, tkC := C63, tks := x2.tks ++ [(⟨S.keep.titled.mid.flush.tag, x2.gA, x2.gC⟩ : TokV)], gN := S.keep.titled.mid.flush.tag.attrs.length } hk102 trivial (by (try dsimp only); (try simp only [List.length_nil, attrsOf_snoc, tagAt_true]); (try simp only [emp_star, star_emp]); exact hM114.cast (by ac_rfl)))
              exact hX _ _ hE167.defers (by simp [M.told, M.rest, M.push, isScript, isPlain, ht1, ht2, ht3, ht4, ht5]) hm.drop
            · intro hb5
              have ht5 := hb5
              try simp only [decide_eq_true_eq, decide_eq_false_iff_not, Bool.not_eq_true', Bool.not_eq_false', beq_iff_eq, Bool.and_eq_true, Bool.or_eq_true] at ht5
              refine wp_skip (hN _ _ ?_)
              have hm := (machAt.close (T := 53) (R := 21) (K := 43) (L := 24) (A := 45) (V := none) (b := b) (S := { S.keep.titled.mid.flush with toks := S.keep.titled.mid.flush.toks ++ [S.keep.titled.mid.flush.tag], stale := true, rcdata := ByteArray.mk #[] }) (F := star G F0) { x2 with tkA := A63, tkC := C63, tks := x2.tks ++ [(⟨S.keep.titled.mid.flush.tag, x2.gA, x2.gC⟩ : TokV)], gN := S.keep.titled.mid.flush.tag.attrs.length } hk102 trivial (by (try dsimp only); (try simp only [List.length_nil, attrsOf_snoc, tagAt_true]); (try simp only [emp_star, star_emp]); exact hM114.cast (by ac_rfl)))
              refine back0 hE165 rfl (Mem.doneO ({ S.keep.titled.mid.flush with toks := S.keep.titled.mid.flush.toks ++ [S.keep.titled.mid.flush.tag], stale := true, rcdata := ByteArray.mk #[] }) ?_ rfl ?_)
              · simp [M.told, M.rest, M.push, isScript, isPlain, ht1, ht2, ht3, ht4, ht5]
              exact hm.cast (by ac_rfl)
  clear hK2
  have hL2 : ∀ a w, K2 a w → K2 a w := fun _ _ h => h
  refine wp_seq_k fun K13 hK13 => ?_
  refine wp_region_lit ?_
  refine one fun C hC => val hE21 (R.move hE21 rfl) rfl fun a22 hE22 => hC _ _ ?_
  clear hC C
  clear hE21 a21
  refine one fun C hC => val hE22 (R.nil hE22 rfl) rfl fun a23 hE23 => hC _ _ ?_
  clear hC C
  clear hE22 a22
  refine one fun C hC => val hE23 (R.fieldAddr hE23 53 6 6 fb_53_6 rfl) rfl fun a24 hE24 => hC _ _ ?_
  clear hC C
  clear hE23 a23
  refine one fun C hC => val hE24 (R.fieldAddr hE24 43 0 0 fb_43_0 rfl) rfl fun a25 hE25 => hC _ _ ?_
  clear hC C
  clear hE24 a24
  refine one fun C hC => val hE25 (R.load hE25 sc_38 rfl hM5 (by rfl)) rfl fun a26 hE26 => hC _ _ ?_
  clear hC C
  clear hE25 a25
  refine one fun C hC => val hE26 (R.eql hE26 rfl rfl) rfl fun a27 hE27 => hC _ _ ?_
  clear hC C
  clear hE26 a26
  refine wpList_nil (hK13 _ _ ?_)
  clear hK13 K13
  replace hE27 := hE27.keep (E' := [(0, _), (27, _)]) ⟨rfl, rfl, trivial⟩
  refine condR hE27 rfl ?_ ?_
  · intro hb1
    have ht1 := hb1
    try simp only [decide_eq_true_eq, decide_eq_false_iff_not, Bool.not_eq_true', Bool.not_eq_false', beq_iff_eq, Bool.and_eq_true, Bool.or_eq_true] at ht1
    refine wp_seq_k fun K14 hK14 => ?_
    refine wp_seq_k fun K15 hK15 => ?_
    refine wp_region_lit ?_
    refine one fun C hC => val hE27 (R.move hE27 rfl) rfl fun a28 hE28 => hC _ _ ?_
    clear hC C
    clear hE27 a27
    refine one fun C hC => val hE28 (R.nil hE28 rfl) rfl fun a29 hE29 => hC _ _ ?_
    clear hC C
    clear hE28 a28
    refine one fun C hC => val hE29 (R.fieldAddr hE29 53 6 6 fb_53_6 rfl) rfl fun a30 hE30 => hC _ _ ?_
    clear hC C
    clear hE29 a29
    refine one fun C hC => val hE30 (R.fieldAddr hE30 43 3 3 fb_43_3 rfl) rfl fun a31 hE31 => hC _ _ ?_
    clear hC C
    clear hE30 a30
    refine one fun C hC => val hE31 (R.load hE31 sc_39 rfl hM5 (by rfl)) rfl fun a32 hE32 => hC _ _ ?_
    clear hC C
    clear hE31 a31
    refine one fun C hC => val hE32 (R.lenSlice hE32 45 2 sl_39 rfl) rfl fun a33 hE33 => hC _ _ ?_
    clear hC C
    clear hE32 a32
    refine one fun C hC => val hE33 (R.gtr hE33 rfl rfl) rfl fun a34 hE34 => hC _ _ ?_
    clear hC C
    clear hE33 a33
    refine wpList_nil (hK15 _ _ ?_)
    clear hK15 K15
    replace hE34 := hE34.keep (E' := [(0, _), (27, _), (34, _)]) ⟨rfl, rfl, rfl, trivial⟩
    refine condR hE34 rfl ?_ ?_
    · intro hb2
      have ht2 := hb2
      try simp only [decide_eq_true_eq, decide_eq_false_iff_not, Bool.not_eq_true', Bool.not_eq_false', beq_iff_eq, Bool.and_eq_true, Bool.or_eq_true] at ht2
      refine wp_region_lit ?_
      refine one fun C hC => val hE34 (R.move hE34 rfl) rfl fun a35 hE35 => hC _ _ ?_
      clear hC C
      clear hE34 a34
      have hO2 : M.Ok ({ S.keep with tag := { S.keep.tag with name := runesBytes S.keep.name, self := S.keep.slash } }) 7 := by have h1 := hO1.p; have h2 := hO1.n; have h3 := hO1.s; exact ⟨by (try dsimp only); omega, by (try dsimp only); omega, hO1.r, by (try simp only [M.sz, List.length_append, List.length_cons, List.length_nil] at h3 ⊢); omega⟩
      have hp2 := hO2.p
      have hn2 := hO2.n
      refine one fun C hC => callM hE35 (fault_c b { S.keep with tag := { S.keep.tag with name := runesBytes S.keep.name, self := S.keep.slash } } 5 hO2.f) cb_20 rfl (machAt.closeT (T := 53) (R := 21) (K := 43) (L := 24) (A := 45) (V := none) (b := b) (S := { S.keep with tag := { S.keep.tag with name := runesBytes S.keep.name, self := S.keep.slash } }) (F := star G F0) (by first | rfl | assumption | ((try dsimp only); (try simp only [M.read_st, M.fault_st, M.say_st, M.begin_st, M.flush_st, M.keep_st, M.leave_st, M.again_st, M.first_st]); first | rfl | assumption)) x1 hk1 trivial (by (try dsimp only); (try simp only [List.length_nil, attrsOf_snoc, tagAt_true]); (try simp only [emp_star, star_emp]); exact hM5.cast (by ac_rfl))) rfl fun  a36 w6 hE36 hM6 => hC _ _ ?_
      clear hC C hE35 hM5 a35
      have hO3 := hO2.fault (x := 5) (d := 6) (by omega)
      have hp3 := hO3.p
      have hn3 := hO3.n
      replace hE36 := hE36.keep (E' := [(0, _), (27, _), (34, _)]) ⟨rfl, rfl, rfl, trivial⟩
      refine wpList_nil (hK14 _ _ ?_)
      refine wp_seq_k fun K16 hK16 => ?_
      refine wp_seq_k fun K17 hK17 => ?_
      refine wp_region_lit ?_
      refine one fun C hC => val hE36 (R.move hE36 rfl) rfl fun a37 hE37 => hC _ _ ?_
      clear hC C
      clear hE36 a36
      refine one fun C hC => val hE37 (R.nil hE37 rfl) rfl fun a38 hE38 => hC _ _ ?_
      clear hC C
      clear hE37 a37
      refine one fun C hC => val hE38 (R.fieldAddr hE38 53 12 19 fb_53_12 rfl) rfl fun a39 hE39 => hC _ _ ?_
      clear hC C
      clear hE38 a38
      obtain ⟨x2, hk2, hV2, hM7⟩ := machAt.openT (by first | rfl | assumption | ((try dsimp only); (try simp only [M.read_st, M.fault_st, M.say_st, M.begin_st, M.flush_st, M.keep_st, M.leave_st, M.again_st, M.first_st]); first | rfl | assumption)) hM6
      try dsimp only at hM7 hk2
      clear hM6
      have hZ2 := hO3.ls
      try dsimp only at hZ2
      have htk2 : x2.tks.length < 1000000000 := by rw [← List.length_map (f := fun x : TokV => x.t), hk2]; exact hO3.t
      refine one fun C hC => val hE39 (R.load hE39 sc_4 rfl hM7 (by rfl)) rfl fun a40 hE40 => hC _ _ ?_
      clear hC C
      clear hE39 a39
      refine wpList_nil (hK17 _ _ ?_)
      clear hK17 K17
      replace hE40 := hE40.keep (E' := [(0, _), (27, _), (34, _), (40, _)]) ⟨rfl, rfl, rfl, rfl, trivial⟩
      refine condR hE40 rfl ?_ ?_
      · intro hb3
        have ht3 := hb3
        try simp only [decide_eq_true_eq, decide_eq_false_iff_not, Bool.not_eq_true', Bool.not_eq_false', beq_iff_eq, Bool.and_eq_true, Bool.or_eq_true] at ht3
        refine wp_region_lit ?_
        refine one fun C hC => val hE40 (R.move hE40 rfl) rfl fun a41 hE41 => hC _ _ ?_
        clear hC C
        clear hE40 a40
        refine one fun C hC => callM hE41 (fault_c b ({ S.keep with tag := { S.keep.tag with name := runesBytes S.keep.name, self := S.keep.slash } }.fault 5) 6 hO3.f) cb_20 rfl (machAt.closeT (T := 53) (R := 21) (K := 43) (L := 24) (A := 45) (V := none) (b := b) (S := ({ S.keep with tag := { S.keep.tag with name := runesBytes S.keep.name, self := S.keep.slash } }.fault 5)) (F := star G F0) (by first | rfl | assumption | ((try dsimp only); (try simp only [M.read_st, M.fault_st, M.say_st, M.begin_st, M.flush_st, M.keep_st, M.leave_st, M.again_st, M.first_st]); first | rfl | assumption)) x2 hk2 trivial (by (try dsimp only); (try simp only [List.length_nil, attrsOf_snoc, tagAt_true]); (try simp only [emp_star, star_emp]); exact hM7.cast (by ac_rfl))) rfl fun  a42 w8 hE42 hM8 => hC _ _ ?_
        clear hC C hE41 hM7 a41
        have hO4 := hO3.fault (x := 6) (d := 5) (by omega)
        have hp4 := hO4.p
        have hn4 := hO4.n
        replace hE42 := hE42.keep (E' := [(0, _), (27, _), (34, _), (40, _)]) ⟨rfl, rfl, rfl, rfl, trivial⟩
        refine wpList_nil (hK16 _ _ ?_)
        refine wp_region_lit ?_
        refine one fun C hC => val hE42 (R.move hE42 rfl) rfl fun a43 hE43 => hC _ _ ?_
        clear hC C
        clear hE42 a42
        refine one fun C hC => val hE43 (R.move hE43 rfl) rfl fun a44 hE44 => hC _ _ ?_
        clear hC C
        clear hE43 a43
        refine one fun C hC => val hE44 (R.nil hE44 rfl) rfl fun a45 hE45 => hC _ _ ?_
        clear hC C
        clear hE44 a44
        refine one fun C hC => val hE45 (R.fieldAddr hE45 53 6 6 fb_53_6 rfl) rfl fun a46 hE46 => hC _ _ ?_
        clear hC C
        clear hE45 a45
        refine one fun C hC => val hE46 (R.fieldAddr hE46 43 3 3 fb_43_3 rfl) rfl fun a47 hE47 => hC _ _ ?_
        clear hC C
        clear hE46 a46
        obtain ⟨x3, hk3, hV3, hM9⟩ := machAt.openT (by first | rfl | assumption | ((try dsimp only); (try simp only [M.read_st, M.fault_st, M.say_st, M.begin_st, M.flush_st, M.keep_st, M.leave_st, M.again_st, M.first_st]); first | rfl | assumption)) hM8
        try dsimp only at hM9 hk3
        clear hM8
        have hZ3 := hO4.ls
        try dsimp only at hZ3
        have htk3 : x3.tks.length < 1000000000 := by rw [← List.length_map (f := fun x : TokV => x.t), hk3]; exact hO4.t
        refine one fun C hC => store hE47 hM9 sc_39 rfl rfl rfl rfl  fun  a48 w10 hE48 hM10 => hC _ _ ?_
        clear hC C hE47 hM9 a47
        try simp only [List.set_cons_zero, List.set_cons_succ, Nat.zero_add] at hM10
        have hM11 := (hM10.cut (row 45 2 encAttr x3.gA x3.gC ((({ S.keep with tag := { S.keep.tag with name := runesBytes S.keep.name, self := S.keep.slash } }.fault 5).fault 6).tag.attrs))).row_nil 45 2 encAttr none
        clear hM10
        refine one fun C hC => val hE48 (R.nil hE48 rfl) rfl fun a49 hE49 => hC _ _ ?_
        clear hC C
        clear hE48 a48
        refine one fun C hC => val hE49 (R.fieldAddr hE49 53 6 6 fb_53_6 rfl) rfl fun a50 hE50 => hC _ _ ?_
        clear hC C
        clear hE49 a49
        refine one fun C hC => val hE50 (R.fieldAddr hE50 43 4 4 fb_43_4 rfl) rfl fun a51 hE51 => hC _ _ ?_
        clear hC C
        clear hE50 a50
        refine one fun C hC => store hE51 hM11 sc_4 rfl rfl rfl rfl  fun  a52 w12 hE52 hM12 => hC _ _ ?_
        clear hC C hE51 hM11 a51
        try simp only [List.set_cons_zero, List.set_cons_succ, Nat.zero_add] at hM12
        replace hE52 := hE52.keep (E' := [(0, _), (27, _), (34, _), (40, _)]) ⟨rfl, rfl, rfl, rfl, trivial⟩
        refine wpList_nil (hL2 _ _ ?_)
        have hO5 : M.Ok ({ (({ S.keep with tag := { S.keep.tag with name := runesBytes S.keep.name, self := S.keep.slash } }.fault 5).fault 6) with tag := { (({ S.keep with tag := { S.keep.tag with name := runesBytes S.keep.name, self := S.keep.slash } }.fault 5).fault 6).tag with attrs := [], self := false } }) 5 := by have h1 := hO4.p; have h2 := hO4.n; have h3 := hO4.s; exact ⟨by (try dsimp only); omega, by (try dsimp only); omega, hO4.r, by (try simp only [M.sz, List.length_append, List.length_cons, List.length_nil] at h3 ⊢); omega⟩
        have hp5 := hO5.p
        have hn5 := hO5.n
        have hm := (machAt.closeT (T := 53) (R := 21) (K := 43) (L := 24) (A := 45) (V := none) (b := b) (S := { (({ S.keep with tag := { S.keep.tag with name := runesBytes S.keep.name, self := S.keep.slash } }.fault 5).fault 6) with tag := { (({ S.keep with tag := { S.keep.tag with name := runesBytes S.keep.name, self := S.keep.slash } }.fault 5).fault 6).tag with attrs := [], self := false } }) (F := star G F0) (by first | rfl | assumption | ((try dsimp only); (try simp only [M.read_st, M.fault_st, M.say_st, M.begin_st, M.flush_st, M.keep_st, M.leave_st, M.again_st, M.first_st]); first | rfl | assumption)) { x3 with gA := none, gC := 0 } hk3 trivial (by (try dsimp only); (try simp only [List.length_nil, attrsOf_snoc, tagAt_true]); (try simp only [emp_star, star_emp]); exact hM12.cast (by ac_rfl)))
        have ej : S.keep.titled.mid = { (({ S.keep with tag := { S.keep.tag with name := runesBytes S.keep.name, self := S.keep.slash } }.fault 5).fault 6) with tag := { (({ S.keep with tag := { S.keep.tag with name := runesBytes S.keep.name, self := S.keep.slash } }.fault 5).fault 6).tag with attrs := [], self := false } } := by unfold M.mid; rw [if_pos (show S.keep.titled.tag.kind = 2 from ht1)]; unfold M.ended M.ended1; rw [if_pos (show 0 < S.keep.titled.tag.attrs.length from (show 0 < S.keep.tag.attrs.length by omega))]; unfold M.ended2; rw [if_pos (show (S.keep.titled.fault 5).slash = true from ht3)]; rfl
        exact hJ2 _ _ (hE52.keep (by refine ⟨?_, trivial⟩ <;> rfl)) (by rw [ej]; exact hm) (by rw [ej]; exact hO5.le (by omega)) (by rw [ej]; first | rfl | assumption | ((try dsimp only); (try simp only [M.read_st, M.fault_st, M.say_st, M.begin_st, M.flush_st, M.keep_st, M.leave_st, M.again_st, M.first_st]); first | rfl | assumption))
      · intro hb3
        have ht3 := hb3
        try simp only [decide_eq_true_eq, decide_eq_false_iff_not, Bool.not_eq_true', Bool.not_eq_false', beq_iff_eq, Bool.and_eq_true, Bool.or_eq_true] at ht3
        refine wp_skip (hK16 _ _ ?_)
        refine wp_region_lit ?_
        refine one fun C hC => val hE40 (R.move hE40 rfl) rfl fun a41 hE41 => hC _ _ ?_
        clear hC C
        clear hE40 a40
        refine one fun C hC => val hE41 (R.move hE41 rfl) rfl fun a42 hE42 => hC _ _ ?_
        clear hC C
        clear hE41 a41
        refine one fun C hC => val hE42 (R.nil hE42 rfl) rfl fun a43 hE43 => hC _ _ ?_
        clear hC C
        clear hE42 a42
        refine one fun C hC => val hE43 (R.fieldAddr hE43 53 6 6 fb_53_6 rfl) rfl fun a44 hE44 => hC _ _ ?_
        clear hC C
        clear hE43 a43
        refine one fun C hC => val hE44 (R.fieldAddr hE44 43 3 3 fb_43_3 rfl) rfl fun a45 hE45 => hC _ _ ?_
        clear hC C
        clear hE44 a44
        refine one fun C hC => store hE45 hM7 sc_39 rfl rfl rfl rfl  fun  a46 w8 hE46 hM8 => hC _ _ ?_
        clear hC C hE45 hM7 a45
        try simp only [List.set_cons_zero, List.set_cons_succ, Nat.zero_add] at hM8
        have hM9 := (hM8.cut (row 45 2 encAttr x2.gA x2.gC (({ S.keep with tag := { S.keep.tag with name := runesBytes S.keep.name, self := S.keep.slash } }.fault 5).tag.attrs))).row_nil 45 2 encAttr none
        clear hM8
        refine one fun C hC => val hE46 (R.nil hE46 rfl) rfl fun a47 hE47 => hC _ _ ?_
        clear hC C
        clear hE46 a46
        refine one fun C hC => val hE47 (R.fieldAddr hE47 53 6 6 fb_53_6 rfl) rfl fun a48 hE48 => hC _ _ ?_
        clear hC C
        clear hE47 a47
        refine one fun C hC => val hE48 (R.fieldAddr hE48 43 4 4 fb_43_4 rfl) rfl fun a49 hE49 => hC _ _ ?_
        clear hC C
        clear hE48 a48
        refine one fun C hC => store hE49 hM9 sc_4 rfl rfl rfl rfl  fun  a50 w10 hE50 hM10 => hC _ _ ?_
        clear hC C hE49 hM9 a49
        try simp only [List.set_cons_zero, List.set_cons_succ, Nat.zero_add] at hM10
        replace hE50 := hE50.keep (E' := [(0, _), (27, _), (34, _), (40, _)]) ⟨rfl, rfl, rfl, rfl, trivial⟩
        refine wpList_nil (hL2 _ _ ?_)
        have hO4 : M.Ok ({ ({ S.keep with tag := { S.keep.tag with name := runesBytes S.keep.name, self := S.keep.slash } }.fault 5) with tag := { ({ S.keep with tag := { S.keep.tag with name := runesBytes S.keep.name, self := S.keep.slash } }.fault 5).tag with attrs := [], self := false } }) 6 := by have h1 := hO3.p; have h2 := hO3.n; have h3 := hO3.s; exact ⟨by (try dsimp only); omega, by (try dsimp only); omega, hO3.r, by (try simp only [M.sz, List.length_append, List.length_cons, List.length_nil] at h3 ⊢); omega⟩
        have hp4 := hO4.p
        have hn4 := hO4.n
        have hm := (machAt.closeT (T := 53) (R := 21) (K := 43) (L := 24) (A := 45) (V := none) (b := b) (S := { ({ S.keep with tag := { S.keep.tag with name := runesBytes S.keep.name, self := S.keep.slash } }.fault 5) with tag := { ({ S.keep with tag := { S.keep.tag with name := runesBytes S.keep.name, self := S.keep.slash } }.fault 5).tag with attrs := [], self := false } }) (F := star G F0) (by first | rfl | assumption | ((try dsimp only); (try simp only [M.read_st, M.fault_st, M.say_st, M.begin_st, M.flush_st, M.keep_st, M.leave_st, M.again_st, M.first_st]); first | rfl | assumption)) { x2 with gA := none, gC := 0 } hk2 trivial (by (try dsimp only); (try simp only [List.length_nil, attrsOf_snoc, tagAt_true]); (try simp only [emp_star, star_emp]); exact hM10.cast (by ac_rfl)))
        have ej : S.keep.titled.mid = { ({ S.keep with tag := { S.keep.tag with name := runesBytes S.keep.name, self := S.keep.slash } }.fault 5) with tag := { ({ S.keep with tag := { S.keep.tag with name := runesBytes S.keep.name, self := S.keep.slash } }.fault 5).tag with attrs := [], self := false } } := by unfold M.mid; rw [if_pos (show S.keep.titled.tag.kind = 2 from ht1)]; unfold M.ended M.ended1; rw [if_pos (show 0 < S.keep.titled.tag.attrs.length from (show 0 < S.keep.tag.attrs.length by omega))]; unfold M.ended2; rw [if_neg (show ¬ (S.keep.titled.fault 5).slash = true by (have h := ht3; (try rw [Bool.not_eq_true]); exact h))]; rfl
        exact hJ2 _ _ (hE50.keep (by refine ⟨?_, trivial⟩ <;> rfl)) (by rw [ej]; exact hm) (by rw [ej]; exact hO4.le (by omega)) (by rw [ej]; first | rfl | assumption | ((try dsimp only); (try simp only [M.read_st, M.fault_st, M.say_st, M.begin_st, M.flush_st, M.keep_st, M.leave_st, M.again_st, M.first_st]); first | rfl | assumption))
    · intro hb2
      have ht2 := hb2
      try simp only [decide_eq_true_eq, decide_eq_false_iff_not, Bool.not_eq_true', Bool.not_eq_false', beq_iff_eq, Bool.and_eq_true, Bool.or_eq_true] at ht2
      refine wp_skip (hK14 _ _ ?_)
      refine wp_seq_k fun K18 hK18 => ?_
      refine wp_seq_k fun K19 hK19 => ?_
      refine wp_region_lit ?_
      refine one fun C hC => val hE34 (R.move hE34 rfl) rfl fun a35 hE35 => hC _ _ ?_
      clear hC C
      clear hE34 a34
      refine one fun C hC => val hE35 (R.nil hE35 rfl) rfl fun a36 hE36 => hC _ _ ?_
      clear hC C
      clear hE35 a35
      refine one fun C hC => val hE36 (R.fieldAddr hE36 53 12 19 fb_53_12 rfl) rfl fun a37 hE37 => hC _ _ ?_
      clear hC C
      clear hE36 a36
      refine one fun C hC => val hE37 (R.load hE37 sc_4 rfl hM5 (by rfl)) rfl fun a38 hE38 => hC _ _ ?_
      clear hC C
      clear hE37 a37
      refine wpList_nil (hK19 _ _ ?_)
      clear hK19 K19
      replace hE38 := hE38.keep (E' := [(0, _), (27, _), (34, _), (40, _)]) ⟨rfl, rfl, rfl, rfl, trivial⟩
      refine condR hE38 rfl ?_ ?_
      · intro hb3
        have ht3 := hb3
        try simp only [decide_eq_true_eq, decide_eq_false_iff_not, Bool.not_eq_true', Bool.not_eq_false', beq_iff_eq, Bool.and_eq_true, Bool.or_eq_true] at ht3
        refine wp_region_lit ?_
        refine one fun C hC => val hE38 (R.move hE38 rfl) rfl fun a39 hE39 => hC _ _ ?_
        clear hC C
        clear hE38 a38
        have hO2 : M.Ok ({ S.keep with tag := { S.keep.tag with name := runesBytes S.keep.name, self := S.keep.slash } }) 7 := by have h1 := hO1.p; have h2 := hO1.n; have h3 := hO1.s; exact ⟨by (try dsimp only); omega, by (try dsimp only); omega, hO1.r, by (try simp only [M.sz, List.length_append, List.length_cons, List.length_nil] at h3 ⊢); omega⟩
        have hp2 := hO2.p
        have hn2 := hO2.n
        refine one fun C hC => callM hE39 (fault_c b { S.keep with tag := { S.keep.tag with name := runesBytes S.keep.name, self := S.keep.slash } } 6 hO2.f) cb_20 rfl (machAt.closeT (T := 53) (R := 21) (K := 43) (L := 24) (A := 45) (V := none) (b := b) (S := { S.keep with tag := { S.keep.tag with name := runesBytes S.keep.name, self := S.keep.slash } }) (F := star G F0) (by first | rfl | assumption | ((try dsimp only); (try simp only [M.read_st, M.fault_st, M.say_st, M.begin_st, M.flush_st, M.keep_st, M.leave_st, M.again_st, M.first_st]); first | rfl | assumption)) x1 hk1 trivial (by (try dsimp only); (try simp only [List.length_nil, attrsOf_snoc, tagAt_true]); (try simp only [emp_star, star_emp]); exact hM5.cast (by ac_rfl))) rfl fun  a40 w6 hE40 hM6 => hC _ _ ?_
        clear hC C hE39 hM5 a39
        have hO3 := hO2.fault (x := 6) (d := 6) (by omega)
        have hp3 := hO3.p
        have hn3 := hO3.n
        replace hE40 := hE40.keep (E' := [(0, _), (27, _), (34, _), (40, _)]) ⟨rfl, rfl, rfl, rfl, trivial⟩
        refine wpList_nil (hK18 _ _ ?_)
        refine wp_region_lit ?_
        refine one fun C hC => val hE40 (R.move hE40 rfl) rfl fun a41 hE41 => hC _ _ ?_
        clear hC C
        clear hE40 a40
        refine one fun C hC => val hE41 (R.move hE41 rfl) rfl fun a42 hE42 => hC _ _ ?_
        clear hC C
        clear hE41 a41
        refine one fun C hC => val hE42 (R.nil hE42 rfl) rfl fun a43 hE43 => hC _ _ ?_
        clear hC C
        clear hE42 a42
        refine one fun C hC => val hE43 (R.fieldAddr hE43 53 6 6 fb_53_6 rfl) rfl fun a44 hE44 => hC _ _ ?_
        clear hC C
        clear hE43 a43
        refine one fun C hC => val hE44 (R.fieldAddr hE44 43 3 3 fb_43_3 rfl) rfl fun a45 hE45 => hC _ _ ?_
        clear hC C
        clear hE44 a44
        obtain ⟨x2, hk2, hV2, hM7⟩ := machAt.openT (by first | rfl | assumption | ((try dsimp only); (try simp only [M.read_st, M.fault_st, M.say_st, M.begin_st, M.flush_st, M.keep_st, M.leave_st, M.again_st, M.first_st]); first | rfl | assumption)) hM6
        try dsimp only at hM7 hk2
        clear hM6
        have hZ2 := hO3.ls
        try dsimp only at hZ2
        have htk2 : x2.tks.length < 1000000000 := by rw [← List.length_map (f := fun x : TokV => x.t), hk2]; exact hO3.t
        refine one fun C hC => store hE45 hM7 sc_39 rfl rfl rfl rfl  fun  a46 w8 hE46 hM8 => hC _ _ ?_
        clear hC C hE45 hM7 a45
        try simp only [List.set_cons_zero, List.set_cons_succ, Nat.zero_add] at hM8
        have hM9 := (hM8.cut (row 45 2 encAttr x2.gA x2.gC (({ S.keep with tag := { S.keep.tag with name := runesBytes S.keep.name, self := S.keep.slash } }.fault 6).tag.attrs))).row_nil 45 2 encAttr none
        clear hM8
        refine one fun C hC => val hE46 (R.nil hE46 rfl) rfl fun a47 hE47 => hC _ _ ?_
        clear hC C
        clear hE46 a46
        refine one fun C hC => val hE47 (R.fieldAddr hE47 53 6 6 fb_53_6 rfl) rfl fun a48 hE48 => hC _ _ ?_
        clear hC C
        clear hE47 a47
        refine one fun C hC => val hE48 (R.fieldAddr hE48 43 4 4 fb_43_4 rfl) rfl fun a49 hE49 => hC _ _ ?_
        clear hC C
        clear hE48 a48
        refine one fun C hC => store hE49 hM9 sc_4 rfl rfl rfl rfl  fun  a50 w10 hE50 hM10 => hC _ _ ?_
        clear hC C hE49 hM9 a49
        try simp only [List.set_cons_zero, List.set_cons_succ, Nat.zero_add] at hM10
        replace hE50 := hE50.keep (E' := [(0, _), (27, _), (34, _), (40, _)]) ⟨rfl, rfl, rfl, rfl, trivial⟩
        refine wpList_nil (hL2 _ _ ?_)
        have hO4 : M.Ok ({ ({ S.keep with tag := { S.keep.tag with name := runesBytes S.keep.name, self := S.keep.slash } }.fault 6) with tag := { ({ S.keep with tag := { S.keep.tag with name := runesBytes S.keep.name, self := S.keep.slash } }.fault 6).tag with attrs := [], self := false } }) 6 := by have h1 := hO3.p; have h2 := hO3.n; have h3 := hO3.s; exact ⟨by (try dsimp only); omega, by (try dsimp only); omega, hO3.r, by (try simp only [M.sz, List.length_append, List.length_cons, List.length_nil] at h3 ⊢); omega⟩
        have hp4 := hO4.p
        have hn4 := hO4.n
        have hm := (machAt.closeT (T := 53) (R := 21) (K := 43) (L := 24) (A := 45) (V := none) (b := b) (S := { ({ S.keep with tag := { S.keep.tag with name := runesBytes S.keep.name, self := S.keep.slash } }.fault 6) with tag := { ({ S.keep with tag := { S.keep.tag with name := runesBytes S.keep.name, self := S.keep.slash } }.fault 6).tag with attrs := [], self := false } }) (F := star G F0) (by first | rfl | assumption | ((try dsimp only); (try simp only [M.read_st, M.fault_st, M.say_st, M.begin_st, M.flush_st, M.keep_st, M.leave_st, M.again_st, M.first_st]); first | rfl | assumption)) { x2 with gA := none, gC := 0 } hk2 trivial (by (try dsimp only); (try simp only [List.length_nil, attrsOf_snoc, tagAt_true]); (try simp only [emp_star, star_emp]); exact hM10.cast (by ac_rfl)))
        have ej : S.keep.titled.mid = { ({ S.keep with tag := { S.keep.tag with name := runesBytes S.keep.name, self := S.keep.slash } }.fault 6) with tag := { ({ S.keep with tag := { S.keep.tag with name := runesBytes S.keep.name, self := S.keep.slash } }.fault 6).tag with attrs := [], self := false } } := by unfold M.mid; rw [if_pos (show S.keep.titled.tag.kind = 2 from ht1)]; unfold M.ended M.ended1; rw [if_neg (show ¬ 0 < S.keep.titled.tag.attrs.length from (show ¬ 0 < S.keep.tag.attrs.length by omega))]; unfold M.ended2; rw [if_pos (show S.keep.titled.slash = true from ht3)]; rfl
        exact hJ2 _ _ (hE50.keep (by refine ⟨?_, trivial⟩ <;> rfl)) (by rw [ej]; exact hm) (by rw [ej]; exact hO4.le (by omega)) (by rw [ej]; first | rfl | assumption | ((try dsimp only); (try simp only [M.read_st, M.fault_st, M.say_st, M.begin_st, M.flush_st, M.keep_st, M.leave_st, M.again_st, M.first_st]); first | rfl | assumption))
      · intro hb3
        have ht3 := hb3
        try simp only [decide_eq_true_eq, decide_eq_false_iff_not, Bool.not_eq_true', Bool.not_eq_false', beq_iff_eq, Bool.and_eq_true, Bool.or_eq_true] at ht3
        refine wp_skip (hK18 _ _ ?_)
        refine wp_region_lit ?_
        refine one fun C hC => val hE38 (R.move hE38 rfl) rfl fun a39 hE39 => hC _ _ ?_
        clear hC C
        clear hE38 a38
        refine one fun C hC => val hE39 (R.move hE39 rfl) rfl fun a40 hE40 => hC _ _ ?_
        clear hC C
        clear hE39 a39
        refine one fun C hC => val hE40 (R.nil hE40 rfl) rfl fun a41 hE41 => hC _ _ ?_
        clear hC C
        clear hE40 a40
        refine one fun C hC => val hE41 (R.fieldAddr hE41 53 6 6 fb_53_6 rfl) rfl fun a42 hE42 => hC _ _ ?_
        clear hC C
        clear hE41 a41
        refine one fun C hC => val hE42 (R.fieldAddr hE42 43 3 3 fb_43_3 rfl) rfl fun a43 hE43 => hC _ _ ?_
        clear hC C
        clear hE42 a42
        refine one fun C hC => store hE43 hM5 sc_39 rfl rfl rfl rfl  fun  a44 w6 hE44 hM6 => hC _ _ ?_
        clear hC C hE43 hM5 a43
        try simp only [List.set_cons_zero, List.set_cons_succ, Nat.zero_add] at hM6
        have hM7 := (hM6.cut (row 45 2 encAttr x1.gA x1.gC S.keep.tag.attrs)).row_nil 45 2 encAttr none
        clear hM6
        refine one fun C hC => val hE44 (R.nil hE44 rfl) rfl fun a45 hE45 => hC _ _ ?_
        clear hC C
        clear hE44 a44
        refine one fun C hC => val hE45 (R.fieldAddr hE45 53 6 6 fb_53_6 rfl) rfl fun a46 hE46 => hC _ _ ?_
        clear hC C
        clear hE45 a45
        refine one fun C hC => val hE46 (R.fieldAddr hE46 43 4 4 fb_43_4 rfl) rfl fun a47 hE47 => hC _ _ ?_
        clear hC C
        clear hE46 a46
        refine one fun C hC => store hE47 hM7 sc_4 rfl rfl rfl rfl  fun  a48 w8 hE48 hM8 => hC _ _ ?_
        clear hC C hE47 hM7 a47
        try simp only [List.set_cons_zero, List.set_cons_succ, Nat.zero_add] at hM8
        replace hE48 := hE48.keep (E' := [(0, _), (27, _), (34, _), (40, _)]) ⟨rfl, rfl, rfl, rfl, trivial⟩
        refine wpList_nil (hL2 _ _ ?_)
        have hO2 : M.Ok ({ S.keep with tag := { S.keep.tag with name := runesBytes S.keep.name, self := false, attrs := [] } }) 7 := by have h1 := hO1.p; have h2 := hO1.n; have h3 := hO1.s; exact ⟨by (try dsimp only); omega, by (try dsimp only); omega, hO1.r, by (try simp only [M.sz, List.length_append, List.length_cons, List.length_nil] at h3 ⊢); omega⟩
        have hp2 := hO2.p
        have hn2 := hO2.n
        have hm := (machAt.closeT (T := 53) (R := 21) (K := 43) (L := 24) (A := 45) (V := none) (b := b) (S := { S.keep with tag := { S.keep.tag with name := runesBytes S.keep.name, self := false, attrs := [] } }) (F := star G F0) (by first | rfl | assumption | ((try dsimp only); (try simp only [M.read_st, M.fault_st, M.say_st, M.begin_st, M.flush_st, M.keep_st, M.leave_st, M.again_st, M.first_st]); first | rfl | assumption)) { x1 with gA := none, gC := 0 } hk1 trivial (by (try dsimp only); (try simp only [List.length_nil, attrsOf_snoc, tagAt_true]); (try simp only [emp_star, star_emp]); exact hM8.cast (by ac_rfl)))
        have ej : S.keep.titled.mid = { S.keep with tag := { S.keep.tag with name := runesBytes S.keep.name, self := false, attrs := [] } } := by unfold M.mid; rw [if_pos (show S.keep.titled.tag.kind = 2 from ht1)]; unfold M.ended M.ended1; rw [if_neg (show ¬ 0 < S.keep.titled.tag.attrs.length from (show ¬ 0 < S.keep.tag.attrs.length by omega))]; unfold M.ended2; rw [if_neg (show ¬ S.keep.titled.slash = true by (have h := ht3; (try rw [Bool.not_eq_true]); exact h))]; rfl
        exact hJ2 _ _ (hE48.keep (by refine ⟨?_, trivial⟩ <;> rfl)) (by rw [ej]; exact hm) (by rw [ej]; exact hO2.le (by omega)) (by rw [ej]; first | rfl | assumption | ((try dsimp only); (try simp only [M.read_st, M.fault_st, M.say_st, M.begin_st, M.flush_st, M.keep_st, M.leave_st, M.again_st, M.first_st]); first | rfl | assumption))
  · intro hb1
    have ht1 := hb1
    try simp only [decide_eq_true_eq, decide_eq_false_iff_not, Bool.not_eq_true', Bool.not_eq_false', beq_iff_eq, Bool.and_eq_true, Bool.or_eq_true] at ht1
    refine wp_skip (hL2 _ _ ?_)
    have hO2 : M.Ok ({ S.keep with tag := { S.keep.tag with name := runesBytes S.keep.name, self := S.keep.slash } }) 7 := by have h1 := hO1.p; have h2 := hO1.n; have h3 := hO1.s; exact ⟨by (try dsimp only); omega, by (try dsimp only); omega, hO1.r, by (try simp only [M.sz, List.length_append, List.length_cons, List.length_nil] at h3 ⊢); omega⟩
    have hp2 := hO2.p
    have hn2 := hO2.n
    have hm := (machAt.closeT (T := 53) (R := 21) (K := 43) (L := 24) (A := 45) (V := none) (b := b) (S := { S.keep with tag := { S.keep.tag with name := runesBytes S.keep.name, self := S.keep.slash } }) (F := star G F0) (by first | rfl | assumption | ((try dsimp only); (try simp only [M.read_st, M.fault_st, M.say_st, M.begin_st, M.flush_st, M.keep_st, M.leave_st, M.again_st, M.first_st]); first | rfl | assumption)) x1 hk1 trivial (by (try dsimp only); (try simp only [List.length_nil, attrsOf_snoc, tagAt_true]); (try simp only [emp_star, star_emp]); exact hM5.cast (by ac_rfl)))
    have ej : S.keep.titled.mid = { S.keep with tag := { S.keep.tag with name := runesBytes S.keep.name, self := S.keep.slash } } := by unfold M.mid; rw [if_neg (show ¬ S.keep.titled.tag.kind = 2 from ht1)]; rfl
    exact hJ2 _ _ (hE27.keep (by refine ⟨?_, trivial⟩ <;> rfl)) (by rw [ej]; exact hm) (by rw [ej]; exact hO2.le (by omega)) (by rw [ej]; first | rfl | assumption | ((try dsimp only); (try simp only [M.read_st, M.fault_st, M.say_st, M.begin_st, M.flush_st, M.keep_st, M.leave_st, M.again_st, M.first_st]); first | rfl | assumption))

end

end Go.Sv
