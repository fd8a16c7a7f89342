/-
  The law StandardNames holds of the given program for every input: the error's number, the faults' names, and that there are no others. Conditions: none beyond those of the given row (package-level variables start as the program's text lays them).
-/
import Derived.Test.YthaalghnpfpjmaaDoorRows
import Derived.Test.YthaalghnpfpjmaaDoorCards
import Derived.Test.YthaalghnpfpjmaaDoorTie
import Derived.Test.YthaalghnpfpjmaaDoorMach25
import Derived.ProofKit
import Derived.Lay
import Derived.LaidOnce
import Derived.SevenTiedAt
import Derived.HandedShaped
import Derived.LaidLaws
import Derived.Lib.LaidU8
set_option linter.all false
namespace Go.Sv
open Go.RowKit
/-- A block of a variable, and its cells. -/
theorem tab_of {P : Program} {w : World} {g n e : Nat} {t0 : TypeId} {k : IntKind} {name : String} {d : DataW Unit} {zs : List Int} (hS : w.ShapedOpen P) (hg : g < P.globals.size)
    (h0 : (((begin P (fun _ _ => 0) default).world.heap[g]?).bind Obj.row?).isSome = true) (hn : P.globalNamed name = some g) (hty : (P.globals[g]?).map (·.type) = some t0)
    (ht : P.underlying t0 = some (.array n e)) (he : P.underlying e = some (.int k)) (hce : P.cellsOf e = 1) (hct : P.cellsOf t0 = n) (hd : d = Lib.tabData k zs) (hR : Lib.VarReads P w name d) :
    ∃ E R, whole w = star (pts g E (zs.map fun z => Value.int k z)) R := by
  obtain ⟨zt, hz⟩ := Option.isSome_iff_exists.1 h0
  obtain ⟨cs, hh, _, _⟩ := hS.1 g zt.1 zt.2 hg hz
  obtain ⟨g', t', cs', fuel, p, h1, h2, h3, h4⟩ := hR
  obtain rfl := Option.some.inj (hn.symm.trans h1)
  obtain rfl := Option.some.inj (hty.symm.trans h2)
  rw [hd] at h4
  have hcs := Lib.cells_of_tab ht he hce hct h4
  have h5 : cs' = cs := by
    unfold World.var? at h3
    rw [hn] at h3
    simp [hh] at h3
    exact h3.symm
  subst h5
  refine ⟨zt.2, but w g, (whole_but hh).trans ?_⟩
  unfold pts
  rw [← hcs]
theorem max_of {P : Program} {w : World} {g : Nat} {t : TypeId} {zero : Array Value} {k : IntKind} (h : w.ShapedOpen P) (hg : g < P.globals.size)
    (h0 : ((begin P (fun _ _ => 0) default).world.heap[g]?).bind Obj.row? = some (zero, t)) (hz : zero.size = 1)
    (hb : P.buildable t = true) (hc : P.cellTypes P.depth t = some [t]) (hu : P.underlying t = some (.int k)) : ∃ E m R, whole w = star (pts g E [.int k m]) R := by
  obtain ⟨m, hm⟩ := Go.Proofs.cell_of_shapedOpen_int h hg h0 hz hb hc hu
  obtain ⟨cs, hh, hs, _⟩ := h.1 g zero t hg h0
  have h1 : cs.size = 1 := by omega
  have h2 : cs[0]? = some (.int k m) := by simpa [World.cell?, hh] using hm
  have h3 : cs = #[Value.int k m] := by
    apply Array.ext_getElem?
    intro i
    match i with
    | 0 => simpa using h2
    | i + 1 => rw [Array.getElem?_eq_none (by omega), Array.getElem?_eq_none (by simp)]
  subst h3
  exact ⟨t, m, but w g, whole_but hh⟩
end Go.Sv
namespace Go.Proofs.YthaalghnpfpjmaaDoor
open Go.ChangeShapes Go.WideShapes Go.ChangeAt Go.RowKit Go.Sv
theorem own : ownKnob Tryd.prog.godebug = none := by kernel_rfl
abbrev laid : List (String × DataW Unit) := Rows.standardNamesRow.laid
theorem asc_eq : (Rows.laid_strings_asciiSpace : DataW Unit) = Lib.tabData .u8 Lib.asciiSpaceTab := by kernel_rfl
theorem win_eq : (Rows.laid_sieve_standard_windows : DataW Unit) = Lib.tabData .i32 Sv.windows := by kernel_rfl
theorem maxG {W : World} (h : W.ShapedOpen Tryd.prog) : MaxG (whole W) := max_of (zero := #[.int .i64 0]) (t := 3) h (of_decide_eq_true (by kernel_rfl)) (by kernel_rfl) rfl (by kernel_rfl) (by kernel_rfl) Tryd.underlying3
theorem ascG {W : World} (h : W.ShapedOpen Tryd.prog) (hL : laidMet Tryd.prog laid W) : AscG (whole W) :=
  tab_of (d := Rows.laid_strings_asciiSpace) (name := "strings.asciiSpace") (t0 := 110) (n := 256) (e := 5) h (of_decide_eq_true (by kernel_rfl)) (by kernel_rfl) (by kernel_rfl) (by kernel_rfl) Tryd.underlying110 Tryd.underlying5 (by kernel_rfl) (by kernel_rfl) asc_eq (Lib.laidMet.reads hL (.tail _ (.tail _ (.head _))))
theorem winG {W : World} (h : W.ShapedOpen Tryd.prog) (hL : laidMet Tryd.prog laid W) : WinG (whole W) :=
  tab_of (d := Rows.laid_sieve_standard_windows) (name := "sieve/standard.windows") (t0 := 88) (n := 32) (e := 21) h (of_decide_eq_true (by kernel_rfl)) (by kernel_rfl) (by kernel_rfl) (by kernel_rfl) Tryd.underlying88 Tryd.underlying21 (by kernel_rfl) (by kernel_rfl) win_eq (Lib.laidMet.reads hL (.tail _ (.tail _ (.tail _ (.head _)))))
/-- The law, walked: true, and the world below is as it was. -/
theorem walked (k : Int) {W : World} (h : W.ShapedOpen Tryd.prog) (hL : laidMet Tryd.prog laid W) :
    Calls Tryd.prog 3 #[.int .i64 k] W fun e W' => e = .returned (.bool true) ∧ Below W.heap.size W W' := by
  refine (law_c (whole W) (maxG h) (ascG h hL) (winG h hL) k (World.base W) W emp ((Mem.whole W).cast (star_emp _).symm)).mono fun e W' hh => ?_
  obtain ⟨v, he, hm⟩ := hh
  obtain ⟨hv, h2⟩ := (hm.cast (star_assoc _ _ _)).fact
  subst hv
  exact ⟨he, Mem.below (A := emp) (h2.cast (star_comm _ _))⟩
set_option maxRecDepth 100000 in
theorem lifted (os : Os) (started : os.Started) (H : Type) (enc : TypeId × Value → H) :
    ReturnsInHanded {} Tryd.checked os 3 .any (fun w args => (Rows.standardNamesSpec.pre enc Tryd.prog Tryd.f3 [] false w args ∧ laidMetH Tryd.prog laid w) ∧ sizedMet enc Tryd.prog Tryd.f3 (OpenSpec.ofChange Rows.standardNamesSpec) false w args)
      (Rows.standardNamesSpec.post enc Tryd.prog Tryd.f3 false true false false) := by
  refine returnsInHanded_of_calls own started (by kernel_rfl)
    (ChangeSpec.witness_shaped (enc := enc) (C := Tryd.checked) (os := os) (X := fun w _ => laidMetH Tryd.prog laid w) false (World.laidAll Tryd.prog os laid) #[.int .i64 0] 8 (World.laidAll_os _ _ _)
      (World.shaped_of_ZipB (by kernel_rfl) (by kernel_rfl)) (by kernel_rfl) (by kernel_rfl) (by kernel_rfl)
      (by rw [MakeChecks.laidMetH_plain _ _ _ (by kernel_rfl)]; exact laidMet_laidAll _ (by kernel_rfl) (by kernel_rfl))) ?_
  intro w tape i _ hsh _ hok hpre _
  obtain ⟨_, _, _, fn', hfn', _, _, _, _, hval1⟩ := hok
  have e : fn' = Tryd.f3 := Option.some.inj (hfn'.symm.trans Tryd.func3)
  subst e
  obtain ⟨⟨⟨ds, gs, before, hw, hc⟩, hx⟩, hz⟩ := hpre
  have hW0 := DataW.Whole.of_heap (w' := w.forCall tape i) (by rfl) hw
  have hx2 : laidMetH Tryd.prog laid (w.forCall tape i) := laidMetH.of_heap (by rfl) hx
  rw [MakeChecks.laidMetH_plain _ _ _ (by kernel_rfl)] at hx2
  have hL := hx2
  clear hx2
  generalize hWe : w.forCall tape i = W at hsh hW0 hL hval1 ⊢
  generalize i.args = args at hW0 hval1 ⊢
  have hval : ∀ (j : Nat) t v, Tryd.f3.params[j]? = some t → args[j]? = some v → Value.okWide Tryd.prog W .any w.heap.size t v := hval1
  have hW' := hW0
  obtain ⟨p, q, hA0, hV, rfl, _, _⟩ := hW0
  have hA : DataW.TrodAll enc Tryd.prog W 0 (fun _ => true) true Tryd.f3.params.toList args.toList ds p := hA0
  rw [Tryd.params3] at hA hval
  obtain ⟨v0, d0, rfl, rfl, h0⟩ := trodAll_one hA
  obtain ⟨rfl, rfl⟩ := trodVars_none hV
  obtain ⟨x, rfl, rfl, rfl, wx⟩ := open_int Tryd.underlying3 (hval 0 3 v0 rfl rfl) h0
  simp only [List.append_nil] at hW'
  refine (walked x hsh hL).mono fun e W' ⟨he, hb⟩ => ?_
  subst he
  refine ChangeSpec.post_blind ?_
  exact ⟨_, _, _, [], [], [], hW', trodAll_mk1 (shut_bool Tryd.underlying4 _), trodAll_mk1 (shut_int Tryd.underlying3 wx), rfl, hb.frame _, fun h => by cases h⟩
theorem row_holds : Rows.StandardNamesSaid :=
  OpenClaim.holds_of_wide 3 Tryd.f3 rfl rfl rfl rfl rfl rfl rfl ⟨rfl, rfl, rfl, rfl, rfl⟩ rfl rfl rfl rfl rfl (by kernel_rfl) Tryd.func3 (by kernel_rfl)
    (of_decide_eq_true (by kernel_rfl)) (by unfold Func.isWrapper; first | (rw [if_pos (by decide +kernel)]; kernel_rfl) | (rw [if_neg (by decide +kernel)]; exact ⟨rfl, rfl⟩))
    (fun os started H enc _ => lifted os started H enc)
theorem card_holds : Rows.StandardNamesCardSaid :=
  Claim7.holds_tied_plain_at .later [] [.data, .listed, .data, .data, .pinned] true (true, "bc247b228c89b64e2e7ab3c46109ded021b16c436dfe689f7dc07b9b02edb299") true
    row_holds (fun _ h => by cases h) (by kernel_rfl) (fun _ h => by cases h) standardNames_row_tie rfl ⟨rfl, rfl⟩ (by kernel_rfl) rfl
    (fun f fn hf hfn => by
      obtain rfl : f = 3 := Option.some.inj ((show Tryd.prog.funcNamed "sieve/sievelaw22.StandardNames" = some 3 by kernel_rfl).symm.trans hf) |>.symm
      obtain rfl : fn = Tryd.f3 := (Option.some.inj (Tryd.func3.symm.trans hfn)).symm
      exact ⟨by kernel_rfl, fun j t ht => by
        rw [Tryd.params3] at ht
        have hm : t ∈ [3] := by simpa using Array.mem_of_getElem? ht
        have hall : ([3].all fun u => !Tryd.prog.wantsStandIn u) = true := by kernel_rfl
        exact (show Tryd.prog.wantsStandIn t = false by simpa using List.all_eq_true.1 hall t hm)⟩)
    (by kernel_rfl)
#print axioms card_holds
end Go.Proofs.YthaalghnpfpjmaaDoor
