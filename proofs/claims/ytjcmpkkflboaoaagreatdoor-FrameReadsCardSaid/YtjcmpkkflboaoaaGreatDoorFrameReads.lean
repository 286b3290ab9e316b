/- PROVED: meridianlaw4.FrameReads answers true for every argument (tied card). -/
import Derived.Test.YtjcmpkkflboaoaaGreatDoorRows
import Derived.Test.YtjcmpkkflboaoaaGreatDoorCards
import Derived.Test.YtjcmpkkflboaoaaGreatDoorTie
import Derived.Test.YtjcmpkkflboaoaaGreatDoorPofP
import Derived.Test.YtjcmpkkflboaoaaGreatDoorArg
import Derived.ProofKit
import Derived.LaidMore
import Derived.LaidHandle
import Derived.OpenShut
import Derived.ShutString
import Derived.Stop.Joined
import Derived.SevenTiedAt
import Derived.LaidSub
import Derived.Stop.LaidErr
import Derived.Lay
import Derived.Test.YtjcmpkkflboaoaaGreatDoorSents
import Derived.Test.YtjcmpkkflboaoaaGreatDoorPow10
import Derived.Lib.LaidTab
namespace Go.Proofs.YtjcmpkkflboaoaaGreatDoor.frameReads
open Go.ChangeShapes Go.WideShapes Go.ChangeAt Go.RowKit
open Go.ChangeMaps (open_string shut_string)

theorem own : ownKnob Tryz.prog.godebug = none := by kernel_rfl
theorem laidOut : laidOutB Tryz.prog = true := by kernel_rfl
theorem et : Tryz.prog.globalNamed "errors.errorType" = some 10 := by kernel_rfl
theorem rt : (Tryz.prog.cutTypes.find? (·.1 == "internal/reflectlite.rtype")).map (·.2) = some 143 := by kernel_rfl
theorem oneRow : ((List.range Tryz.prog.types.size).filter fun t => Tryz.prog.rowNamed t [101, 114, 114, 111, 114]) = [29] := by kernel_rfl
def ten : List (String × List UInt8) := [("meridian/api.ErrText", [109, 101, 114, 105, 100, 105, 97, 110, 58, 32, 116, 101, 120, 116]), ("meridian/api.ErrBound", [109, 101, 114, 105, 100, 105, 97, 110, 58, 32, 98, 111, 117, 110, 100]), ("meridian/api.ErrTime", [109, 101, 114, 105, 100, 105, 97, 110, 58, 32, 116, 105, 109, 101]), ("meridian/api.ErrTable", [109, 101, 114, 105, 100, 105, 97, 110, 58, 32, 116, 97, 98, 108, 101]), ("meridian/api.ErrShape", [109, 101, 114, 105, 100, 105, 97, 110, 58, 32, 115, 104, 97, 112, 101]), ("meridian/api.ErrLimit", [109, 101, 114, 105, 100, 105, 97, 110, 58, 32, 108, 105, 109, 105, 116]), ("meridian/api.ErrState", [109, 101, 114, 105, 100, 105, 97, 110, 58, 32, 115, 116, 97, 116, 101]), ("meridian/api.ErrFile", [109, 101, 114, 105, 100, 105, 97, 110, 58, 32, 102, 105, 108, 101]), ("meridian/api.ErrNone", [109, 101, 114, 105, 100, 105, 97, 110, 58, 32, 110, 111, 110, 101]), ("meridian/api.ErrName", [109, 101, 114, 105, 100, 105, 97, 110, 58, 32, 110, 97, 109, 101])]
def two : List (String × List UInt8) := [("strconv.ErrRange", [118, 97, 108, 117, 101, 32, 111, 117, 116, 32, 111, 102, 32, 114, 97, 110, 103, 101]), ("strconv.ErrSyntax", [105, 110, 118, 97, 108, 105, 100, 32, 115, 121, 110, 116, 97, 120])]
theorem tenNames : ∀ i (h : i < ten.length), Tryz.prog.globalNamed (ten[i]'h).1 = some (errG i) ∧ (Tryz.prog.globals[errG i]?).map (·.type) = some 29 := by
  intro i h
  have h : i < 10 := h
  rcases i with _ | _ | _ | _ | _ | _ | _ | _ | _ | _ | i
  all_goals first | omega | exact ⟨by kernel_rfl, by kernel_rfl⟩

theorem handleOnes : (Rows.frameReadsRow.laid.filter fun x => x.2.handleName?.isSome) = [("errors.errorType", (Rows.laid_errors_errorType : DataW Unit))] := by kernel_rfl
theorem tenOnes : ((Rows.frameReadsRow.laid.filter fun x => x.2.handleName?.isNone).filter fun x => (ten.map (·.1)).contains x.1) = ten.map laidOf := by kernel_rfl
theorem twoOnes : ((Rows.frameReadsRow.laid.filter fun x => x.2.handleName?.isNone).filter fun x => (two.map (·.1)).contains x.1) = two.map laidOf := by kernel_rfl
theorem powOnes : ((Rows.frameReadsRow.laid.filter fun x => x.2.handleName?.isNone).filter fun x => x.1 == "internal/strconv.uint64pow10") = [("internal/strconv.uint64pow10", Rows.laid_internal_strconv_uint64pow10)] := by kernel_rfl
theorem greatOnes : ((Rows.frameReadsRow.laid.filter fun x => x.2.handleName?.isNone).filter fun x => ["unicode/utf8.first"].contains x.1) = [("unicode/utf8.first", Rows.laid_unicode_utf8_first)] := by kernel_rfl
/-- What the condition gives of the errors. -/
theorem sents_of_laid {W : World} (h : laidMetH Tryz.prog Rows.frameReadsRow.laid W) : ∃ ad, Sents W ad := by
  obtain ⟨h1, h2⟩ := laidMetH_iff.1 h
  have h3 := h1.filter (fun x => (ten.map (·.1)).contains x.1)
  rw [tenOnes] at h3
  rw [handleOnes] at h2
  obtain ⟨name, u, ty, e1, e2, e3, e4, e5⟩ := h2 ("errors.errorType", Rows.laid_errors_errorType) (List.mem_cons_self ..)
  have en : name = [101, 114, 114, 111, 114] := (Option.some.inj e1).symm
  subst en
  obtain rfl := Option.some.inj (rt.symm.trans e2)
  have hm : ty ∈ (List.range Tryz.prog.types.size).filter fun t => Tryz.prog.rowNamed t [101, 114, 114, 111, 114] := List.mem_filter.2 ⟨List.mem_range.2 e3, e4⟩
  rw [oneRow] at hm
  obtain rfl := List.mem_singleton.1 hm
  have hh : typeHandle Tryz.prog 29 = .pointer (some ⟨19, 29, none⟩) := by kernel_rfl
  rw [hh] at e5
  exact sents_ten h3 rfl tenNames (by simpa using World.var?_cell et e5 0)

/-- What the condition gives of the library's two errors. -/
theorem nums_of_laid {W : World} (h : laidMetH Tryz.prog Rows.frameReadsRow.laid W) : Nums W := by
  obtain ⟨h1, _⟩ := laidMetH_iff.1 h
  have h3 := h1.filter (fun x => (two.map (·.1)).contains x.1)
  rw [twoOnes] at h3
  have hn0 : Tryz.prog.globalNamed "strconv.ErrRange" = some 13 := by kernel_rfl
  have ht0 : (Tryz.prog.globals[13]?).map (·.type) = some 29 := by kernel_rfl
  have hn1 : Tryz.prog.globalNamed "strconv.ErrSyntax" = some 12 := by kernel_rfl
  have ht1 : (Tryz.prog.globals[12]?).map (·.type) = some 29 := by kernel_rfl
  obtain ⟨ps, hv, hnd, hok⟩ := h3
  obtain ⟨al, _, _, hat⟩ := sents_list two ps hv (fun x hx => by
    have hx' : x = ("strconv.ErrRange", [118, 97, 108, 117, 101, 32, 111, 117, 116, 32, 111, 102, 32, 114, 97, 110, 103, 101]) ∨ x = ("strconv.ErrSyntax", [105, 110, 118, 97, 108, 105, 100, 32, 115, 121, 110, 116, 97, 120]) := by simpa [two] using hx
    rcases hx' with rfl | rfl
    · exact ⟨_, hn0, ht0⟩
    · exact ⟨_, hn1, ht1⟩) hok
  obtain ⟨a0, _, k0⟩ := hat 0 (by decide)
  obtain ⟨a1, _, k1⟩ := hat 1 (by decide)
  exact ⟨⟨_, by simpa using World.var?_cell hn1 k1 0⟩, _, by simpa using World.var?_cell hn0 k0 0⟩

/-- What the condition gives of the table. -/
theorem pow_of_laid {W : World} (h : laidMetH Tryz.prog Rows.frameReadsRow.laid W) : Pow10 W := by
  obtain ⟨h1, _⟩ := laidMetH_iff.1 h
  have h2 := h1.filter (fun x => x.1 == "internal/strconv.uint64pow10")
  rw [powOnes] at h2
  rw [show (Rows.laid_internal_strconv_uint64pow10 : DataW Unit) = Lib.tabData .u64 Lib.pow10Tab by kernel_rfl] at h2
  exact Lib.tabIs_of_head pow10_named (by kernel_rfl) Tryz.underlying174 Tryz.underlying112 (by kernel_rfl) (by kernel_rfl) h2

noncomputable def wit (os : Os) : World := (World.doorLaid Tryz.prog 269 os).layVars Tryz.prog [("unicode/utf8.first", Rows.laid_unicode_utf8_first)]
theorem wit_os (os : Os) : (wit os).os = os := (World.layVars_os _ _ _).trans rfl
theorem door_met (os : Os) (args : Array Value) : laidMetH Tryz.prog Rows.frameReadsRow.laid ((wit os).forCall (fun _ _ => 0) ⟨#[], args, []⟩).memory :=
  laidMetH_of_parts3 (fuel := 8) (laidMet_layVars (w0 := World.doorLaid Tryz.prog 269 os) ["unicode/utf8.first"] ((List.range (World.doorLaid Tryz.prog 269 os).heap.size).filter (· != 15)) (by rw [greatOnes]; simp [wit, World.memory, World.forCall, Input.heap]) (by rw [greatOnes]; kernel_rfl) (by rw [greatOnes]; kernel_rfl) (LaidIn.of_run _ 8 (by kernel_rfl) (by kernel_rfl) (by kernel_rfl) (by kernel_rfl))) (by kernel_rfl) (by kernel_rfl)

set_option maxRecDepth 100000 in
theorem lifted (os : Os) (started : os.Started) (H : Type) (enc : TypeId × Value → H) :
    ReturnsInHanded {} Tryz.checked os 4 .any (fun w args => (Rows.frameReadsSpec.pre enc Tryz.prog Tryz.f4 [] false w args ∧ laidMetH Tryz.prog Rows.frameReadsRow.laid w) ∧ sizedMet enc Tryz.prog Tryz.f4 (OpenSpec.ofChange Rows.frameReadsSpec) false w args)
      (Rows.frameReadsSpec.post enc Tryz.prog Tryz.f4 false true false false) := by
  refine returnsInHanded_of_change_and (C := Tryz.checked) (X := fun w _ => laidMetH Tryz.prog Rows.frameReadsRow.laid w) (fun _ _ _ hh h => h.of_heap hh) own started (by kernel_rfl) Tryz.func4
    (ChangeSpec.witness_shaped (enc := enc) (C := Tryz.checked) (os := os) (X := fun w _ => laidMetH Tryz.prog Rows.frameReadsRow.laid w) false (Go.Proofs.YtjcmpkkflboaoaaGreatDoor.frameReads.wit os) #[.slice none 0 0, .slice none 0 0] 8 (wit_os os) (World.shaped_of_ZipB (by kernel_rfl) (by kernel_rfl)) (by kernel_rfl) (by kernel_rfl) (by kernel_rfl) (door_met os _)) ?_
  intro W base args ds gs before hval0 hW _ _ hL hsz
  have hval : ∀ (j : Nat) t v, Tryz.f4.params[j]? = some t → args[j]? = some v → Value.okWide Tryz.prog W .any base t v := hval0
  have hW' := hW
  obtain ⟨p, q, hA0, hV, rfl, hfz, hnd⟩ := hW
  have hA : DataW.TrodAll enc Tryz.prog W 0 (fun _ => true) true Tryz.f4.params.toList args.toList ds p := hA0
  rw [Tryz.params4] at hA hval
  obtain ⟨v0, vs0, d0, ds0, p0, q0, hargs, rfl, rfl, h0, r0⟩ := trodAll_cons hA
  obtain ⟨v1, vs1, d1, ds1, p1, q1, rfl, rfl, rfl, h1, r1⟩ := trodAll_cons r0
  obtain ⟨rfl, rfl, rfl⟩ := trodAll_nil r1
  obtain rfl : args = #[v0, v1] := by cases args; simp_all
  obtain ⟨rfl, rfl⟩ := trodVars_none hV
  have k0 := h0
  have lt0 : ∀ x ∈ p0, x.block < W.heap.size := by obtain ⟨m, hm⟩ := k0; exact DataW.trod_lt m _ _ _ hm
  obtain ⟨a0, cap0, l0, rfl, hl0, hm0, hT0⟩ : ∃ a cap l, v0 = .slice a l.length cap ∧ l.length ≤ cap ∧ cap ≤ 9223372036854775807 ∧ BSl W a l := by
    obtain ⟨a, n, cap, rfl⟩ := okWide_slice Tryz.underlying27 (hval 0 27 v0 rfl rfl)
    obtain ⟨fuel, hf⟩ := h0
    exact open_bytes2 (by simpa [Value.cells] using hf)
  have k1 := h1
  have lt1 : ∀ x ∈ p1, x.block < W.heap.size := by obtain ⟨m, hm⟩ := k1; exact DataW.trod_lt m _ _ _ hm
  obtain ⟨a1, n1, cap1, f1, rfl, hl1, hm1, hT1, hi1⟩ : ∃ a n cap f, v1 = .slice a n cap ∧ n ≤ cap ∧ cap ≤ 9223372036854775807 ∧ IRow W a n f ∧ ∀ j, j < n → In64 (f j) := by
    obtain ⟨a, n, cap, rfl⟩ := okWide_slice Tryz.underlying24 (hval 1 24 v1 rfl rfl)
    obtain ⟨fuel, hf⟩ := h1
    exact open_irow2 (by simpa [Value.cells] using hf)
  obtain ⟨ad, hE⟩ := sents_of_laid hL
  have hN := nums_of_laid hL
  have hP := pow_of_laid hL
  clear hA0 hval0
  refine (frameReads_all ad l0 a0 cap0 hl0 hm0 hT0 f1 a1 n1 cap1 (by omega) hT1 hi1 hE hP hN).mono fun e W' ⟨he, bel⟩ => ?_
  subst he
  exact ⟨_, rfl, _, _, _, [], _, [], hW', trodAll_mk1 (shut_bool Tryz.underlying4 _), trodAll_cons_mk (Below.trod laidOut (by kernel_rfl) (of_decide_eq_true (by kernel_rfl)) k0 bel lt0) (trodAll_cons_mk (Below.trod laidOut (by kernel_rfl) (of_decide_eq_true (by kernel_rfl)) k1 bel lt1) (trodAll_mk0)), rfl, bel.frame _, fun h => by cases h⟩

theorem row_holds : Rows.FrameReadsSaid :=
  OpenClaim.holds_of_wide 4 Tryz.f4 rfl rfl rfl rfl rfl rfl rfl ⟨rfl, rfl, rfl, rfl, rfl⟩ rfl rfl rfl rfl rfl (by kernel_rfl) Tryz.func4 (by kernel_rfl)
    (of_decide_eq_true (by kernel_rfl)) (by unfold Func.isWrapper; first | (rw [if_pos (by decide +kernel)]; kernel_rfl) | (rw [if_neg (by decide +kernel)]; exact ⟨rfl, rfl⟩))
    (fun os started H enc _ => lifted os started H enc)

/-- ████ THE STATEMENT ████ -/
theorem proved : Rows.FrameReadsCardSaid :=
  Claim7.holds_tied_plain_at .later [] [.data, .data, .data, .data, .handle, .sentinel, .sentinel, .sentinel, .sentinel, .sentinel, .sentinel, .sentinel, .sentinel, .sentinel, .sentinel, .sentinel, .sentinel, .pinned] true (true, "ce0fa68a6eb6554de686b4e78390297fc5644b574645642f3d41a3395220eba9") true
    row_holds (fun _ h => by cases h) (by kernel_rfl) (fun _ h => by cases h) frameReads_row_tie rfl ⟨rfl, rfl⟩ (by kernel_rfl) rfl
    (fun f fn hf hfn => by
      obtain rfl : f = 4 := Option.some.inj ((show Tryz.prog.funcNamed "meridian/meridianlaw4.FrameReads" = some 4 by kernel_rfl).symm.trans hf) |>.symm
      obtain rfl : fn = Tryz.f4 := (Option.some.inj (Tryz.func4.symm.trans hfn)).symm
      exact ⟨by kernel_rfl, fun j t ht => by
        rw [Tryz.params4] at ht
        have hm : t ∈ [27, 24] := by simpa using Array.mem_of_getElem? ht
        have hall : ([27, 24].all fun u => !Tryz.prog.wantsStandIn u) = true := by kernel_rfl
        exact (show Tryz.prog.wantsStandIn t = false by simpa using List.all_eq_true.1 hall t hm)⟩)
    (by kernel_rfl)
#print axioms proved
end Go.Proofs.YtjcmpkkflboaoaaGreatDoor.frameReads
