/- LightOnce: ████ FROM ITS ENTRY TO ITS END, on every tape ████ (printed by tools/genhj.py). -/
import Derived.Test.YtnlopklbbajlbaaSwHH
set_option linter.unusedVariables false
set_option linter.unusedSimpArgs false
set_option maxRecDepth 100000
namespace Go.Proofs.Ytnlopklbbajlbaa.Sw
open Go Go.Conc Go.ConcN Go.RowKit
open Go.ConcR (DC0 stA smA)
section
variable {W : World} {lp wp : Option Addr} {L lc K wc : Nat} {rq : Nat → Option Addr} {rn rc : Nat → Nat} {s : Nat → Nat → ByteArray} {wk : Nat → Int}
theorem row_see {A : Nat} {M : Option Nat} {w w' : World} {b n : Nat} {v : Value} {xs : List Value} {S : List ByteArray} (h : w.ownsRow b 9 1 v n xs) (hA : AlAt w A S M) (g : SeeW A M w w') : w'.ownsRow b 9 1 v n xs := by
  refine ⟨h.1, h.2.imp id fun ⟨g', cap, cur, e, hb, hg, r⟩ => ⟨g', cap, cur, e, hb, ?_, r⟩⟩
  rw [g.block g' (Array.getElem?_eq_some_iff.1 hg).1 (fun e => ?_) (fun e => ?_)]
  · exact hg
  · rw [e, hA.1] at hg; cases hg
  · obtain ⟨es, ck, e1, _⟩ := hA.2.2.2 g' e
    rw [e1] at hg; cases hg
theorem MSt.stop {Stop : (Loc → Prop) → Goroutine → World → Prop} {Shun : Loc → Prop} {a : Goroutine} {w : World} {m : Machine} {t : Trace} (h : MSt Shun a w m t) (hs : Stop Shun a w) : RunsTo Stop m t := ⟨0, m, t, Shun, a, w, rfl, h, hs⟩
set_option maxHeartbeats 16000000 in
/-- ████ ROW BY ROW. ████ -/
theorem drive_loop (hI : Inp W lp L wp K rq rn rc s wk) (hsm : Small L rn) : ∀ rem i, i + rem = L → 0 < rem → ∀ (Shun : Loc → Prop) (a : Goroutine) (w : World) (m : Machine) (t : Trace), MSt Shun a w m t → CallI W lp L lc wp K wc rq rn rc i Shun a w → RunsTo (FinL W) m t := by
  intro rem
  induction rem with
  | zero => intro i _ h; omega
  | succ rem ih =>
    rintro i hi _ Shun a w m t hm ⟨A, S, M, sn, sv, wv, T, hO, hsl, hS, rfl⟩
    have hlt : i < L := by omega
    have hri := hsm.2 i hlt
    have hLs := hsm.1
    have hSl : S.length = sn.length := nodup_len hO.al.2.1 hO.nodup hO.same
    obtain ⟨nb, no, hr⟩ : ∃ nb no, 0 < rn i → rq i = some ⟨nb, no, none⟩ ∧ ∀ k, k < rn i → W.cell? ⟨nb, no + k, none⟩ = some (.string (s i k)) := by
      by_cases h0 : 0 < rn i
      · obtain ⟨b, o, h1, h2⟩ := hI.r i hlt h0
        exact ⟨b, o, fun _ => ⟨h1, h2⟩⟩
      · exact ⟨0, 0, fun h => absurd h h0⟩
    have hnW := newF_congr hO.same (conF (s i) (rn i))
    refine RunsTo.bind (Stop := fun Sh g w => FinL W Sh g w ∨ (i + 1 < L ∧ CallI W lp L lc wp K wc rq rn rc (i + 1) Sh g w)) (seeCall (S := S) (M := M) (H0 := W.heap.size) (nm := s i) (nb := nb) (no := no) hm hO.al hS (by omega) (by omega) (fun h => (hr h).1) (fun k hk => hO.lw.cell ((hr (by omega)).2 k hk)) (fun h => ?_) hO.lw.size rfl (fun Wg w' vo S2 M2 hWg hsee hal hM2 hmem hsh hrow => ?_)) ?_
    · have h1 : nb < W.heap.size := block_lt ((hr h).2 0 h)
      have h2 := hO.aH
      exact ⟨by omega, fun e => by have := hO.mH nb e; omega, fun ad had => hS.below (by omega)⟩
    · rw [hnW] at hrow
      obtain ⟨p, c, rfl⟩ : ∃ p c, vo = .slice p (newF sn (conF (s i) (rn i))).length c := by
        rcases hrow.2 with ⟨e, h0⟩ | ⟨g, cap, cur, e, _⟩
        · exact ⟨none, 0, by rw [e, h0]⟩
        · exact ⟨_, _, e⟩
      have hws := hO.lw.size
      exact segR (lc := lc) (wc := wc) hI hsm hlt hsl hO.nodup (fun x => by rw [hmem x, hO.same x]) (T 2) (T 3) (T 6) (T 7) (T 8) (T 11) (T 12) (T 13) (T 14) (T 15) (T 16) (T 17) (T 18) (T 19) (T 20) (T 21) (T 22) (T 23) (T 24) (T 25) (T 26) (T 27) (T 28) (T 29) (T 30) (T 31) (T 32) (T 33) (T 34) (T 35) (T 36) (T 37) (T 38) (T 39) (T 40) (T 41) (T 42) (T 43) (T 44) (T 45) (T 46) (T 47) (T 48) (T 49) (T 50) (T 51) (T 52) (T 53) (T 54) (T 55) (T 56) (T 57) (T 58) (T 59) (T 60) (T 61) (T 62) (T 63) (T 64) (T 65) (T 66) (T 67) (T 68) (T 69) (T 70) (T 71) (T 72) (T 73) (T 74) (T 75) (T 76) (T 77) (T 78) (T 79) (T 80) (T 81) (T 82) (T 83) (T 84) (T 85) (T 86) (T 87) (T 88) (T 89) (T 90) (T 91) (T 92) (T 93) (T 94) (T 95) (T 96) (T 97) (T 98) (T 99) (T 100) (T 101) (T 102) (T 103) (T 104) (T 105) (T 106) (T 107) (T 108) (T 109) (T 110) (T 111) (T 112) (T 113) (T 114) (T 115) (T 116) (T 117) (T 118) (T 119) (T 120) (T 121) (T 122) (T 123) (T 124) (T 125) (T 126) (T 127) (T 128) (T 129) (T 130) (T 131)
        ⟨hO.lw.see hsee hO.aH hO.mH, hal, hO.aH, fun mp e => by
          rcases hM2 mp e with h | h
          · exact hO.mH mp h
          · omega, row_see hO.row hO.al hsee, ⟨hrow.1, hrow.2.imp id fun ⟨g, cap, cur, e, hb, r⟩ => ⟨g, cap, cur, e, by omega, r⟩⟩, fun g hg e => by
          have h1 := (hrow.lt g hg).1
          have h2 := (hO.row.lt g e).2
          omega, hsh⟩
    · rintro Sh g w2 m2 t2 hm2 (h | ⟨h1, h2⟩)
      · exact hm2.stop h
      · exact ih (i + 1) (by omega) (by omega) Sh g w2 m2 t2 hm2 h2

def nm0 : Nat → ByteArray := fun k => [bA, bB, bA].getD k bA
theorem bAB : bA ≠ bB := by decide
theorem conF0 : conF nm0 3 = [bA, bB] := by
  have e1 : conF nm0 1 = [bA] := by
    simp only [conF, memB_false.2 (show nm0 0 ∉ [] from List.not_mem_nil)]
    rfl
  have e2 : conF nm0 2 = [bA, bB] := by
    rw [conF, e1, memB_false.2 (show nm0 1 ∉ [bA] from fun h => by simp [nm0] at h; exact bAB h.symm)]
    rfl
  rw [conF, e2, memB_true.2 (show nm0 2 ∈ [bA, bB] from by simp [nm0])]
  rfl
theorem newF0 : newF [] (conF nm0 3) = [bA, bB] := by
  rw [conF0]
  unfold newF
  simp [memB_false.2 (show bA ∉ ([] : List ByteArray) from List.not_mem_nil), memB_false.2 (show bB ∉ ([] : List ByteArray) from List.not_mem_nil)]
set_option maxHeartbeats 16000000 in
/-- ████ THE WHOLE RUN. ████ -/
theorem drive (hI : Inp W lp L wp K rq rn rc s wk) {m : Machine} {t : Trace} (hm : MSt (fun _ => False) (G ((Go.Conc.base 3).at ⟨#[.slice lp L lc, .slice wp K wc, undef, undef, undef, undef, undef, undef, undef, undef, undef, undef, undef, undef, undef, undef, undef, undef, undef, undef, undef, undef, undef, undef, undef, undef, undef, undef, undef, undef, undef, undef, undef, undef, undef, undef, undef, undef, undef, undef, undef, undef, undef, undef, undef, undef, undef, undef, undef, undef, undef, undef, undef, undef, undef, undef, undef, undef, undef, undef, undef, undef, undef, undef, undef, undef, undef, undef, undef, undef, undef, undef, undef, undef, undef, undef, undef, undef, undef, undef, undef, undef, undef, undef, undef, undef, undef, undef, undef, undef, undef, undef, undef, undef, undef, undef, undef, undef, undef, undef, undef, undef, undef, undef, undef, undef, undef, undef, undef, undef, undef, undef, undef, undef, undef, undef, undef, undef, undef, undef, undef, undef, undef, undef, undef, undef, undef, undef, undef, undef, undef, undef], []⟩ [.code body3]) []) W m t) : RunsTo (FinL W) m t := by
  obtain ⟨n0, hn0⟩ := seg0 (Shun := fun _ => False) (W := W) (lv := .slice lp L lc) (wv := .slice wp K wc)
  refine RunsTo.bind (Stop := fun Sh g w => (fun _ => False) = Sh ∧ Call0 W (.slice lp L lc) (.slice wp K wc) g w) (RunsTo.walk hm (Go.ConcN.goes_mono (fun g w h => ⟨rfl, h⟩) hn0)) ?_
  rintro _ a w m t hm ⟨rfl, A0, T, hA0, rfl, hg, hsz, hc, hrow⟩
  have hlw : Lw W w := ⟨by rw [hg.os]; exact .refl _, hg.tape, hg.output, hg.size, fun b hb => hg.block b hb (by simp)⟩
  have hal : AlAt w A0 [] none := ⟨hc, List.nodup_nil, fun _ => rfl, fun mp e => (by cases e)⟩
  refine RunsTo.bind (Stop := fun Sh g w => FinL W Sh g w ∨ (Small L rn ∧ 0 < L ∧ CallI W lp L lc wp K wc rq rn rc 0 Sh g w)) (seeCall (S := []) (M := none) (H0 := W.heap.size) (nm := nm0) (nb := A0 + 1) (no := 0) hm hal (fun l h => h.elim) (by decide) (by decide) (fun _ => rfl) (fun k hk => ?_) (fun _ => ⟨by omega, by simp, fun _ _ h => h⟩) hg.size rfl (fun Wg w' vo S2 M2 hWg hsee hal2 hM2 hmem hsh hrow2 => ?_)) ?_
  · rw [Nat.zero_add]
    obtain rfl | rfl | rfl : k = 0 ∨ k = 1 ∨ k = 2 := by omega
    · exact cell_h hrow rfl
    · exact cell_h hrow rfl
    · exact cell_h hrow rfl
  · rw [newF0] at hrow2
    obtain ⟨p, c, rfl⟩ : ∃ p c, vo = .slice p 2 c := by
      rcases hrow2.2 with ⟨e, h0⟩ | ⟨g, cap, cur, e, _⟩
      · exact absurd h0 (by decide)
      · exact ⟨_, _, e⟩
    have hl2 : S2.length = 2 := by
      have := nodup_len (l := S2) (l' := [bA, bB]) hal2.2.1 (by simp [bAB]) (fun x => by rw [hmem x, conF0]; simp)
      simpa using this
    exact seg1 (lc := lc) (wc := wc) hI (hlw.see hsee (by omega) (fun mp e => (by cases e))) hsh hal2 hl2 (T 2) (T 3) (T 6) (T 7) (T 8) (T 9) (T 10) (T 11) (T 12) (T 13) (T 14) (T 15) (T 16) (T 17) (T 18) (T 19) (T 20) (T 21) (T 22) (T 23) (T 24) (T 25) (T 26) (T 27) (T 28) (T 29) (T 30) (T 31) (T 32) (T 33) (T 34) (T 35) (T 36) (T 37) (T 38) (T 39) (T 40) (T 41) (T 42) (T 43) (T 44) (T 45) (T 46) (T 47) (T 48) (T 49) (T 50) (T 51) (T 52) (T 53) (T 54) (T 55) (T 56) (T 57) (T 58) (T 59) (T 60) (T 61) (T 62) (T 63) (T 64) (T 65) (T 66) (T 67) (T 68) (T 69) (T 70) (T 71) (T 72) (T 73) (T 74) (T 75) (T 76) (T 77) (T 78) (T 79) (T 80) (T 81) (T 82) (T 83) (T 84) (T 85) (T 86) (T 87) (T 88) (T 89) (T 90) (T 91) (T 92) (T 93) (T 94) (T 95) (T 96) (T 97) (T 98) (T 99) (T 100) (T 101) (T 102) (T 103) (T 104) (T 105) (T 106) (T 107) (T 108) (T 109) (T 110) (T 111) (T 112) (T 113) (T 114) (T 115) (T 116) (T 117) (T 118) (T 119) (T 120) (T 121) (T 122) (T 123) (T 124) (T 125) (T 126) (T 127) (T 128) (T 129) (T 130) (T 131)
  · rintro Sh g w2 m2 t2 hm2 (h | ⟨h1, h2, h3⟩)
    · exact hm2.stop h
    · exact drive_loop hI h1 L 0 (by omega) h2 Sh g w2 m2 t2 hm2 h3
/-- .. IT ENDS, IN 'Good'. -/
theorem lightEnds (hI : Inp W lp L wp K rq rn rc s wk) (sl : Option (Nat × Nat)) :
    ∃ N last o w' t', runNT Try.prog (N + 1) (crowd #[G ((Go.Conc.base 3).at ⟨#[.slice lp L lc, .slice wp K wc, undef, undef, undef, undef, undef, undef, undef, undef, undef, undef, undef, undef, undef, undef, undef, undef, undef, undef, undef, undef, undef, undef, undef, undef, undef, undef, undef, undef, undef, undef, undef, undef, undef, undef, undef, undef, undef, undef, undef, undef, undef, undef, undef, undef, undef, undef, undef, undef, undef, undef, undef, undef, undef, undef, undef, undef, undef, undef, undef, undef, undef, undef, undef, undef, undef, undef, undef, undef, undef, undef, undef, undef, undef, undef, undef, undef, undef, undef, undef, undef, undef, undef, undef, undef, undef, undef, undef, undef, undef, undef, undef, undef, undef, undef, undef, undef, undef, undef, undef, undef, undef, undef, undef, undef, undef, undef, undef, undef, undef, undef, undef, undef, undef, undef, undef, undef, undef, undef, undef, undef, undef, undef, undef, undef, undef, undef, undef, undef, undef, undef], []⟩ [.code body3]) []] W sl) #[] = (.ended o w', t') ∧ runN Try.prog N (crowd #[G ((Go.Conc.base 3).at ⟨#[.slice lp L lc, .slice wp K wc, undef, undef, undef, undef, undef, undef, undef, undef, undef, undef, undef, undef, undef, undef, undef, undef, undef, undef, undef, undef, undef, undef, undef, undef, undef, undef, undef, undef, undef, undef, undef, undef, undef, undef, undef, undef, undef, undef, undef, undef, undef, undef, undef, undef, undef, undef, undef, undef, undef, undef, undef, undef, undef, undef, undef, undef, undef, undef, undef, undef, undef, undef, undef, undef, undef, undef, undef, undef, undef, undef, undef, undef, undef, undef, undef, undef, undef, undef, undef, undef, undef, undef, undef, undef, undef, undef, undef, undef, undef, undef, undef, undef, undef, undef, undef, undef, undef, undef, undef, undef, undef, undef, undef, undef, undef, undef, undef, undef, undef, undef, undef, undef, undef, undef, undef, undef, undef, undef, undef, undef, undef, undef, undef, undef, undef, undef, undef, undef, undef, undef], []⟩ [.code body3]) []] W sl) = .next last ∧ step Try.prog last = .ended o w' ∧ Good Try.prog (fun v w => v = .bool true ∧ Lw W w) last o w' t' := by
  obtain ⟨N, m', t', Shun, a, w, h1, ⟨gs, sl', qq, rfl, h0, hL, hP⟩, h3⟩ := drive (lc := lc) (wc := wc) hI (m := crowd #[G ((Go.Conc.base 3).at ⟨#[.slice lp L lc, .slice wp K wc, undef, undef, undef, undef, undef, undef, undef, undef, undef, undef, undef, undef, undef, undef, undef, undef, undef, undef, undef, undef, undef, undef, undef, undef, undef, undef, undef, undef, undef, undef, undef, undef, undef, undef, undef, undef, undef, undef, undef, undef, undef, undef, undef, undef, undef, undef, undef, undef, undef, undef, undef, undef, undef, undef, undef, undef, undef, undef, undef, undef, undef, undef, undef, undef, undef, undef, undef, undef, undef, undef, undef, undef, undef, undef, undef, undef, undef, undef, undef, undef, undef, undef, undef, undef, undef, undef, undef, undef, undef, undef, undef, undef, undef, undef, undef, undef, undef, undef, undef, undef, undef, undef, undef, undef, undef, undef, undef, undef, undef, undef, undef, undef, undef, undef, undef, undef, undef, undef, undef, undef, undef, undef, undef, undef, undef, undef, undef, undef, undef, undef], []⟩ [.code body3]) []] W sl) (t := #[]) ⟨_, sl, fun _ => 0, rfl, rfl, leavers_one _ _, past_nil.mono (Nat.zero_le _)⟩
  obtain ⟨N2, last, o, w', t2, e1, e2, e3, e4⟩ := beside_ends (P := Try.prog) (Shun := Shun) (B := w.heap.size) (D := fun _ _ _ => False) (Post := fun v w => v = .bool true ∧ Lw W w) (n := 0) (fun _ _ _ h => h.elim) h0 hL hP (sl := sl') (Goes.stop fun w₁ hr => (by obtain ⟨d, rfl⟩ := hr; exact h3 d))
  have h4 : runN Try.prog N (crowd #[G ((Go.Conc.base 3).at ⟨#[.slice lp L lc, .slice wp K wc, undef, undef, undef, undef, undef, undef, undef, undef, undef, undef, undef, undef, undef, undef, undef, undef, undef, undef, undef, undef, undef, undef, undef, undef, undef, undef, undef, undef, undef, undef, undef, undef, undef, undef, undef, undef, undef, undef, undef, undef, undef, undef, undef, undef, undef, undef, undef, undef, undef, undef, undef, undef, undef, undef, undef, undef, undef, undef, undef, undef, undef, undef, undef, undef, undef, undef, undef, undef, undef, undef, undef, undef, undef, undef, undef, undef, undef, undef, undef, undef, undef, undef, undef, undef, undef, undef, undef, undef, undef, undef, undef, undef, undef, undef, undef, undef, undef, undef, undef, undef, undef, undef, undef, undef, undef, undef, undef, undef, undef, undef, undef, undef, undef, undef, undef, undef, undef, undef, undef, undef, undef, undef, undef, undef, undef, undef, undef, undef, undef, undef], []⟩ [.code body3]) []] W sl) = .next (crowd gs w sl') := by
    have := runNT_fst Try.prog N (crowd #[G ((Go.Conc.base 3).at ⟨#[.slice lp L lc, .slice wp K wc, undef, undef, undef, undef, undef, undef, undef, undef, undef, undef, undef, undef, undef, undef, undef, undef, undef, undef, undef, undef, undef, undef, undef, undef, undef, undef, undef, undef, undef, undef, undef, undef, undef, undef, undef, undef, undef, undef, undef, undef, undef, undef, undef, undef, undef, undef, undef, undef, undef, undef, undef, undef, undef, undef, undef, undef, undef, undef, undef, undef, undef, undef, undef, undef, undef, undef, undef, undef, undef, undef, undef, undef, undef, undef, undef, undef, undef, undef, undef, undef, undef, undef, undef, undef, undef, undef, undef, undef, undef, undef, undef, undef, undef, undef, undef, undef, undef, undef, undef, undef, undef, undef, undef, undef, undef, undef, undef, undef, undef, undef, undef, undef, undef, undef, undef, undef, undef, undef, undef, undef, undef, undef, undef, undef, undef, undef, undef, undef, undef, undef], []⟩ [.code body3]) []] W sl) #[]
    rw [h1] at this
    exact this.symm
  exact ⟨N + N2, last, o, w', t2, by rw [Nat.add_assoc, runNT_add, h1]; exact e1, by rw [runN_add, h4]; exact e2, e3, e4⟩
end
end Go.Proofs.Ytnlopklbbajlbaa.Sw
