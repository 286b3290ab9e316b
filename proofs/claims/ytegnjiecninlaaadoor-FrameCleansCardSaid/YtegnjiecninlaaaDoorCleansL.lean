/- The law FrameCleans: all its cases. -/
import Derived.Test.YtegnjiecninlaaaDoorCleansK
import Derived.Test.YtegnjiecninlaaaDoorCleanedM
namespace Go.Proofs.YtegnjiecninlaaaDoor
open Go.RowKit

theorem picB_lt (W H : Int) : picB W H < 10 := by unfold picB; split <;> omega

theorem cleans_any (ad : Nat → Addr) {w : World} (x0 : Option Addr) (h0 : PicP w x0) (x1 : Option Addr) (h1 : PicP w x1) (x2 : Option Addr) (h2 : PicP w x2) (full : Int) (_ : In64 full) (hS : Sents w ad) :
    Calls Tryd.prog 6 #[.pointer x0, .pointer x1, .pointer x2, .int .i64 full] w fun e w' => e = .returned (.bool true) ∧ Below w.heap.size w w' := by
  obtain ⟨s0, k0, g0⟩ := small_is h0
  obtain ⟨s1, k1, g1⟩ := small_is h1
  obtain ⟨s2, k2, g2⟩ := small_is h2
  by_cases hs : s0 = true ∧ s1 = true ∧ s2 = true
  · obtain ⟨b0, o0, W0, H0, a0, n0, c0, f0, rfl, l0, _, _, p0⟩ := g0 hs.1
    obtain ⟨b1, o1, W1, H1, a1, n1, c1, f1, rfl, l1, _, _, p1⟩ := g1 hs.2.1
    obtain ⟨b2, o2, W2, H2, a2, n2, c2, f2, rfl, l2, _, _, p2⟩ := g2 hs.2.2
    by_cases r0 : picG W0 H0 n0 f0
    · by_cases r1 : picG W1 H1 n1 f1
      · by_cases r2 : picG W2 H2 n2 f2
        · by_cases hf : fits W0 H0 W1 H1 W2 H2 full (cntP f2 n2)
          · refine cleans_ok ad (fun j => (VL f0 f1 f2 (sumP f2 n2 / (cntP f2 n2 : Int)) n0).getD j 0) (fun j => (FL f0 full n0).getD j 0) (FL f0 full n0).length (by have := FL_len f0 full n0; omega) b0 o0 b1 o1 b2 o2 W0 H0 W1 H1 W2 H2 full f0 f1 f2 a0 a1 a2 n0 n1 n2 c0 c1 c2 w hS ⟨p0, p1, p2⟩ l0 l1 l2 ?_ ?_
            · intro W he i0 i1 i2
              refine (clean_main ad W0 H0 W1 H1 W2 H2 full f0 f1 f2 a0 a1 a2 n0 n1 n2 c0 c1 c2 W he i0 i1 i2 r0 r1 r2).mono ?_
              rintro e w' (⟨_, a, b, ca, cb, he, ha, hb, h1, h2, h3⟩ | ⟨h, _⟩)
              · exact ⟨a, b, ca, cb, he, ha, hb, h1, h2, h3⟩
              · exact absurd hf h
            · intro W hp
              refine (cleaned_main b0 o0 b1 o1 b2 o2 W0 H0 W1 H1 W2 H2 full f0 f1 f2 a0 a1 a2 n0 n1 n2 c0 c1 c2 W hp r0 r1 r2).mono ?_
              rintro e w' (⟨_, a, b, ca, cb, he, ha, hb, h1⟩ | ⟨h, _⟩)
              · exact ⟨a, b, ca, cb, he, ha, hb, h1⟩
              · exact absurd hf h
          · refine cleans_err ad 4 (by decide) b0 o0 b1 o1 b2 o2 W0 H0 W1 H1 W2 H2 full f0 f1 f2 a0 a1 a2 n0 n1 n2 c0 c1 c2 w hS ⟨p0, p1, p2⟩ l0 l1 l2 ?_ ?_
            · intro W he i0 i1 i2
              refine (clean_main ad W0 H0 W1 H1 W2 H2 full f0 f1 f2 a0 a1 a2 n0 n1 n2 c0 c1 c2 W he i0 i1 i2 r0 r1 r2).mono ?_
              rintro e w' (⟨h, _⟩ | ⟨_, he, hb⟩)
              · exact absurd h hf
              · exact ⟨he, hb⟩
            · intro W hp
              refine (cleaned_main b0 o0 b1 o1 b2 o2 W0 H0 W1 H1 W2 H2 full f0 f1 f2 a0 a1 a2 n0 n1 n2 c0 c1 c2 W hp r0 r1 r2).mono ?_
              rintro e w' (⟨h, _⟩ | ⟨_, he, hb⟩)
              · exact absurd h hf
              · exact ⟨he, hb⟩
        · exact cleans_err ad (picB W2 H2) (picB_lt W2 H2) b0 o0 b1 o1 b2 o2 W0 H0 W1 H1 W2 H2 full f0 f1 f2 a0 a1 a2 n0 n1 n2 c0 c1 c2 w hS ⟨p0, p1, p2⟩ l0 l1 l2
            (fun W he i0 i1 i2 => clean_bad2 ad W0 H0 W1 H1 W2 H2 full f0 f1 f2 a0 a1 a2 n0 n1 n2 c0 c1 c2 W he i0 i1 i2 r0 r1 (by omega) r2)
            (fun W hp => cleaned_bad2 b0 o0 b1 o1 b2 o2 W0 H0 W1 H1 W2 H2 full f0 f1 f2 a0 a1 a2 n0 n1 n2 c0 c1 c2 W hp r0 r1 (by omega) r2)
      · exact cleans_err ad (picB W1 H1) (picB_lt W1 H1) b0 o0 b1 o1 b2 o2 W0 H0 W1 H1 W2 H2 full f0 f1 f2 a0 a1 a2 n0 n1 n2 c0 c1 c2 w hS ⟨p0, p1, p2⟩ l0 l1 l2
          (fun W he i0 i1 i2 => clean_bad1 ad W0 H0 W1 H1 W2 H2 full f0 f1 f2 a0 a1 a2 n0 n1 n2 c0 c1 c2 W he i0 i1 i2 r0 (by omega) r1)
          (fun W hp => cleaned_bad1 b0 o0 b1 o1 b2 o2 W0 H0 W1 H1 full f0 f1 a0 a1 n0 n1 c0 c1 W hp.1 hp.2.1 r0 (by omega) r1)
    · exact cleans_err ad (picB W0 H0) (picB_lt W0 H0) b0 o0 b1 o1 b2 o2 W0 H0 W1 H1 W2 H2 full f0 f1 f2 a0 a1 a2 n0 n1 n2 c0 c1 c2 w hS ⟨p0, p1, p2⟩ l0 l1 l2
        (fun W he i0 i1 i2 => clean_bad0 ad W0 H0 W1 H1 W2 H2 full f0 f1 f2 a0 a1 a2 n0 n1 n2 c0 c1 c2 W he i0 i1 i2 (by omega) r0)
        (fun W hp => cleaned_bad0 b0 o0 b1 o1 b2 o2 W0 H0 full f0 a0 n0 c0 W hp.1 (by omega) r0)
  · exact cleans_short ad x0 x1 x2 full w hS s0 s1 s2 hs k0 k1 k2
end Go.Proofs.YtegnjiecninlaaaDoor
