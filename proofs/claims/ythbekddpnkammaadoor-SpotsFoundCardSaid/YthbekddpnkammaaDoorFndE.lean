/- spots.Find and meridianref4.SpotsOf at what is wrong. -/
import Derived.Test.YthbekddpnkammaaDoorFnd1
import Derived.Test.YthbekddpnkammaaDoorOver
import Derived.BigQuiet
import Derived.Test.YthbekddpnkammaaDoorSof
import Derived.Test.YthbekddpnkammaaDoorSpotd
import Derived.Test.YthbekddpnkammaaDoorSmall
import Derived.Test.YthbekddpnkammaaDoorCoded4
namespace Go.Proofs.YthbekddpnkammaaDoor
open Go.RowKit

set_option maxRecDepth 10000 in
set_option maxHeartbeats 1000000 in
theorem find_bad (ad : Nat → Addr) (k : Nat) (W H T over least : Int) (a : Option Addr) (n cap : Nat) (w : World)
    (hL : ∀ w', Below w.heap.size w w' → Calls Tryd.prog 14 #[.agg #[.int .i64 W, .int .i64 H, .slice a n cap], .int .i64 T, .int .i64 over] w' fun e w'' => e = .returned (.tuple #[.slice none 0 0, errV ad k]) ∧ Below w'.heap.size w' w'') :
    Calls Tryd.prog 9 #[.agg #[.int .i64 W, .int .i64 H, .slice a n cap], .int .i64 T, .int .i64 over, .int .i64 least] w fun e w' => e = .returned (.tuple #[.slice none 0 0, errV ad k]) ∧ Below w.heap.size w w' := by
  have HB0 : Hid (∀ o1 o2, Below w.heap.size w ((w.alloc o1).alloc o2)) := Lib.hid (fun o1 o2 => below2 o1 o2)
  have HV := Lib.hid hL
  clear hL
  unfold errV at *
  go_enter Tryd.func9, Tryd.ntmps9
  go_wp2_with fail
  refine (HV.out _ (HB0.out _ _)).mono ?_; rintro e w1 ⟨rfl, hb1⟩
  have HB := Lib.hid (below_step (HB0.out _ _) hb1)
  clear hb1 HV
  go_wp2
  go_ret2
  exact ⟨rfl, HB.out⟩
set_option maxRecDepth 10000 in
set_option maxHeartbeats 1000000 in
theorem find_low (ad : Nat → Addr) (W H T : Nat) (over least : Int) (f : Nat → Int) (a : Option Addr) (n cap : Nat) (w : World) (he : Errs w ad [1, 4]) (h : IRow w a n f) (g : picG W H n f) (hT : 1 ≤ T) (hT2 : T ≤ 256) (ho : 0 ≤ over) (hle : least < 1) :
    Calls Tryd.prog 9 #[.agg #[.int .i64 W, .int .i64 H, .slice a n cap], .int .i64 T, .int .i64 over, .int .i64 least] w fun e w' => e = .returned (.tuple #[.slice none 0 0, errV ad 4]) ∧ Below w.heap.size w w' := by
  have HB0 : Hid (∀ o1 o2, Below w.heap.size w ((w.alloc o1).alloc o2)) := Lib.hid (fun o1 o2 => below2 o1 o2)
  have HV := Lib.hid (fun w' (hb : Below w.heap.size w w') => lit_ok ad W H T over f a n cap w' (he.below hb) (h.below hb) g hT hT2 ho)
  have HE := Lib.hid he
  have d0 : decide (least < 1) = true := by simpa using hle
  clear he h g hle
  unfold errV at *
  go_enter Tryd.func9, Tryd.ntmps9
  go_wp2_with fail
  refine (HV.out _ (HB0.out _ _)).mono ?_; rintro e w1 ⟨gb, rfl, hlit, hb1⟩
  have s3 : w1.cell? ⟨w.heap.size + 1, 0, none⟩ = some (.int .i64 least) := by rw [hb1.cell (p := ⟨w.heap.size + 1, 0, none⟩) (by simp)]; simp
  have hbw := below_step (HB0.out _ _) hb1
  have e4 : w1.cell? ⟨0, 0, none⟩ = some (.iface 145 (.pointer (some (ad 4)))) := (HE.out.below hbw) 4 (by decide)
  have HB := Lib.hid hbw
  clear hb1 HV hlit hbw
  go_wp2
  go_quiet (fail)
  go_wp2
  go_ret2
  exact ⟨rfl, below_drewN HB.out _⟩
set_option maxRecDepth 10000 in
set_option maxHeartbeats 1000000 in
theorem spotsOf_bad (T over least : Int) (x : Option Addr) (e0 : Int) (he0 : 0 < e0) (w : World)
    (hG : Calls Tryd.prog 11 #[.pointer x, .int .i64 T] w fun e w' => e = .returned (.tuple #[.slice none 0 0, .int .i64 e0]) ∧ Below w.heap.size w w') :
    Calls Tryd.prog 16 #[.pointer x, .int .i64 T, .int .i64 over, .int .i64 least] w fun e w' => e = .returned (.tuple #[.slice none 0 0, .int .i64 e0]) ∧ Below w.heap.size w w' := by
  have HV := Lib.hid hG
  clear hG
  go_enter Tryd.func16, Tryd.ntmps16
  go_wp2_with fail
  refine HV.out.mono ?_; rintro e w1 ⟨rfl, hb1⟩
  have HB := Lib.hid hb1
  clear hb1 HV
  go_wp2
  go_ret2
  exact ⟨rfl, HB.out⟩
set_option maxRecDepth 10000 in
set_option maxHeartbeats 1000000 in
theorem spotsOf_low (W H T : Nat) (over least : Int) (f : Nat → Int) (b o : Nat) (a : Option Addr) (n cap : Nat) (w : World) (hp : PicAt w b o W H a n cap f) (g : picG W H n f) (hT : 1 ≤ T) (hT2 : T ≤ 256) (ho : over < 0 ∨ least < 1) :
    Calls Tryd.prog 16 #[.pointer (some ⟨b, o, none⟩), .int .i64 T, .int .i64 over, .int .i64 least] w fun e w' => e = .returned (.tuple #[.slice none 0 0, .int .i64 5]) ∧ Below w.heap.size w w' := by
  have HV := Lib.hid (groundOf_ok W H T f b o a n cap w hp g hT hT2)
  clear hp g
  go_enter Tryd.func16, Tryd.ntmps16
  go_wp2_with fail
  refine HV.out.mono ?_; rintro e w1 ⟨ga, gc, rfl, _, hb1⟩
  have HB := Lib.hid hb1
  clear hb1 HV
  by_cases c : over < 0
  · have d : decide (over < 0) = true := by simpa using c
    clear ho
    go_wp2
    go_ret2
    exact ⟨rfl, HB.out⟩
  · have d : decide (over < 0) = false := by simpa using c
    have d2 : decide (least < 1) = true := by simp; omega
    clear ho
    go_wp2
    go_ret2
    exact ⟨rfl, HB.out⟩
end Go.Proofs.YthbekddpnkammaaDoor

namespace Go.Proofs.YthbekddpnkammaaDoor
open Go.RowKit

theorem picB_lt4 (W H : Int) : picB W H < 10 := by unfold picB; split <;> omega
set_option maxHeartbeats 1000000 in
/-- A reference's spot turned into a program's. -/
theorem spot_any (s : Sp) (w : World) : Calls Tryd.prog 17 #[aggSp s] w fun e w' => e = .returned (aggSp s) ∧ Below w.heap.size w w' := by
  have HB0 : Hid (∀ o1 o2, Below w.heap.size w ((w.alloc o1).alloc o2)) := Lib.hid (fun o1 o2 => below2 o1 o2)
  obtain ⟨sL, sT, sR, sO, sP, sI, sX, sY, sS⟩ := s
  unfold aggSp
  go_enter Tryd.func17, Tryd.ntmps17
  go_wp2
  refine bodyPost_ret (v := .agg #[.int .i64 sL, .int .i64 sT, .int .i64 sR, .int .i64 sO, .int .i64 sP, .int .i64 sI, .int .i64 sX, .int .i64 sY, .int .i64 sS]) ?_ rfl ?_
  · simp [results, Tryd.results17, go_sem]
  refine ⟨rfl, ?_⟩
  repeat' first | exact HB0.out _ _ | with_reducible refine Below.drew ?_ | with_reducible refine Below.setCell ?_ (by simp) _
/-- A row of spots that a slice shows. -/
def SRow (w : World) (pa : Option Addr) (L : List Sp) : Prop := L = [] ∨ ∃ g, pa = some ⟨g, 0, none⟩ ∧ OutZ w g (L.length * 9) (cellZ fun p => L.getD p Sp.nil)
theorem SRow.at {w w' : World} {pa : Option Addr} {L : List Sp} (h : SRow w pa L) {k : Nat} (hk : k < L.length) (hb : Below w.heap.size w w') : ∃ g, pa = some ⟨g, 0, none⟩ ∧ g < w.heap.size ∧ w'.cell? ⟨g, k * 9, none⟩ = some (.int .i64 (L.getD k Sp.nil).L) ∧ w'.cell? ⟨g, k * 9 + 1, none⟩ = some (.int .i64 (L.getD k Sp.nil).T) ∧ w'.cell? ⟨g, k * 9 + 2, none⟩ = some (.int .i64 (L.getD k Sp.nil).R) ∧ w'.cell? ⟨g, k * 9 + 3, none⟩ = some (.int .i64 (L.getD k Sp.nil).Lo) ∧ w'.cell? ⟨g, k * 9 + 4, none⟩ = some (.int .i64 (L.getD k Sp.nil).P) ∧ w'.cell? ⟨g, k * 9 + 5, none⟩ = some (.int .i64 (L.getD k Sp.nil).Li) ∧ w'.cell? ⟨g, k * 9 + 6, none⟩ = some (.int .i64 (L.getD k Sp.nil).X) ∧ w'.cell? ⟨g, k * 9 + 7, none⟩ = some (.int .i64 (L.getD k Sp.nil).Y) ∧ w'.cell? ⟨g, k * 9 + 8, none⟩ = some (.int .i64 (L.getD k Sp.nil).SL) := by
  rcases h with rfl | ⟨g, rfl, hO⟩
  · exact absurd hk (Nat.not_lt_zero _)
  · exact ⟨g, rfl, cell_lt (hO (k * 9) (by omega)).1, cell9' (hO.below hb) hk⟩
theorem own_srow {w : World} {base e n : Nat} {v : Value} {L : List Sp} (h : w.ownsRow base e 9 v n (encL L)) (hn : n = L.length) : ∃ pa cap, v = .slice pa L.length cap ∧ SRow w pa L := by
  subst hn
  rcases h.2 with ⟨rfl, h0⟩ | ⟨g, cap, cur, rfl, h1, h2, h3, h4⟩
  · have e0 : L = [] := List.eq_nil_of_length_eq_zero h0
    subst e0
    exact ⟨none, 0, rfl, Or.inl rfl⟩
  · exact ⟨_, cap, rfl, Or.inr ⟨g, rfl, own_outZ h rfl⟩⟩
theorem found_same {W H n m : Nat} {l Z : Nat → Int} {M : Nat → Nat} {least : Int} {lit : Nat → Bool} (hW : 1 ≤ W) (hn : n = H * W) (hl : 1 ≤ least) (hZ : Labels lit W n Z) (hM : FI lit W n n M) : refL (fun p => rfS W H l Z p n) least m = foundL W l M n m least :=
  refL_eq hl m (fun p _ => rfS_few hW hn (fun i hi => labels_one hZ hM.labels i hi) p)
theorem foundL_len {W n m : Nat} {l : Nat → Int} {M : Nat → Nat} {least : Int} : (foundL W l M n m least).length ≤ m := by
  have h1 : ∀ A : List Sp, (placeAll A).length = A.length := fun A => by
    have h2 : ∀ A B : List Sp, (A.foldl placeL B).length = B.length + A.length := fun A => by
      induction A with
      | nil => intro B; rfl
      | cons x A ih => intro B; rw [List.foldl_cons, ih, placeL_len, List.length_cons]; omega
    have := h2 A []
    rw [List.length_nil, Nat.zero_add] at this
    exact this
  have h3 : ∀ (S : Nat → Sp) j, (stayL S least j).length ≤ j := fun S j => by
    induction j with
    | zero => exact Nat.le_refl _
    | succ j ih =>
      rw [stayL, List.length_append]
      split
      · exact Nat.le_succ_of_le ih
      · exact Nat.succ_le_succ ih
  unfold foundL
  rw [h1, List.length_map]
  exact h3 _ _
/-- The law where the picture is none, or a number is wrong. -/
theorem found_bad (ad : Nat → Addr) {w : World} (hE : Sents w ad) (W H T over least : Int) (f : Nat → Int) (b o : Nat) (a : Option Addr) (n cap : Nat) (hp : PicAt w b o W H a n cap f) (ev : Value) (e0 : Int)
    (hF : ∀ w', Below w.heap.size w w' → Calls Tryd.prog 9 #[.agg #[.int .i64 W, .int .i64 H, .slice a n cap], .int .i64 T, .int .i64 over, .int .i64 least] w' fun e w'' => e = .returned (.tuple #[.slice none 0 0, ev]) ∧ Below w'.heap.size w' w'')
    (hR : ∀ w', Below w.heap.size w w' → Calls Tryd.prog 16 #[.pointer (some ⟨b, o, none⟩), .int .i64 T, .int .i64 over, .int .i64 least] w' fun e w'' => e = .returned (.tuple #[.slice none 0 0, .int .i64 e0]) ∧ Below w'.heap.size w' w'')
    (hC : ∀ w', Below w.heap.size w w' → Calls Tryd.prog 12 #[ev, .int .i64 e0] w' fun e w'' => e = .returned (.bool true) ∧ Below w'.heap.size w' w'')
    (hSm : ∀ W, Below w.heap.size w W → Calls Tryd.prog 7 #[.pointer (some ⟨b, o, none⟩)] W fun e w' => e = .returned (.bool true) ∧ W = w') :
    Calls Tryd.prog 5 #[.pointer (some ⟨b, o, none⟩), .int .i64 T, .int .i64 over, .int .i64 least] w fun e w' => e = .returned (.bool true) ∧ Below w.heap.size w w' := by
  have HS := Lib.hid (spotted_any ad w (hE.errs _ (by decide)))
  have HF := Lib.hid hF
  have HR := Lib.hid hR
  have HC := Lib.hid hC
  have HSm := Lib.hid hSm
  have HPi := Lib.hid hp
  clear hE hF hR hC hSm hp
  go_enter Tryd.func5, Tryd.ntmps5
  go_wp2_with fail
  refine HS.out.mono ?_; rintro e w1 ⟨rfl, hb1⟩
  have B1 := Lib.hid hb1
  clear hb1 HS
  go_wp2_with fail
  refine (HSm.out _ B1.out).mono ?_; rintro e w2 ⟨rfl, rfl⟩
  have hq := HPi.out.below B1.out
  have k0 := hq.1
  have k1 := hq.2.1
  have k2 := hq.2.2.1
  clear hq HSm
  go_wp2_with fail
  refine (HF.out _ B1.out).mono ?_; rintro e w3 ⟨rfl, hb3⟩
  have B3 := Lib.hid (below_step B1.out hb3)
  clear hb3 HF k0 k1 k2
  go_wp2_with fail
  refine (HR.out _ B3.out).mono ?_; rintro e w4 ⟨rfl, hb4⟩
  have B4 := Lib.hid (below_step B3.out hb4)
  clear hb4 HR B3
  go_wp2_with fail
  refine (HC.out _ B4.out).mono ?_; rintro e w5 ⟨rfl, hb5⟩
  have B5 := Lib.hid (below_step B4.out hb5)
  clear hb5 B4
  go_wp2
  go_loopw [16] (fun i wr => ∃ k : Nat, i = .int .i64 k ∧ Hid (Below w5.heap.size w5 wr)) (fun _ _ => 0)
  case atStart => exact ⟨0, rfl, Lib.hid (Below.refl _ _)⟩
  case round =>
    obtain ⟨k, rfl, hB⟩ := hrel
    have BF := Lib.hid (below_step B5.out hB.out)
    have hk : decide ((k : Int) < 0) = false := by simp
    have hk2 : ¬ ((k : Int) < 0) := by omega
    go_wp2
    go_ret
    exact ⟨rfl, BF.out⟩
set_option maxHeartbeats 8000000 in
/-- The law where all is well. -/
theorem found_fine (ad : Nat → Addr) {w : World} (hE : Sents w ad) (W H T : Nat) (over least : Int) (f : Nat → Int) (b o : Nat) (a : Option Addr) (n cap : Nat) (hn : n ≤ 700) (hp : PicAt w b o W H a n cap f) (g : picG W H n f) (hT : 1 ≤ T) (hT2 : T ≤ 256) (ho : 0 ≤ over) (hle : 1 ≤ least)
    (hSm : ∀ W, Below w.heap.size w W → Calls Tryd.prog 7 #[.pointer (some ⟨b, o, none⟩)] W fun e w' => e = .returned (.bool true) ∧ W = w') :
    Calls Tryd.prog 5 #[.pointer (some ⟨b, o, none⟩), .int .i64 T, .int .i64 over, .int .i64 least] w fun e w' => e = .returned (.bool true) ∧ Below w.heap.size w w' := by
  have HS := Lib.hid (spotted_any ad w (hE.errs _ (by decide)))
  have HF : Hid (∀ w', Below w.heap.size w w' → Calls Tryd.prog 9 #[.agg #[.int .i64 W, .int .i64 H, .slice a n cap], .int .i64 T, .int .i64 over, .int .i64 least] w' fun e w'' => ∃ pa c' L, e = .returned (.tuple #[.slice pa L.length c', .nilIface]) ∧ (∃ M, FI (fun k => decide (over < lessF W T f n k)) W n n M ∧ L = foundL W (lessF W T f n) M n (rc (fun k => decide (over < lessF W T f n k)) W n n) least) ∧ SRow w'' pa L ∧ Below w'.heap.size w' w'') := Lib.hid (fun w' hb => by
    refine (find_ok ad W H T over least f a n cap w' ((hE.errs _ (by decide)).below hb) (hp.2.2.2.below hb) g hT hT2 ho hle).mono ?_
    rintro e w'' ⟨g', c', M, rfl, hM, hO, hB⟩
    exact ⟨_, c', _, rfl, ⟨M, hM, rfl⟩, Or.inr ⟨g', rfl, hO⟩, hB⟩)
  have HR : Hid (∀ w', Below w.heap.size w w' → ∀ L, (∃ M, FI (fun k => decide (over < lessF W T f n k)) W n n M ∧ L = foundL W (lessF W T f n) M n (rc (fun k => decide (over < lessF W T f n k)) W n n) least) → Calls Tryd.prog 16 #[.pointer (some ⟨b, o, none⟩), .int .i64 T, .int .i64 over, .int .i64 least] w' fun e w'' => ∃ pa c', e = .returned (.tuple #[.slice pa L.length c', .int .i64 0]) ∧ SRow w'' pa L ∧ Below w'.heap.size w' w'') := Lib.hid (fun w' hb L hL => by
    obtain ⟨M, hM, rfl⟩ := hL
    have hn : n = H * W := by
      have : (n : Int) = ((W * H : Nat) : Int) := by rw [g.2.2.2.2.1]; push_cast; rfl
      rw [Nat.mul_comm]; omega
    refine (spotsOf_ok W H T over least f b o a n cap w' (hp.below hb) g hT hT2 ho hle).mono ?_
    rintro e w'' ⟨Z, v, rfl, hZ, hO, hB⟩
    have es := found_same (l := lessF W T f n) (m := rc (fun k => decide (over < lessF W T f n k)) W n n) (by have := g.1; omega) hn hle hZ hM
    rw [es] at hO
    obtain ⟨pa, c', rfl, hs⟩ := own_srow hO rfl
    exact ⟨pa, c', rfl, hs, hB⟩)
  have HLN : Hid (∀ L, (∃ M, FI (fun k => decide (over < lessF W T f n k)) W n n M ∧ L = foundL W (lessF W T f n) M n (rc (fun k => decide (over < lessF W T f n k)) W n n) least) → L.length ≤ 700) := Lib.hid (fun L hL => by
    obtain ⟨M, _, rfl⟩ := hL
    have h1 := foundL_len (W := W) (n := n) (m := rc (fun k => decide (over < lessF W T f n k)) W n n) (l := lessF W T f n) (M := M) (least := least)
    have h2 := rc_le (lit := fun k => decide (over < lessF W T f n k)) (wide := W) (n := n) n
    omega)
  have HC0 := Lib.hid (fun w' => coded4_nil w')
  have HSm := Lib.hid hSm
  have HPi := Lib.hid hp
  have HSp := Lib.hid spot_any
  clear hE hSm hp g hT hT2 ho hle hn
  generalize lessF W T f n = lf at *
  go_enter Tryd.func5, Tryd.ntmps5
  go_wp2_with fail
  refine HS.out.mono ?_; rintro e w1 ⟨rfl, hb1⟩
  have B1 := Lib.hid hb1
  clear hb1 HS
  go_wp2_with fail
  refine (HSm.out _ B1.out).mono ?_; rintro e w2 ⟨rfl, rfl⟩
  have hq := HPi.out.below B1.out
  have k0 := hq.1
  have k1 := hq.2.1
  have k2 := hq.2.2.1
  clear hq HSm
  go_wp2_with fail
  refine (HF.out _ B1.out).mono ?_; rintro e w3 ⟨pa, ca, L, rfl, hL, hs3, hb3⟩
  have B3 := Lib.hid (below_step B1.out hb3)
  have S3 := Lib.hid hs3
  have HL := Lib.hid hL
  have hln := HLN.out L hL
  clear hb3 HF k0 k1 k2 hs3 hL HLN
  have HR3 := Lib.hid (HR.out w3 B3.out L HL.out)
  clear HR HL
  go_wp2_with fail
  refine HR3.out.mono ?_; rintro e w4 ⟨ra, cr, rfl, hs4, hb4⟩
  have B4 := Lib.hid (below_step B3.out hb4)
  have B34 := Lib.hid hb4
  have S4 := Lib.hid hs4
  clear hb4 HR3 B3 hs4
  go_wp2_with fail
  refine (HC0.out _).mono ?_; rintro e w5 ⟨rfl, hb5⟩
  have B5 := Lib.hid (below_step B4.out hb5)
  have B45 := Lib.hid hb5
  have B35 := Lib.hid (below_step B34.out hb5)
  clear hb5 B4 B34 HC0
  generalize hN : L.length = N at *
  go_wp2
  go_loopw [16] (fun i wr => ∃ k : Nat, k ≤ N ∧ i = .int .i64 k ∧ Hid (Below w5.heap.size w5 wr)) (fun i _ => N - (intOf i).toNat)
  case atStart => exact ⟨0, Nat.zero_le _, rfl, Lib.hid (Below.refl _ _)⟩
  case round =>
    obtain ⟨k, hk, rfl, hB⟩ := hrel
    by_cases hlt : k < N
    · have HK1 := Lib.hid (fun W' (hb : Below w5.heap.size w5 W') => S3.out.at (k := k) (by omega) (below_step B35.out hb))
      have HK2 := Lib.hid (fun W' (hb : Below w5.heap.size w5 W') => S4.out.at (k := k) (by omega) (below_step B45.out hb))
      obtain ⟨s, hs⟩ : ∃ s, L.getD k Sp.nil = s := ⟨_, rfl⟩
      rw [hs] at HK1 HK2
      clear hs
      obtain ⟨sL, sT, sR, sO, sP, sI, sX, sY, sS⟩ := s
      obtain ⟨g1, rfl, _⟩ := HK1.out w5 (Below.refl _ _)
      obtain ⟨g2, rfl, _⟩ := HK2.out w5 (Below.refl _ _)

      have HK : Hid (∀ w', Below w5.heap.size w5 w' → (w'.cell? ⟨g1, k * 9, none⟩ = some (.int .i64 sL) ∧ w'.cell? ⟨g1, k * 9 + 1, none⟩ = some (.int .i64 sT) ∧ w'.cell? ⟨g1, k * 9 + 2, none⟩ = some (.int .i64 sR) ∧ w'.cell? ⟨g1, k * 9 + 3, none⟩ = some (.int .i64 sO) ∧ w'.cell? ⟨g1, k * 9 + 4, none⟩ = some (.int .i64 sP) ∧ w'.cell? ⟨g1, k * 9 + 5, none⟩ = some (.int .i64 sI) ∧ w'.cell? ⟨g1, k * 9 + 6, none⟩ = some (.int .i64 sX) ∧ w'.cell? ⟨g1, k * 9 + 7, none⟩ = some (.int .i64 sY) ∧ w'.cell? ⟨g1, k * 9 + 8, none⟩ = some (.int .i64 sS)) ∧ (w'.cell? ⟨g2, k * 9, none⟩ = some (.int .i64 sL) ∧ w'.cell? ⟨g2, k * 9 + 1, none⟩ = some (.int .i64 sT) ∧ w'.cell? ⟨g2, k * 9 + 2, none⟩ = some (.int .i64 sR) ∧ w'.cell? ⟨g2, k * 9 + 3, none⟩ = some (.int .i64 sO) ∧ w'.cell? ⟨g2, k * 9 + 4, none⟩ = some (.int .i64 sP) ∧ w'.cell? ⟨g2, k * 9 + 5, none⟩ = some (.int .i64 sI) ∧ w'.cell? ⟨g2, k * 9 + 6, none⟩ = some (.int .i64 sX) ∧ w'.cell? ⟨g2, k * 9 + 7, none⟩ = some (.int .i64 sY) ∧ w'.cell? ⟨g2, k * 9 + 8, none⟩ = some (.int .i64 sS))) := Lib.hid (fun w' hb => by
        obtain ⟨_, e1, _, h1⟩ := HK1.out w' hb
        obtain ⟨_, e2, _, h2⟩ := HK2.out w' hb
        cases e1
        cases e2
        exact ⟨h1, h2⟩)
      have HS0 := Lib.hid (HK.out wr hB.out)
      have HS1 := Lib.hid (HK.out wr.drew hB.out.drew)
      have HS3 := Lib.hid (fun w3 (hb : Below wr.drew.heap.size wr.drew w3) => HK.out w3 (below_step hB.out.drew hb))
      obtain ⟨⟨p0, p1, p2, p3, p4, p5, p6, p7, p8⟩, q0, q1, q2, q3, q4, q5, q6, q7, q8⟩ := HS0.out
      have HSs := Lib.hid (fun W' => HSp.out ⟨sL, sT, sR, sO, sP, sI, sX, sY, sS⟩ W')
      unfold aggSp at HSs
      clear HK1 HK2
      go_wp2
      go_region_held3 (fun w' => (w'.cell? ⟨g1, k * 9, none⟩ = some (.int .i64 sL) ∧ w'.cell? ⟨g1, k * 9 + 1, none⟩ = some (.int .i64 sT) ∧ w'.cell? ⟨g1, k * 9 + 2, none⟩ = some (.int .i64 sR) ∧ w'.cell? ⟨g1, k * 9 + 3, none⟩ = some (.int .i64 sO) ∧ w'.cell? ⟨g1, k * 9 + 4, none⟩ = some (.int .i64 sP) ∧ w'.cell? ⟨g1, k * 9 + 5, none⟩ = some (.int .i64 sI) ∧ w'.cell? ⟨g1, k * 9 + 6, none⟩ = some (.int .i64 sX) ∧ w'.cell? ⟨g1, k * 9 + 7, none⟩ = some (.int .i64 sY) ∧ w'.cell? ⟨g1, k * 9 + 8, none⟩ = some (.int .i64 sS)) ∧ (w'.cell? ⟨g2, k * 9, none⟩ = some (.int .i64 sL) ∧ w'.cell? ⟨g2, k * 9 + 1, none⟩ = some (.int .i64 sT) ∧ w'.cell? ⟨g2, k * 9 + 2, none⟩ = some (.int .i64 sR) ∧ w'.cell? ⟨g2, k * 9 + 3, none⟩ = some (.int .i64 sO) ∧ w'.cell? ⟨g2, k * 9 + 4, none⟩ = some (.int .i64 sP) ∧ w'.cell? ⟨g2, k * 9 + 5, none⟩ = some (.int .i64 sI) ∧ w'.cell? ⟨g2, k * 9 + 6, none⟩ = some (.int .i64 sX) ∧ w'.cell? ⟨g2, k * 9 + 7, none⟩ = some (.int .i64 sY) ∧ w'.cell? ⟨g2, k * 9 + 8, none⟩ = some (.int .i64 sS)))
        (first | (exact HS3.out _ hb3) | (exact HS0.out) | (exact HS1.out) | go_keep)
        (first | (go_at_call 17; with_reducible refine (HSs.out wr.drew).mono ?_; rintro e w3 ⟨rfl, hb3⟩))
      all_goals
        have HG3 := Lib.hid (hB.out.drew.trans (hb3.mono hB.out.drew.size))
        clear hb3
        go_wp2
        go_roundw
        case rel => exact ⟨k + 1, by omega, by go_num, HG3⟩
        case measure => simp [intOf]; omega
    · have BF := Lib.hid (below_step B5.out hB.out)
      go_wp2
      go_ret
      exact ⟨rfl, BF.out⟩
/-- The law where the picture is great, or none. -/
theorem found_great (ad : Nat → Addr) {w : World} (hE : Sents w ad) (x : Option Addr) (T over least : Int)
    (hSm : ∀ W, Below w.heap.size w W → Calls Tryd.prog 7 #[.pointer x] W fun e w' => e = .returned (.bool false) ∧ W = w') :
    Calls Tryd.prog 5 #[.pointer x, .int .i64 T, .int .i64 over, .int .i64 least] w fun e w' => e = .returned (.bool true) ∧ Below w.heap.size w w' := by
  have HS := Lib.hid (spotted_any ad w (hE.errs _ (by decide)))
  have HSm := Lib.hid hSm
  clear hE hSm
  go_enter Tryd.func5, Tryd.ntmps5
  go_wp2_with fail
  refine HS.out.mono ?_; rintro e w1 ⟨rfl, hb1⟩
  have B1 := Lib.hid hb1
  clear hb1 HS
  go_wp2_with fail
  refine (HSm.out _ B1.out).mono ?_; rintro e w2 ⟨rfl, rfl⟩
  go_wp2
  go_ret
  exact ⟨rfl, B1.out⟩
theorem spotsFound_any (ad : Nat → Addr) {w : World} (x0 : Option Addr) (h0 : PicP w x0) (T : Int) (_ : In64 T) (over : Int) (_ : In64 over) (least : Int) (_ : In64 least) (hE : Sents w ad) :
    Calls Tryd.prog 5 #[.pointer x0, .int .i64 T, .int .i64 over, .int .i64 least] w fun e w' => e = .returned (.bool true) ∧ Below w.heap.size w w' := by
  obtain ⟨s, hs, hk⟩ := small_is h0
  cases s with
  | false => exact found_great ad hE x0 T over least hs
  | true =>
    obtain ⟨b, o, W, H, a, n, cap, f, rfl, hn, _, _, hp⟩ := hk rfl
    have he := fun w' (hb : Below w.heap.size w w') => (hE.errs [1, 4] (by decide)).below hb
    have hi := fun w' (hb : Below w.heap.size w w') => hp.2.2.2.below hb
    by_cases g : picG W H n f
    · by_cases hT : 1 ≤ T ∧ T ≤ 256
      · obtain ⟨V, rfl⟩ : ∃ V : Nat, W = (V : Int) := ⟨W.toNat, by have := g.1; omega⟩
        obtain ⟨K, rfl⟩ : ∃ K : Nat, H = (K : Int) := ⟨H.toNat, by have := g.2.2.1; omega⟩
        obtain ⟨t, rfl⟩ : ∃ t : Nat, T = (t : Int) := ⟨T.toNat, by omega⟩
        have hC5 := fun w' (hb : Below w.heap.size w w') => coded4_err ad 4 5 (by decide) (by decide) w' (hE.below hb)
        by_cases ho : over < 0
        · exact found_bad ad hE V K t over least f b o a n cap hp (errV ad 4) 5
            (fun w' hb => find_bad ad 4 V K t over least a n cap w' (fun w'' hb' => lit_over ad V K t over f a n cap w'' (he w'' (below_step hb hb')) (hi w'' (below_step hb hb')) g (by omega) (by omega) ho))
            (fun w' hb => spotsOf_low V K t over least f b o a n cap w' (hp.below hb) g (by omega) (by omega) (Or.inl ho)) hC5 hs
        · by_cases hl : least < 1
          · exact found_bad ad hE V K t over least f b o a n cap hp (errV ad 4) 5
              (fun w' hb => find_low ad V K t over least f a n cap w' (he w' hb) (hi w' hb) g (by omega) (by omega) (by omega) hl)
              (fun w' hb => spotsOf_low V K t over least f b o a n cap w' (hp.below hb) g (by omega) (by omega) (Or.inr hl)) hC5 hs
          · exact found_fine ad hE V K t over least f b o a n cap hn hp g (by omega) (by omega) (by omega) (by omega) hs
      · exact found_bad ad hE W H T over least f b o a n cap hp (errV ad 4) 5
          (fun w' hb => find_bad ad 4 W H T over least a n cap w' (fun w'' hb' => lit_shape ad W H T over f a n cap w'' (he w'' (below_step hb hb')) (hi w'' (below_step hb hb')) g (by omega)))
          (fun w' hb => spotsOf_bad T over least _ 5 (by decide) w' (groundOf_shape W H T f b o a n cap w' (hp.below hb) g (by omega)))
          (fun w' hb => coded4_err ad 4 5 (by decide) (by decide) w' (hE.below hb)) hs
    · exact found_bad ad hE W H T over least f b o a n cap hp (errV ad (picB W H)) (picB W H + 1 : Nat)
        (fun w' hb => find_bad ad (picB W H) W H T over least a n cap w' (fun w'' hb' => lit_err ad W H T over f a n cap w'' (he w'' (below_step hb hb')) (hi w'' (below_step hb hb')) (by omega) g))
        (fun w' hb => spotsOf_bad T over least _ (picB W H + 1 : Nat) (by omega) w' (groundOf_err W H T f b o a n cap w' (hp.below hb) (by omega) g))
        (fun w' hb => coded4_err ad (picB W H) _ (picB_lt4 W H) (by omega) w' (hE.below hb)) hs
end Go.Proofs.YthbekddpnkammaaDoor
