/- A stamp's text on both sides. -/
import Derived.Test.YtjdjncfpcbeedaaDoorTkTextR
import Derived.Test.YtjdjncfpcbeedaaDoorInstP
import Derived.Test.YtjdjncfpcbeedaaDoorDaysP
namespace Go.Proofs.YtjdjncfpcbeedaaDoor
open Go.RowKit

theorem tkText_err (x day micro : Int) (V : Value) (T : TypeId) (p : Value) (w : World)
    (HI : Hid (∀ o, Calls Tryd.prog 49 #[V, .agg #[.int .i64 day, .int .i64 micro]] (w.alloc o) fun e w' => e = .returned (.tuple #[.int .i64 x, .iface T p]) ∧ Below (w.alloc o).heap.size (w.alloc o) w')) :
    Calls Tryd.prog 22 #[V, .agg #[.int .i64 day, .int .i64 micro]] w fun e w' => e = .returned (.tuple #[.string .empty, .iface T p]) ∧ Below w.heap.size w w' := by
  go_enter Tryd.func22, Tryd.ntmps22
  go_wp2_with fail
  refine (HI.out _).mono ?_; rintro e w1 ⟨rfl, hb1⟩
  have B1 := Lib.hid (below_step ((Below.refl _ _).alloc (Nat.le_refl _) _) hb1)
  clear hb1 HI
  go_wp2
  go_ret2
  exact ⟨rfl, B1.out⟩
theorem refText_err (x day micro e0 : Int) (V : Value) (he : 0 < e0) (w : World)
    (HI : Hid (∀ o, Calls Tryd.prog 52 #[V, .agg #[.int .i64 day, .int .i64 micro]] (w.alloc o) fun e w' => e = .returned (.tuple #[.int .i64 x, .int .i64 e0]) ∧ Below (w.alloc o).heap.size (w.alloc o) w')) :
    Calls Tryd.prog 23 #[V, .agg #[.int .i64 day, .int .i64 micro]] w fun e w' => e = .returned (.tuple #[.string .empty, .int .i64 e0]) ∧ Below w.heap.size w w' := by
  go_enter Tryd.func23, Tryd.ntmps23
  go_wp2_with fail
  refine (HI.out _).mono ?_; rintro e w1 ⟨rfl, hb1⟩
  have B1 := Lib.hid (below_step ((Below.refl _ _).alloc (Nat.le_refl _) _) hb1)
  clear hb1 HI
  go_wp2
  go_ret2
  exact ⟨rfl, B1.out⟩
theorem tkText_no (ad : Nat → Addr) (x day micro : Int) (V : Value) (w : World) (hE : Sents w ad)
    (HI : Hid (∀ o, Calls Tryd.prog 49 #[V, .agg #[.int .i64 day, .int .i64 micro]] (w.alloc o) fun e w' => e = .returned (.tuple #[.int .i64 x, .nilIface]) ∧ Below (w.alloc o).heap.size (w.alloc o) w'))
    (HDt : Hid (∀ W, Calls Tryd.prog 50 #[.int .i64 day] W fun e w' => e = .returned (.tuple #[.int .i64 0, .int .i64 0, .int .i64 0]) ∧ Below W.heap.size W w')) :
    Calls Tryd.prog 22 #[V, .agg #[.int .i64 day, .int .i64 micro]] w fun e w' => e = .returned (.tuple #[.string .empty, errV ad 2]) ∧ Below w.heap.size w w' := by
  have HE := Lib.hid hE
  clear hE
  unfold errV
  go_enter Tryd.func22, Tryd.ntmps22
  go_wp2_with fail
  refine (HI.out _).mono ?_; rintro e w1 ⟨rfl, hb1⟩
  have c0 : w1.cell? ⟨w.heap.size, 0, none⟩ = some (.int .i64 day) := by rw [hb1.cell (p := ⟨w.heap.size, 0, none⟩) (by simp)]; simp
  have B1 := Lib.hid (below_step ((Below.refl _ _).alloc (Nat.le_refl _) _) hb1)
  clear hb1 HI
  go_wp2_with fail
  refine (HDt.out _).mono ?_; rintro e w2 ⟨rfl, hb2⟩
  have B2 := Lib.hid (below_step B1.out hb2)
  have e2 : w2.cell? ⟨2, 0, none⟩ = some (.iface 225 (.pointer (some (ad 2)))) := (HE.out.below B2.out).1 2 (by decide)
  clear hb2 HDt B1 c0
  go_wp2
  go_region
  all_goals
    go_wp2
    go_ret2
    first | exact ⟨rfl, B2.out⟩ | exact ⟨rfl, B2.out.drew⟩
theorem refText_no (x day micro : Int) (V : Value) (w : World)
    (HI : Hid (∀ o, Calls Tryd.prog 52 #[V, .agg #[.int .i64 day, .int .i64 micro]] (w.alloc o) fun e w' => e = .returned (.tuple #[.int .i64 x, .int .i64 0]) ∧ Below (w.alloc o).heap.size (w.alloc o) w'))
    (HDt : Hid (∀ W, Calls Tryd.prog 53 #[.int .i64 day] W fun e w' => e = .returned (.tuple #[.int .i64 0, .int .i64 0, .int .i64 0]) ∧ Below W.heap.size W w')) :
    Calls Tryd.prog 23 #[V, .agg #[.int .i64 day, .int .i64 micro]] w fun e w' => e = .returned (.tuple #[.string .empty, .int .i64 3]) ∧ Below w.heap.size w w' := by
  go_enter Tryd.func23, Tryd.ntmps23
  go_wp2_with fail
  refine (HI.out _).mono ?_; rintro e w1 ⟨rfl, hb1⟩
  have c0 : w1.cell? ⟨w.heap.size, 0, none⟩ = some (.int .i64 day) := by rw [hb1.cell (p := ⟨w.heap.size, 0, none⟩) (by simp)]; simp
  have B1 := Lib.hid (below_step ((Below.refl _ _).alloc (Nat.le_refl _) _) hb1)
  clear hb1 HI
  go_wp2_with fail
  refine (HDt.out _).mono ?_; rintro e w2 ⟨rfl, hb2⟩
  have B2 := Lib.hid (below_step B1.out hb2)
  clear hb2 HDt B1 c0
  go_wp2
  go_ret2
  exact ⟨rfl, B2.out⟩
theorem Tab.belowA {D A : Nat → Int} {a : Option Addr} {len : Nat} {w : World} (h : Tab w a len D A) (o : Obj) : Tab (w.alloc o) a len D A := h.below ((Below.refl _ _).alloc (Nat.le_refl _) _)
/-- A stamp's minute and what is left. -/
theorem minR {micro : Int} (h0 : 0 ≤ micro) (h1 : micro < 86401000000) : ∃ M R Q S : Int, min (micro / 60000000) 1439 = M ∧ micro - M * 60 * 1000000 = R ∧ 0 ≤ M ∧ M ≤ 1439 ∧ 0 ≤ R ∧ R < 61000000 ∧ 0 ≤ S ∧ S ≤ 60 ∧ ((1439 < Q ∧ M = 1439) ∨ (Q ≤ 1439 ∧ M = Q)) ∧ (micro / 1000000) / 60 = Q ∧ micro / 1000000 - M * 60 = S ∧ S.toNat = R.toNat / 1000000 ∧ (micro % 1000000).toNat = R.toNat % 1000000 := by
  refine ⟨_, _, micro / 1000000 / 60, micro / 1000000 - min (micro / 60000000) 1439 * 60, rfl, rfl, ?_⟩
  omega
/-- Both sides' text of a stamp: at an error, or right. -/
theorem text_pair (ad : Nat → Addr) (D A : Nat → Int) (a : Option Addr) (len cap : Nat) (day micro : Int) : ∃ (t : ByteArray) (ev : Value) (e0 : Int),
    (∀ W, Sents W ad → Pow10 W → Tab W a len D A → Calls Tryd.prog 22 #[.slice a len cap, .agg #[.int .i64 day, .int .i64 micro]] W fun e w' => e = .returned (.tuple #[.string t, ev]) ∧ Below W.heap.size W w') ∧
    (∀ W, Tab W a len D A → Calls Tryd.prog 23 #[.slice a len cap, .agg #[.int .i64 day, .int .i64 micro]] W fun e w' => e = .returned (.tuple #[.string t, .int .i64 e0]) ∧ Below W.heap.size W w') ∧
    (∀ W, Sents W ad → Calls Tryd.prog 24 #[ev, .int .i64 e0] W fun e' w' => e' = .returned (.bool true) ∧ Below W.heap.size W w') ∧
    (0 < e0 ∨ (e0 = 0 ∧ goodT D A len ∧ instOk D A len day micro ∧ ∃ (y d M R : Int) (k : Nat), IsDate day y (k + 1) d ∧ min (micro / 60000000) 1439 = M ∧ micro - M * 60 * 1000000 = R ∧ t = bs (stL y.toNat (k + 1) d.toNat M.toNat R.toNat))) := by
  have hbA : ∀ (W : World) o, Below W.heap.size W (W.alloc o) := fun W o => (Below.refl _ _).alloc (Nat.le_refl _) _
  by_cases g : goodT D A len
  · by_cases hi : instOk D A len day micro
    · have HIp := fun W (hW : Sents W ad) (hT : Tab W a len D A) => Lib.hid (fun o => instant_ok ad D A a len cap day micro (W.alloc o) ((hW.below (hbA W o)).errs _ (by decide)) (hT.belowA o) g hi)
      have HIr : ∀ W (hT : Tab W a len D A), Hid (∀ o, Calls Tryd.prog 52 #[.slice a len cap, .agg #[.int .i64 day, .int .i64 micro]] (W.alloc o) fun e w' => e = .returned (.tuple #[.int .i64 (instF D A len day micro), .int .i64 0]) ∧ Below (W.alloc o).heap.size (W.alloc o) w') := fun W hT => Lib.hid (fun o => (instOf_good D A a len cap day micro (W.alloc o) (hT.belowA o) g).mono (by
        rintro e w' ⟨⟨_, rfl⟩ | ⟨hn, _⟩, hb⟩
        · exact ⟨rfl, hb⟩
        · exact absurd hi hn))
      obtain ⟨p, q, r, P1, P2, P3⟩ := dates_pair day
      rcases P3 with ⟨rfl, rfl, rfl, _⟩ | ⟨k, rfl, hd⟩
      · refine ⟨.empty, errV ad 2, 3, fun W hW _ hT => tkText_no ad _ day micro _ W hW (HIp W hW hT) (Lib.hid P1), fun W hT => refText_no _ day micro _ W (HIr W hT) (Lib.hid P2), fun W hW => coded1_err ad 2 3 (by decide) (by decide) W hW, Or.inl (by decide)⟩
      · obtain ⟨i1, i2, i3, i4, i5⟩ := id hi
        have hlen : lengthF D A len day ≤ 86401000000 := by
          have := (ofTo_step day g.2).2
          unfold lengthF; omega
        obtain ⟨d1, d2, d3, d4, d5, d6, d7⟩ := id hd
        have hd31 : r ≤ 31 := by
          have : longF p ((k : Int) + 1) ≤ 31 := by unfold longF; repeat' split
                                                    all_goals omega
          have e : ((k + 1 : Nat) : Int) = (k : Int) + 1 := by omega
          rw [e] at d6
          omega
        obtain ⟨M, R, Q, S, m1, m2, m3, m4, m5, m6, m7, m8, m9, m10, m11, m12, m13⟩ := minR i3 (by omega : micro < 86401000000)
        have hk : ((k : Int) + 1).toNat = k + 1 := by omega
        refine ⟨bs (stL p.toNat (k + 1) r.toNat M.toNat R.toNat), .nilIface, 0, fun W hW hP hT => ?_, fun W hT => ?_, fun W _ => coded1_nil W, Or.inr ⟨rfl, g, hi, p, r, M, R, k, hd, m1, m2, rfl⟩⟩
        · refine (tkText_ok _ p _ r day micro M R _ d1 d2 (by omega) (by omega) d5 hd31 i3 (by omega) (Lib.hid m1) (Lib.hid m2) m3 m4 m5 m6 W hP (HIp W hW hT) (Lib.hid P1)).mono ?_
          rintro e w' ⟨t, he, ht, hb⟩
          exact ⟨by rw [he, ht.out, hk], hb⟩
        · refine (refText_ok _ p _ r day micro M R Q S _ d1 d2 (by omega) (by omega) d5 hd31 i3 (by omega) m3 m4 m7 m8 m5 m9 (Lib.hid m10) (Lib.hid m11) (Lib.hid m12) (Lib.hid m13) W (HIr W hT) (Lib.hid P2)).mono ?_
          rintro e w' ⟨t, he, ht, hb⟩
          exact ⟨by rw [he, ht.out, hk], hb⟩
    · refine ⟨.empty, errV ad 2, 3, fun W hW _ hT => tkText_err 0 day micro _ _ _ W (Lib.hid (fun o => instant_no ad D A a len cap day micro (W.alloc o) ((hW.below (hbA W o)).errs _ (by decide)) (hT.belowA o) g hi)), fun W hT => refText_err 0 day micro 3 _ (by decide) W (Lib.hid (fun o => (instOf_good D A a len cap day micro (W.alloc o) (hT.belowA o) g).mono (by
        rintro e w' ⟨⟨hn, _⟩ | ⟨_, rfl⟩, hb⟩
        · exact absurd hn hi
        · exact ⟨rfl, hb⟩))), fun W hW => coded1_err ad 2 3 (by decide) (by decide) W hW, Or.inl (by decide)⟩
  · exact ⟨.empty, badV ad len, badE len, fun W hW _ hT => tkText_err 0 day micro _ _ _ W (Lib.hid (fun o => instant_bad ad D A a len cap day micro (W.alloc o) ((hW.below (hbA W o)).errs _ (by decide)) (hT.belowA o) g)), fun W hT => refText_err 0 day micro (badE len) _ (badE_pos len) W (Lib.hid (fun o => instOf_bad D A a len cap day micro (W.alloc o) (hT.belowA o) g (badE_pos len))), fun W hW => coded_bad ad len W hW, Or.inl (badE_pos len)⟩
end Go.Proofs.YtjdjncfpcbeedaaDoor
