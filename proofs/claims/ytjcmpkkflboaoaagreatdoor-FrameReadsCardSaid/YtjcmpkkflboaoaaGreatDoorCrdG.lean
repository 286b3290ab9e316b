/- Rows of cards that a call owns. -/
import Derived.Test.YtjcmpkkflboaoaaGreatDoorCrdE
import Derived.Test.YtjcmpkkflboaoaaGreatDoorByt
namespace Go.Proofs.YtjcmpkkflboaoaaGreatDoor
open Go.RowKit

/-- A card's two cells. -/
def encC1 (c : Crd) : List Value := [.string (bs c.1), .string (bs c.2)]
def encC : List Crd → List Value
  | [] => []
  | c :: L => encC1 c ++ encC L
theorem encC_app (A B : List Crd) : encC A ++ encC B = encC (A ++ B) := by
  induction A with
  | nil => rfl
  | cons c A ih => show encC1 c ++ encC A ++ encC B = encC1 c ++ encC (A ++ B); rw [List.append_assoc, ih]
theorem encC_one (A : List Crd) (c : Crd) : encC A ++ encC1 c = encC (A ++ [c]) := by
  rw [← encC_app]
  show encC A ++ encC1 c = encC A ++ (encC1 c ++ [])
  rw [List.append_nil]
theorem encC_len (A : List Crd) : (encC A).length = A.length * 2 := by
  induction A with
  | nil => rfl
  | cons c A ih => show (encC1 c ++ encC A).length = _; rw [List.length_append, ih, List.length_cons]; show 2 + A.length * 2 = _; omega
theorem encC_get : ∀ (A : List Crd) (i : Nat), i < A.length → (encC A)[i * 2]? = some (.string (bs (nmC A i))) ∧ (encC A)[i * 2 + 1]? = some (.string (bs (vlC A i)))
  | c :: A, 0, _ => ⟨rfl, rfl⟩
  | c :: A, i + 1, h => by
    have ih := encC_get A i (by simpa using h)
    have e : ∀ j, (encC (c :: A))[j + 2]? = (encC A)[j]? := fun j => rfl
    rw [show (i + 1) * 2 = i * 2 + 2 by omega, show i * 2 + 2 + 1 = (i * 2 + 1) + 2 by omega, e, e]
    exact ih
theorem encC_cells (A : List Crd) : ∀ u ∈ encC A, u.oneCell' = true := by
  induction A with
  | nil => intro u hu; cases hu
  | cons c A ih =>
    intro u hu
    rcases List.mem_append.1 (show u ∈ encC1 c ++ encC A from hu) with h | h
    · unfold encC1 at h
      simp only [List.mem_cons, List.not_mem_nil, or_false] at h
      rcases h with rfl | rfl <;> rfl
    · exact ih u h
theorem info_card : (Tryz.prog.info? 51).map (fun i => (i.zero, i.size, i.bytes)) = some (some (.agg #[.string ⟨#[]⟩, .string ⟨#[]⟩]), 2, 32) := by kernel_rfl
/-- Cards that the call owns, gathered since a world. -/
def GC (B : Nat) (w : World) (v : Value) (L : List Crd) (wr : World) : Prop := wr.ownsRow B 51 2 v L.length (encC L) ∧ Below B w wr ∧ B ≤ w.heap.size
theorem GC.form {B : Nat} {w : World} {v : Value} {L : List Crd} {wr : World} (h : GC B w v L wr) : ∃ a cap, v = .slice a L.length cap := by
  rcases Go.Joins.ownsRow_forms h.1 with ⟨rfl, h0⟩ | ⟨g, cap, rfl⟩
  · exact ⟨none, 0, by rw [h0]⟩
  · exact ⟨_, cap, rfl⟩
theorem GC.step {B : Nat} {w : World} {v v' : Value} {L M : List Crd} {wr w1 : World} {o : Obj} {k : Nat} (h : GC B w v L wr) (hk : M.length = k) (hown : w1.ownsRow B 51 2 v' (L.length + k) (encC L ++ encC M)) (hg : (wr.alloc o).grownBy w1 v.ownBlock) : GC B w v' (L ++ M) w1 := by
  obtain ⟨h1, h4, hB⟩ := h
  have hs := h4.size
  refine ⟨?_, (h4.alloc (by omega) o).grown hg (by simp only [World.size_alloc]; omega) (fun j hj => (h1.lt j hj).1), hB⟩
  rw [List.length_append, ← encC_app, hk]; exact hown
theorem GC.below {B : Nat} {w wr w' : World} {v : Value} {L : List Crd} (h : GC B w v L wr) (hb : Below wr.heap.size wr w') : GC B w v L w' := ⟨ownB_below h.1 hb, h.2.1.trans (hb.mono (by have := h.2.1.size; have := h.2.2; omega)), h.2.2⟩
/-- Owned cards, as a row that is read. -/
theorem GC.row {B : Nat} {w : World} {L : List Crd} {wr : World} {a : Option Addr} {n cap : Nat} (h : GC B w (.slice a n cap) L wr) (hs : ∀ c, c ∈ L → c.1.length ≤ 9223372036854775807 ∧ c.2.length ≤ 9223372036854775807) : CRow wr a L := by
  rcases h.1.2 with ⟨e, h0⟩ | ⟨g, cap', cur, e, _⟩
  · exact Or.inl (List.eq_nil_of_length_eq_zero h0)
  · obtain ⟨rfl, rfl, rfl⟩ : a = some ⟨g, 0, none⟩ ∧ n = L.length ∧ cap = cap' := by cases e; exact ⟨rfl, rfl, rfl⟩
    refine Or.inr ⟨g, 0, rfl, fun i hi => ?_⟩
    obtain ⟨e1, e2⟩ := encC_get L i hi
    have hm : L.getD i ([], []) ∈ L := by
      rw [List.getD_eq_getElem?_getD, List.getElem?_eq_getElem hi]
      exact List.getElem_mem _
    refine ⟨⟨?_, ?_⟩, hs _ hm⟩
    · rw [Nat.zero_add, h.1.cellAt (i * 2) (by omega)]; exact e1
    · rw [Nat.zero_add, h.1.cellAt (i * 2 + 1) (by omega)]; exact e2
end Go.Proofs.YtjcmpkkflboaoaaGreatDoor
