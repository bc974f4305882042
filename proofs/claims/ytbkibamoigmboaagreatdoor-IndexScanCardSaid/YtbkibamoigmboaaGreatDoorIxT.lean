/- The arguments of the laws about indexes: entries, questions. -/
import Derived.Test.YtbkibamoigmboaaGreatDoorMT
set_option linter.unusedVariables false
set_option maxRecDepth 4000
namespace Go.Proofs.YtbkibamoigmboaaGreatDoor
namespace AI

/-- an entry -/
structure GT where
  label : List UInt8
  key : List UInt8
  v : GV
  id : Int
def GT.av (e : GT) : AV := .agg [.str e.label, .str e.key, .int .i64 e.v.k, .int .i64 e.v.n, .int .i64 e.v.d, .str e.v.s, .sl e.v.nn e.v.l, .int .i64 e.id]
def GT.ok (e : GT) : Prop := Ln e.label ∧ Ln e.key ∧ e.v.ok ∧ I64 e.id
theorem cellsGT (x : GT) : x.av.cells.length = 8 := rfl

theorem c_entry : Tryz.prog.cellsOf 56 = 8 := by kernel_rfl
theorem len8 {l : List AV} (h : l.length = 8) : ∃ a b c d e f g i, l = [a, b, c, d, e, f, g, i] := by
  rcases l with _ | ⟨a, _ | ⟨b, _ | ⟨c, _ | ⟨d, _ | ⟨e, _ | ⟨f, _ | ⟨g, _ | ⟨i, _ | ⟨j, r⟩⟩⟩⟩⟩⟩⟩⟩⟩ <;> simp at h
  exact ⟨a, b, c, d, e, f, g, i, rfl⟩

theorem likeC_entry {d : Nat} {cs : List AV} (h : likeC Tryz.prog d 56 cs) : ∃ v : GT, cs = [.str v.label, .str v.key, .int .i64 v.v.k, .int .i64 v.v.n, .int .i64 v.v.d, .str v.v.s, .sl v.v.nn v.v.l, .int .i64 v.id] ∧ v.ok := by
  obtain ⟨d', rfl, g1, g2⟩ := likeC_struct Tryz.underlying56 h
  rw [c_entry] at g1
  obtain ⟨a, b, c, e, f, g, i, j, rfl⟩ := len8 g1
  clear g1
  simp only [List.forall_mem_cons] at g2
  obtain ⟨f1, f2, f3, f4, _⟩ := g2
  simp only [c_string, c_value, c_int, List.drop_zero, List.drop_succ_cons, List.take_succ_cons, List.take_zero] at f1 f2 f3 f4
  obtain ⟨s, e1, h1⟩ := likeC_s f1
  obtain ⟨t, e2, h2⟩ := likeC_s f2
  obtain ⟨v, e3, h3⟩ := likeC_value f3
  obtain ⟨n, e4, h4⟩ := likeC_i f4
  cases e1; cases e2; cases e3; cases e4
  exact ⟨⟨s, t, v, n⟩, rfl, h1, h2, h3, h4⟩
theorem like_entry {d : Nat} {a : AV} (h : like Tryz.prog d 56 a) : ∃ v : GT, a = v.av ∧ v.ok := by
  obtain ⟨cs, rfl, h0⟩ := like_struct Tryz.underlying56 h
  obtain ⟨v, rfl, h1⟩ := likeC_entry h0
  exact ⟨v, rfl, h1⟩

end AI
end Go.Proofs.YtbkibamoigmboaaGreatDoor
