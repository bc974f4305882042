/- The arguments of the degree laws, taken apart: counts, statistics. -/
import Derived.Test.YtokdbmakkoleiaaEnK
import Derived.Test.YtokdbmakkoleiaaVb
import Derived.Test.YtokdbmakkoleiaaDgCode
set_option linter.unusedVariables false
namespace Go.Proofs.Ytokdbmakkoleiaa
namespace AI

/-- an int of 64 bits -/
def I64 (z : Int) : Prop := -2^63 ≤ z ∧ z < 2^63
/-- a length -/
def Ln {α : Type} (l : List α) : Prop := l.length < 2^63

/-- a name and a number -/
structure CN where
  name : List UInt8
  n : Int
def CN.av (c : CN) : AV := .agg [.str c.name, .int .i64 c.n]
/-- statistics -/
structure ST where
  nodes : Int
  edges : Int
  ln : Bool
  labels : List CN
  tn : Bool
  types : List CN
  on : Bool
  outs : List (Bool × List Int)
  nn : Bool
  ins : List (Bool × List Int)
def ST.av (s : ST) : AV := .agg [.int .i64 s.nodes, .int .i64 s.edges, .sl s.ln (vs CN.av s.labels), .sl s.tn (vs CN.av s.types), .sl s.on (iss s.outs), .sl s.nn (iss s.ins)]
def Lns (l : List (Bool × List Int)) : Prop := Ln l ∧ ∀ p ∈ l, Ln p.2
def ST.ok (s : ST) : Prop := I64 s.nodes ∧ I64 s.edges ∧ Ln s.labels ∧ Ln s.types ∧ Lns s.outs ∧ Lns s.ins

theorem c_int : Try.prog.cellsOf 3 = 1 := by kernel_rfl
theorem c_string : Try.prog.cellsOf 9 = 1 := by kernel_rfl
theorem c_count : Try.prog.cellsOf 46 = 2 := by kernel_rfl
theorem c_counts : Try.prog.cellsOf 22 = 1 := by kernel_rfl
theorem c_intss : Try.prog.cellsOf 23 = 1 := by kernel_rfl
theorem c_stats : Try.prog.cellsOf 25 = 6 := by kernel_rfl

theorem len2 {l : List AV} (h : l.length = 2) : ∃ a b, l = [a, b] := by
  rcases l with _ | ⟨a, _ | ⟨b, _ | ⟨c, r⟩⟩⟩ <;> simp at h
  exact ⟨a, b, rfl⟩
theorem len6 {l : List AV} (h : l.length = 6) : ∃ a b c d e f, l = [a, b, c, d, e, f] := by
  rcases l with _ | ⟨a, _ | ⟨b, _ | ⟨c, _ | ⟨d, _ | ⟨e, _ | ⟨f, _ | ⟨g, r⟩⟩⟩⟩⟩⟩⟩ <;> simp at h
  exact ⟨a, b, c, d, e, f, rfl⟩

theorem i64_of {n : Int} (h : (Lit.int .i64 n).wf = true) : I64 n := by
  simp [Lit.wf] at h
  have h1 : IntKind.i64.min = -2^63 := by rfl
  have h2 : IntKind.i64.max = 2^63 - 1 := by rfl
  unfold I64
  omega
theorem ln_of {α : Type} {l : List α} (h : l.length ≤ maxLen) : Ln l := by unfold Ln; have := maxLen_lt; omega

theorem likeC_i {d : Nat} {cs : List AV} (h : likeC Try.prog d 3 cs) : ∃ n, cs = [.int .i64 n] ∧ I64 n := by
  obtain ⟨k, e1, h1⟩ := likeC_int Try.underlying3 h
  exact ⟨k, e1, i64_of h1⟩
theorem likeC_s {d : Nat} {cs : List AV} (h : likeC Try.prog d 9 cs) : ∃ n, cs = [.str n] ∧ Ln n := by
  obtain ⟨k, e1, h1⟩ := likeC_string Try.underlying9 h
  exact ⟨k, e1, ln_of h1⟩

/-- a slice of things, of one cell in a struct -/
theorem likeC_map {α : Type} {f : α → AV} {Q : α → Prop} {d : Nat} {t e : TypeId} {cs : List AV} (hu : Try.prog.underlying t = some (.slice e)) (he : ∀ d x, like Try.prog d e x → ∃ y, x = f y ∧ Q y) (h : likeC Try.prog d t cs) :
    ∃ nn l, cs = [.sl nn (l.map f)] ∧ (nn = false → l = []) ∧ Ln l ∧ ∀ y ∈ l, Q y := by
  obtain ⟨d', rfl, nn, xs, rfl, h0, h1, h2⟩ := likeC_slice hu h
  obtain ⟨l, rfl, h3⟩ := exists_map (f := f) (Q := Q) fun x hx => he d' x (h2 x hx)
  exact ⟨nn, l, rfl, fun h => by have := h0 h; simpa using this, ln_of (by simpa using h1), h3⟩

theorem like_str {d : Nat} {a : AV} (h : like Try.prog d 9 a) : ∃ s : List UInt8, a = .str s ∧ Ln s := by
  obtain ⟨k, e1, h1⟩ := like_string Try.underlying9 h
  exact ⟨k, e1, ln_of h1⟩
theorem like_i {d : Nat} {a : AV} (h : like Try.prog d 3 a) : ∃ n, a = .int .i64 n ∧ I64 n := by
  obtain ⟨k, e1, h1⟩ := like_int Try.underlying3 h
  exact ⟨k, e1, i64_of h1⟩

theorem like_count {d : Nat} {a : AV} (h : like Try.prog d 46 a) : ∃ v : CN, a = v.av ∧ True := by
  obtain ⟨cs, rfl, h0⟩ := like_struct Try.underlying46 h
  obtain ⟨d', rfl, g1, g2⟩ := likeC_struct Try.underlying46 h0
  rw [c_count] at g1
  obtain ⟨a, b, rfl⟩ := len2 g1
  clear g1
  simp only [List.forall_mem_cons] at g2
  obtain ⟨f1, f2, _⟩ := g2
  simp only [c_int, c_string, List.drop_zero, List.drop_succ_cons, List.take_succ_cons, List.take_zero] at f1 f2
  obtain ⟨s, e1, _⟩ := likeC_s f1
  obtain ⟨n, e2, _⟩ := likeC_i f2
  cases e1; cases e2
  exact ⟨⟨s, n⟩, rfl, trivial⟩

theorem like_ints {d : Nat} {a : AV} (h : like Try.prog d 33 a) : ∃ p : Bool × List Int, a = .sl p.1 (ints p.2) ∧ Ln p.2 := by
  obtain ⟨nn, l, rfl, _, h2, _⟩ := like_map (f := AV.int .i64) (Q := I64) Try.underlying33 (fun d x h => like_i h) h
  exact ⟨(nn, l), rfl, ln_of h2⟩

theorem like_stats {a : AV} (h : Like Try.prog 25 a) : ∃ v : ST, a = v.av ∧ v.ok := by
  obtain ⟨d, h⟩ := h
  obtain ⟨cs, rfl, h0⟩ := like_struct Try.underlying25 h
  obtain ⟨d', rfl, g1, g2⟩ := likeC_struct Try.underlying25 h0
  rw [c_stats] at g1
  obtain ⟨a, b, c, d, e, f, rfl⟩ := len6 g1
  clear g1
  simp only [List.forall_mem_cons] at g2
  obtain ⟨f1, f2, f3, f4, f5, f6, _⟩ := g2
  simp only [c_int, c_counts, c_intss, List.drop_zero, List.drop_succ_cons, List.take_succ_cons, List.take_zero] at f1 f2 f3 f4 f5 f6
  obtain ⟨k, e1, h1⟩ := likeC_i f1
  obtain ⟨n, e2, h2⟩ := likeC_i f2
  obtain ⟨n3, l3, e3, _, h3, _⟩ := likeC_map (f := CN.av) (Q := fun _ => True) Try.underlying22 (fun d x h => like_count h) f3
  obtain ⟨n4, l4, e4, _, h4, _⟩ := likeC_map (f := CN.av) (Q := fun _ => True) Try.underlying22 (fun d x h => like_count h) f4
  obtain ⟨n5, l5, e5, _, h5, h5b⟩ := likeC_map (f := fun p : Bool × List Int => AV.sl p.1 (ints p.2)) (Q := fun p => Ln p.2) Try.underlying23 (fun d x h => like_ints h) f5
  obtain ⟨n6, l6, e6, _, h6, h6b⟩ := likeC_map (f := fun p : Bool × List Int => AV.sl p.1 (ints p.2)) (Q := fun p => Ln p.2) Try.underlying23 (fun d x h => like_ints h) f6
  cases e1; cases e2; cases e3; cases e4; cases e5; cases e6
  exact ⟨⟨k, n, n3, l3, n4, l4, n5, l5, n6, l6⟩, rfl, h1, h2, h3, h4, ⟨h5, h5b⟩, h6, h6b⟩

theorem like_strs {a : AV} (h : Like Try.prog 26 a) : ∃ nn l, a = .sl nn (vs .str l) ∧ Ln l := by
  obtain ⟨d, h⟩ := h
  obtain ⟨nn, l, e, _, h2, _⟩ := like_map (f := AV.str) (Q := Ln) Try.underlying26 (fun d x h => like_str h) h
  exact ⟨nn, l, e, ln_of h2⟩

end AI
end Go.Proofs.Ytokdbmakkoleiaa
