/- The components: both functions answer the classes of the same labels. -/
import Derived.Test.YtocgbgffpdphdaaHyA
set_option linter.unusedVariables false
namespace Go.Proofs.Ytocgbgffpdphdaa
namespace AI

theorem iot_set {n i : Nat} (h : i < n) : (iot i ++ List.replicate (n - i) 0).set i (i : Int) = iot (i + 1) ++ List.replicate (n - (i + 1)) 0 := by
  rw [List.set_append_right _ _ (by simp), iot_length, Nat.sub_self, show n - i = (n - (i + 1)) + 1 by omega, List.replicate_succ, List.set_cons_zero, iot_succ, List.append_assoc]
  rfl

theorem lb_set {P : List Int} {i u : Nat} {x : Int} (hi : i < P.length) : lb (P.set i x) u = if u = i then x else lb P u := by
  simp only [lb, List.getD_eq_getElem?_getD, List.getElem?_set]
  split
  · rename_i h; subst h; simp
  · rename_i h; rw [if_neg (fun e => h e.symm)]

/-- the store of both: the hypergraph, the labels -/
abbrev stP (n : Int) (ns : Bool) (E : List (Bool × List Int)) (P : List Int) : List Obj := [.arr 0 2 true true [.agg [.int .i64 n, .sl ns (iss E)]], .arr 1 1 true true (ints P)]

theorem take_snds {E : List (Bool × List Int)} {i : Nat} (h : i < E.length) : (E.map (·.2)).take (i + 1) = (E.map (·.2)).take i ++ [(E[i]).2] := by
  rw [List.take_succ_eq_append_getElem (by simpa using h)]; simp

theorem edge_snoc {L : List (List Int)} {e : List Int} {a b : Nat} : Edge (L ++ [e]) a b ↔ Edge L a b ∨ ((a : Int) ∈ e ∧ (b : Int) ∈ e) := by
  unfold Edge
  constructor
  · rintro ⟨e', h1, h2⟩
    rcases List.mem_append.1 h1 with h1 | h1
    · exact .inl ⟨e', h1, h2⟩
    · rw [List.mem_singleton] at h1; subst h1; exact .inr h2
  · rintro (⟨e', h1, h2⟩ | h2)
    · exact ⟨e', List.mem_append_left _ h1, h2⟩
    · exact ⟨e, by simp, h2⟩

theorem lab_sets {L : List (List Int)} {m : Nat} {P Q : List Int} {e : List Int} {z : Int} (hP : Lab L m P) (hL : Q.length = m) (he : e ∈ L) (hz : ∀ v ∈ e, z ≤ lb P v.toNat) (hz' : ∃ v ∈ e, 0 ≤ v ∧ v < m ∧ z = lb P v.toNat)
    (hQ : ∀ u < m, lb Q u = if (u : Int) ∈ e then z else lb P u) : Lab L m Q := by
  refine ⟨hL, fun u hu => ?_⟩
  rw [hQ u hu]
  obtain ⟨h1, h2, h3⟩ := hP.2 u hu
  split
  · rename_i hue
    obtain ⟨v, hv, hv0, hvm, rfl⟩ := hz'
    obtain ⟨g1, g2, g3⟩ := hP.2 v.toNat (by omega)
    have := hz _ hue
    rw [Int.toNat_natCast] at this
    refine ⟨g1, by omega, (Conn.edge ⟨e, he, hue, ?_⟩).trans g3⟩
    rwa [show ((v.toNat : Nat) : Int) = v by omega]
  · exact ⟨h1, h2, h3⟩

theorem sinks_sets {L : List (List Int)} {m : Nat} {P0 P Q : List Int} {e : List Int} {z : Int} (h0 : P0.length = m) (hPl : P.length = m) (hb : ∀ v ∈ e, 0 ≤ v ∧ v < m) (hlt : ∀ a b, Edge L a b → a < m) (hs : Sinks L P0 P) (hz : ∀ v ∈ e, z ≤ lb P v.toNat)
    (hQ : ∀ u < m, lb Q u = if (u : Int) ∈ e then z else lb P u) : Sinks (L ++ [e]) P0 Q := by
  have hdec : ∀ u < m, lb Q u ≤ lb P u := by
    intro u hu
    rw [hQ u hu]
    split
    · rename_i h; have := hz _ h; rwa [Int.toNat_natCast] at this
    · exact Int.le_refl _
  refine ⟨fun u hu => ?_, fun a b he => ?_⟩
  · have h1 := hs.1 u hu; have h2 := hdec u (by omega); omega
  · rcases edge_snoc.1 he with he | ⟨ha, hb'⟩
    · have h1 := hs.2 a b he; have h2 := hdec a (hlt a b he); omega
    · have hal := hb _ ha
      have hbl := hb _ hb'
      have h1 := hz _ hb'
      have h2 := hs.1 b (by omega)
      rw [hQ a (by omega), if_pos ha]
      rw [Int.toNat_natCast] at h1; omega

theorem edge_take {L : List (List Int)} {i a b : Nat} (h : Edge (L.take i) a b) : Edge L a b := by
  obtain ⟨e, h1, h2⟩ := h; exact ⟨e, List.mem_of_mem_take h1, h2⟩

/-- what both answer -/
def PartsR (n : Int) (L : List (List Int)) (v : AV) : Prop :=
  (Vld n L → ∃ P nn out, v = .sl nn (iss out) ∧ Lab L n.toNat P ∧ Flat L P ∧ out.map (·.2) = classes P n.toNat n.toNat) ∧ (¬ Vld n L → v = .sl false [])

theorem cls_below {L : List (List Int)} {m : Nat} {P : List Int} (hP : Lab L m P) {v : Nat} (hv : v ≤ m) : cls P v v = [] := by
  unfold cls
  rw [List.filter_eq_nil_iff]
  intro u hu
  simp only [iot, List.mem_map, List.mem_range] at hu
  obtain ⟨k, hk, rfl⟩ := hu
  have := (hP.2 k (by omega)).2.1
  simp only [Int.ofNat_eq_natCast, Int.toNat_natCast, decide_eq_true_eq]
  omega

theorem cls_ne {L : List (List Int)} {m : Nat} {P : List Int} (hP : Lab L m P) (hf : Flat L P) {v : Nat} (hv : v < m) : cls P m v ≠ [] ↔ lb P v = v := by
  constructor
  · intro h
    obtain ⟨u, hu⟩ := List.exists_mem_of_ne_nil _ h
    unfold cls at hu
    rw [List.mem_filter] at hu
    obtain ⟨h1, h2⟩ := hu
    simp only [iot, List.mem_map, List.mem_range] at h1
    obtain ⟨k, hk, rfl⟩ := h1
    simp only [Int.ofNat_eq_natCast, Int.toNat_natCast, decide_eq_true_eq] at h2
    obtain ⟨a1, a2, a3⟩ := hP.2 k hk
    have := hf.conn a3
    rw [h2, Int.toNat_natCast] at this
    exact this.symm
  · intro h he
    have : (v : Int) ∈ cls P m v := by
      unfold cls
      rw [List.mem_filter]
      refine ⟨?_, by simpa using h⟩
      simp only [iot, List.mem_map, List.mem_range]
      exact ⟨v, hv, rfl⟩
    rw [he] at this
    simp at this

theorem parts13 {n : Int} {E : List (Bool × List Int)} {ns : Bool} (hE : SmE E) :
    PureP (findFn tab) 13 [.agg [.int .i64 n, .sl ns (iss E)]] (PartsR n (E.map (·.2))) := by
  refine pureP_of rfl rfl ?_
  (conv => whnf); repeat' (first | (refine need.mk ?_ ?_; (· (first | with_reducible rfl | omega | rfl | decide | trivial | exact ⟨rfl, rfl, by omega, by omega⟩ | exact ⟨by omega, by omega, roomy_of (by omega)⟩ | (refine ⟨rfl, rfl, ?_⟩; first | ((first | rw [lI] | rw [lS] | rw [lB]); omega) | (simp; done) | (simp; omega)) | (refine ⟨rfl, ?_⟩; first | ((first | rw [lI] | rw [lS] | rw [lB]); omega) | (simp; done) | (simp; omega)) | fail)); conv => whnf) | (refine pcase.mk (fun hc => ?_) (fun hc => ?_) <;> (try rw [List.length_nil] at hc) <;> first | (exfalso; omega) | (exact absurd rfl hc) | conv => whnf) | (apply wrapK_intro; (· exact wrap_i64 (by omega) (by omega)); conv => whnf) | (apply nthK_intro; (· (first | ((with_reducible first | refine nIN ?_ | refine nI ?_ | refine nSN ?_ | refine nS ?_ | refine nBN ?_ | refine nB ?_); (first | omega | (simp; omega))) | rfl)); conv => whnf) | (apply getK_intro; (· rfl); conv => whnf) | (apply eqK_intro; (· (first | (with_reducible first | exact lI _ | exact lS _ | exact lB _ | exact uI | exact uS | exact uIS | exact uSS | exact rIN _ _ | exact rI _ _ | exact tIN | exact tI | exact tBN | exact tB | exact uB | exact rBN _ _) | rfl)); conv => whnf) | ((first | apply apI | apply apS); (· first | rfl | (simp; done)); (· (first | omega | (simp; omega))); conv => whnf) | (refine fkI (fun hm => ?_) (fun _ v hm => ?_) <;> conv => whnf) | (apply msI; conv => whnf)  | (refine bcase_intro (fun hc => ?_) (fun hc => ?_) <;> conv => whnf))
  refine callB (valid10 hE) (fun hv => ?_) (fun hv => ?_)
  · obtain ⟨m, rfl⟩ : ∃ m : Nat, n = m := ⟨n.toNat, by have := hv.1; omega⟩
    have hn : (m : Int) ≤ 24 := hv.2.1
    have hEl := hE.1
    have hve : ∀ (i : Nat) (hi : i < E.length) (v : Int), v ∈ (E[i]).2 → 0 ≤ v ∧ v < m := fun i hi v h => (hv.2.2.2 _ (List.mem_map_of_mem (List.getElem_mem hi))).2.1 v h
    (conv => whnf); repeat' (first | (refine need.mk ?_ ?_; (· (first | with_reducible rfl | omega | rfl | decide | trivial | exact ⟨rfl, rfl, by omega, by omega⟩ | exact ⟨by omega, by omega, roomy_of (by omega)⟩ | (refine ⟨rfl, rfl, ?_⟩; first | ((first | rw [lI] | rw [lS] | rw [lB]); omega) | (simp; done) | (simp; omega)) | (refine ⟨rfl, ?_⟩; first | ((first | rw [lI] | rw [lS] | rw [lB]); omega) | (simp; done) | (simp; omega)) | fail)); conv => whnf) | (refine pcase.mk (fun hc => ?_) (fun hc => ?_) <;> (try rw [List.length_nil] at hc) <;> first | (exfalso; omega) | (exact absurd rfl hc) | conv => whnf) | (apply wrapK_intro; (· exact wrap_i64 (by omega) (by omega)); conv => whnf) | (apply nthK_intro; (· (first | ((with_reducible first | refine nIN ?_ | refine nI ?_ | refine nSN ?_ | refine nS ?_ | refine nBN ?_ | refine nB ?_); (first | omega | (simp; omega))) | rfl)); conv => whnf) | (apply getK_intro; (· rfl); conv => whnf) | (apply eqK_intro; (· (first | (with_reducible first | exact lI _ | exact lS _ | exact lB _ | exact uI | exact uS | exact uIS | exact uSS | exact rIN _ _ | exact rI _ _ | exact tIN | exact tI | exact tBN | exact tB | exact uB | exact rBN _ _) | rfl)); conv => whnf) | ((first | apply apI | apply apS); (· first | rfl | (simp; done)); (· (first | omega | (simp; omega))); conv => whnf) | (refine fkI (fun hm => ?_) (fun _ v hm => ?_) <;> conv => whnf) | (apply msI; conv => whnf)  | (refine bcase_intro (fun hc => ?_) (fun hc => ?_) <;> conv => whnf))
    refine loop_inv (fun k env s => ∃ i : Nat, k = m - i ∧ i ≤ m ∧ env = [(1, .ref 0 0 0 0), (3, .own 1 1 0 m), (4, .int .i64 i)] ∧ s = ⟨stP m ns E (iot i ++ List.replicate (m - i) 0), 2⟩) ?_ _ _ _ ⟨0, rfl, by omega, rfl, rfl⟩
    rintro _ _ _ ⟨i, rfl, hi, rfl, rfl⟩
    refine ⟨rfl, ?_⟩
    (conv => whnf); repeat' (first | (refine need.mk ?_ ?_; (· (first | with_reducible rfl | omega | rfl | decide | trivial | exact ⟨rfl, rfl, by omega, by omega⟩ | exact ⟨by omega, by omega, roomy_of (by omega)⟩ | (refine ⟨rfl, rfl, ?_⟩; first | ((first | rw [lI] | rw [lS] | rw [lB]); omega) | (simp; done) | (simp; omega)) | (refine ⟨rfl, ?_⟩; first | ((first | rw [lI] | rw [lS] | rw [lB]); omega) | (simp; done) | (simp; omega)) | fail)); conv => whnf) | (refine pcase.mk (fun hc => ?_) (fun hc => ?_) <;> (try rw [List.length_nil] at hc) <;> first | (exfalso; omega) | (exact absurd rfl hc) | conv => whnf) | (apply wrapK_intro; (· exact wrap_i64 (by omega) (by omega)); conv => whnf) | (apply nthK_intro; (· (first | ((with_reducible first | refine nIN ?_ | refine nI ?_ | refine nSN ?_ | refine nS ?_ | refine nBN ?_ | refine nB ?_); (first | omega | (simp; omega))) | rfl)); conv => whnf) | (apply getK_intro; (· rfl); conv => whnf) | (apply eqK_intro; (· (first | (with_reducible first | exact lI _ | exact lS _ | exact lB _ | exact uI | exact uS | exact uIS | exact uSS | exact rIN _ _ | exact rI _ _ | exact tIN | exact tI | exact tBN | exact tB | exact uB | exact rBN _ _) | rfl)); conv => whnf) | ((first | apply apI | apply apS); (· first | rfl | (simp; done)); (· (first | omega | (simp; omega))); conv => whnf) | (refine fkI (fun hm => ?_) (fun _ v hm => ?_) <;> conv => whnf) | (apply msI; conv => whnf)  | (refine bcase_intro (fun hc => ?_) (fun hc => ?_) <;> conv => whnf))
    · exact again.mk ⟨_, by omega, i + 1, rfl, by omega, rfl, congrArg (fun P => (⟨stP m ns E P, 2⟩ : Sto)) (iot_set (by omega))⟩
    obtain rfl : i = m := by omega
    rename Nat => m
    clear hi
    rw [Nat.sub_self, List.replicate_zero, List.append_nil]
    -- the rounds
    refine loop_inv (fun k env s => ∃ (r : Nat) (P : List Int), k = m - r ∧ r ≤ m ∧ env = [(1, .ref 0 0 0 0), (3, .own 1 1 0 m), (5, .int .i64 r)] ∧ s = ⟨stP m ns E P, 2⟩ ∧ Lab (E.map (·.2)) m P ∧ Near (E.map (·.2)) r P) ?_ _ _ _ ⟨0, _, rfl, by omega, rfl, rfl, lab_iot _ _, near_zero (lab_iot _ _)⟩
    rintro _ _ _ ⟨r, P, rfl, hr, rfl, rfl, hP, hPn⟩
    refine ⟨rfl, ?_⟩
    (conv => whnf); repeat' (first | (refine need.mk ?_ ?_; (· (first | with_reducible rfl | omega | rfl | decide | trivial | exact ⟨rfl, rfl, by omega, by omega⟩ | exact ⟨by omega, by omega, roomy_of (by omega)⟩ | (refine ⟨rfl, rfl, ?_⟩; first | ((first | rw [lI] | rw [lS] | rw [lB]); omega) | (simp; done) | (simp; omega)) | (refine ⟨rfl, ?_⟩; first | ((first | rw [lI] | rw [lS] | rw [lB]); omega) | (simp; done) | (simp; omega)) | fail)); conv => whnf) | (refine pcase.mk (fun hc => ?_) (fun hc => ?_) <;> (try rw [List.length_nil] at hc) <;> first | (exfalso; omega) | (exact absurd rfl hc) | conv => whnf) | (apply wrapK_intro; (· exact wrap_i64 (by omega) (by omega)); conv => whnf) | (apply nthK_intro; (· (first | ((with_reducible first | refine nIN ?_ | refine nI ?_ | refine nSN ?_ | refine nS ?_ | refine nBN ?_ | refine nB ?_); (first | omega | (simp; omega))) | rfl)); conv => whnf) | (apply getK_intro; (· rfl); conv => whnf) | (apply eqK_intro; (· (first | (with_reducible first | exact lI _ | exact lS _ | exact lB _ | exact uI | exact uS | exact uIS | exact uSS | exact rIN _ _ | exact rI _ _ | exact tIN | exact tI | exact tBN | exact tB | exact uB | exact rBN _ _) | rfl)); conv => whnf) | ((first | apply apI | apply apS); (· first | rfl | (simp; done)); (· (first | omega | (simp; omega))); conv => whnf) | (refine fkI (fun hm => ?_) (fun _ v hm => ?_) <;> conv => whnf) | (apply msI; conv => whnf)  | (refine bcase_intro (fun hc => ?_) (fun hc => ?_) <;> conv => whnf))
    · -- the edges
      rename_i hrm
      refine loop_inv (fun k env s => ∃ (i : Nat) (Q : List Int), k = E.length - i ∧ env = [(1, .ref 0 0 0 0), (3, .own 1 1 0 m), (5, .int .i64 r), (6, .int .i64 i)] ∧ s = ⟨stP m ns E Q, 2⟩ ∧ Lab (E.map (·.2)) m Q ∧ Sinks ((E.map (·.2)).take i) P Q) ?_ _ _ _ ⟨0, P, rfl, rfl, rfl, hP, fun u _ => Int.le_refl _, fun a b h => by obtain ⟨e, h, _⟩ := h; simp at h⟩
      rintro _ _ _ ⟨i, Q, rfl, rfl, rfl, hQ, hQs⟩
      refine ⟨rfl, ?_⟩
      (conv => whnf); repeat' (first | (refine need.mk ?_ ?_; (· (first | with_reducible rfl | omega | rfl | decide | trivial | exact ⟨rfl, rfl, by omega, by omega⟩ | exact ⟨by omega, by omega, roomy_of (by omega)⟩ | (refine ⟨rfl, rfl, ?_⟩; first | ((first | rw [lI] | rw [lS] | rw [lB]); omega) | (simp; done) | (simp; omega)) | (refine ⟨rfl, ?_⟩; first | ((first | rw [lI] | rw [lS] | rw [lB]); omega) | (simp; done) | (simp; omega)) | fail)); conv => whnf) | (refine pcase.mk (fun hc => ?_) (fun hc => ?_) <;> (try rw [List.length_nil] at hc) <;> first | (exfalso; omega) | (exact absurd rfl hc) | conv => whnf) | (apply wrapK_intro; (· exact wrap_i64 (by omega) (by omega)); conv => whnf) | (apply nthK_intro; (· (first | ((with_reducible first | refine nIN ?_ | refine nI ?_ | refine nSN ?_ | refine nS ?_ | refine nBN ?_ | refine nB ?_); (first | omega | (simp; omega))) | rfl)); conv => whnf) | (apply getK_intro; (· rfl); conv => whnf) | (apply eqK_intro; (· (first | (with_reducible first | exact lI _ | exact lS _ | exact lB _ | exact uI | exact uS | exact uIS | exact uSS | exact rIN _ _ | exact rI _ _ | exact tIN | exact tI | exact tBN | exact tB | exact uB | exact rBN _ _) | rfl)); conv => whnf) | ((first | apply apI | apply apS); (· first | rfl | (simp; done)); (· (first | omega | (simp; omega))); conv => whnf) | (refine fkI (fun hm => ?_) (fun _ v hm => ?_) <;> conv => whnf) | (apply msI; conv => whnf)  | (refine bcase_intro (fun hc => ?_) (fun hc => ?_) <;> conv => whnf))
      · have hi : i < E.length := by omega
        have hs := hE.get hi
        -- the least label
        refine loop_inv (fun k env s => ∃ (j : Nat) (z : Int), k = (E[i]).2.length - j ∧ env = [(1, .ref 0 0 0 0), (3, .own 1 1 0 m), (5, .int .i64 r), (6, .int .i64 i), (7, .int .i64 z), (8, .int .i64 j)] ∧ s = ⟨stP m ns E Q, 2⟩ ∧ (∀ v ∈ (E[i]).2.take j, z ≤ lb Q v.toNat) ∧ (j = 0 ∧ z = m ∨ ∃ v ∈ (E[i]).2, z = lb Q v.toNat)) ?_ _ _ _ ⟨0, m, rfl, rfl, rfl, by simp, .inl ⟨rfl, rfl⟩⟩
        rintro _ _ _ ⟨j, z, rfl, rfl, rfl, hz, hz'⟩
        refine ⟨rfl, ?_⟩
        have hQl := hQ.1
        by_cases hj : j < (E[i]).2.length
        · have hvj := hve i hi _ (List.getElem_mem hj)
          (conv => whnf); repeat' (first | (refine need.mk ?_ ?_; (· (first | with_reducible rfl | omega | rfl | decide | trivial | exact ⟨rfl, rfl, by omega, by omega⟩ | exact ⟨by omega, by omega, roomy_of (by omega)⟩ | (refine ⟨rfl, rfl, ?_⟩; first | ((first | rw [lI] | rw [lS] | rw [lB]); omega) | (simp; done) | (simp; omega)) | (refine ⟨rfl, ?_⟩; first | ((first | rw [lI] | rw [lS] | rw [lB]); omega) | (simp; done) | (simp; omega)) | fail)); conv => whnf) | (refine pcase.mk (fun hc => ?_) (fun hc => ?_) <;> (try rw [List.length_nil] at hc) <;> first | (exfalso; omega) | (exact absurd rfl hc) | conv => whnf) | (apply wrapK_intro; (· exact wrap_i64 (by omega) (by omega)); conv => whnf) | (apply nthK_intro; (· (first | ((with_reducible first | refine nIN ?_ | refine nI ?_ | refine nSN ?_ | refine nS ?_ | refine nBN ?_ | refine nB ?_); (first | omega | (simp; omega))) | rfl)); conv => whnf) | (apply getK_intro; (· rfl); conv => whnf) | (apply eqK_intro; (· (first | (with_reducible first | exact lI _ | exact lS _ | exact lB _ | exact uI | exact uS | exact uIS | exact uSS | exact rIN _ _ | exact rI _ _ | exact tIN | exact tI | exact tBN | exact tB | exact uB | exact rBN _ _) | rfl)); conv => whnf) | ((first | apply apI | apply apS); (· first | rfl | (simp; done)); (· (first | omega | (simp; omega))); conv => whnf) | (refine fkI (fun hm => ?_) (fun _ v hm => ?_) <;> conv => whnf) | (apply msI; conv => whnf)  | (refine bcase_intro (fun hc => ?_) (fun hc => ?_) <;> conv => whnf))
          have hlt : (E[i]).2[j].toNat < Q.length := by omega
          refine again.mk ⟨_, by omega, j + 1, _, rfl, rfl, rfl, all_take_succ hj (fun v hv => ?_) ?_, .inr ?_⟩
          · have := hz v hv; split <;> omega
          · rw [lb_eq hlt]; split <;> omega
          · split
            · exact ⟨_, List.getElem_mem hj, (lb_eq hlt).symm⟩
            · rcases hz' with ⟨rfl, rfl⟩ | h
              · exfalso
                have := (hQ.2 (E[i]).2[0].toNat (by omega)).2.1
                rw [lb_eq hlt] at this
                omega
              · exact h
        · (conv => whnf); repeat' (first | (refine need.mk ?_ ?_; (· (first | with_reducible rfl | omega | rfl | decide | trivial | exact ⟨rfl, rfl, by omega, by omega⟩ | exact ⟨by omega, by omega, roomy_of (by omega)⟩ | (refine ⟨rfl, rfl, ?_⟩; first | ((first | rw [lI] | rw [lS] | rw [lB]); omega) | (simp; done) | (simp; omega)) | (refine ⟨rfl, ?_⟩; first | ((first | rw [lI] | rw [lS] | rw [lB]); omega) | (simp; done) | (simp; omega)) | fail)); conv => whnf) | (refine pcase.mk (fun hc => ?_) (fun hc => ?_) <;> (try rw [List.length_nil] at hc) <;> first | (exfalso; omega) | (exact absurd rfl hc) | conv => whnf) | (apply wrapK_intro; (· exact wrap_i64 (by omega) (by omega)); conv => whnf) | (apply nthK_intro; (· (first | ((with_reducible first | refine nIN ?_ | refine nI ?_ | refine nSN ?_ | refine nS ?_ | refine nBN ?_ | refine nB ?_); (first | omega | (simp; omega))) | rfl)); conv => whnf) | (apply getK_intro; (· rfl); conv => whnf) | (apply eqK_intro; (· (first | (with_reducible first | exact lI _ | exact lS _ | exact lB _ | exact uI | exact uS | exact uIS | exact uSS | exact rIN _ _ | exact rI _ _ | exact tIN | exact tI | exact tBN | exact tB | exact uB | exact rBN _ _) | rfl)); conv => whnf) | ((first | apply apI | apply apS); (· first | rfl | (simp; done)); (· (first | omega | (simp; omega))); conv => whnf) | (refine fkI (fun hm => ?_) (fun _ v hm => ?_) <;> conv => whnf) | (apply msI; conv => whnf)  | (refine bcase_intro (fun hc => ?_) (fun hc => ?_) <;> conv => whnf))
          have hz2 : ∀ v ∈ (E[i]).2, z ≤ lb Q v.toNat := by rwa [List.take_of_length_le (by omega)] at hz
          have hne := (hv.2.2.2 _ (List.mem_map_of_mem (List.getElem_mem hi))).1
          have hz3 : ∃ v ∈ (E[i]).2, 0 ≤ v ∧ v < m ∧ z = lb Q v.toNat := by
            rcases hz' with ⟨rfl, _⟩ | ⟨v, h1, h2⟩
            · exact absurd (List.eq_nil_of_length_eq_zero (by omega)) hne
            · exact ⟨v, h1, (hve i hi v h1).1, (hve i hi v h1).2, h2⟩
          refine loop_inv (fun k env s => ∃ (j : Nat) (S : List Int), k = (E[i]).2.length - j ∧ env = [(1, .ref 0 0 0 0), (3, .own 1 1 0 m), (5, .int .i64 r), (6, .int .i64 i), (7, .int .i64 z), (9, .int .i64 j)] ∧ s = ⟨stP m ns E S, 2⟩ ∧ S.length = m ∧ ∀ u < m, lb S u = if (u : Int) ∈ (E[i]).2.take j then z else lb Q u) ?_ _ _ _ ⟨0, Q, rfl, rfl, rfl, hQl, by simp⟩
          rintro _ _ _ ⟨j, S, rfl, rfl, rfl, hSl, hS⟩
          refine ⟨rfl, ?_⟩
          by_cases hj : j < (E[i]).2.length
          · have hvj := hve i hi _ (List.getElem_mem hj)
            (conv => whnf); repeat' (first | (refine need.mk ?_ ?_; (· (first | with_reducible rfl | omega | rfl | decide | trivial | exact ⟨rfl, rfl, by omega, by omega⟩ | exact ⟨by omega, by omega, roomy_of (by omega)⟩ | (refine ⟨rfl, rfl, ?_⟩; first | ((first | rw [lI] | rw [lS] | rw [lB]); omega) | (simp; done) | (simp; omega)) | (refine ⟨rfl, ?_⟩; first | ((first | rw [lI] | rw [lS] | rw [lB]); omega) | (simp; done) | (simp; omega)) | fail)); conv => whnf) | (refine pcase.mk (fun hc => ?_) (fun hc => ?_) <;> (try rw [List.length_nil] at hc) <;> first | (exfalso; omega) | (exact absurd rfl hc) | conv => whnf) | (apply wrapK_intro; (· exact wrap_i64 (by omega) (by omega)); conv => whnf) | (apply nthK_intro; (· (first | ((with_reducible first | refine nIN ?_ | refine nI ?_ | refine nSN ?_ | refine nS ?_ | refine nBN ?_ | refine nB ?_); (first | omega | (simp; omega))) | rfl)); conv => whnf) | (apply getK_intro; (· rfl); conv => whnf) | (apply eqK_intro; (· (first | (with_reducible first | exact lI _ | exact lS _ | exact lB _ | exact uI | exact uS | exact uIS | exact uSS | exact rIN _ _ | exact rI _ _ | exact tIN | exact tI | exact tBN | exact tB | exact uB | exact rBN _ _) | rfl)); conv => whnf) | ((first | apply apI | apply apS); (· first | rfl | (simp; done)); (· (first | omega | (simp; omega))); conv => whnf) | (refine fkI (fun hm => ?_) (fun _ v hm => ?_) <;> conv => whnf) | (apply msI; conv => whnf)  | (refine bcase_intro (fun hc => ?_) (fun hc => ?_) <;> conv => whnf))
            refine again.mk ⟨_, by omega, j + 1, _, rfl, rfl, rfl, by rw [List.length_set, hSl], fun u hu => ?_⟩
            rw [lb_set (by omega), hS u hu]
            have ht := take_mem_iff (x := (u : Int)) hj
            by_cases h1 : (u : Int) = (E[i]).2[j]
            · rw [if_pos (by omega), if_pos (ht.2 (.inr h1))]
            · rw [if_neg (by omega)]
              by_cases h2 : (u : Int) ∈ (E[i]).2.take j
              · rw [if_pos h2, if_pos (ht.2 (.inl h2))]
              · rw [if_neg h2, if_neg (fun h => (ht.1 h).elim h2 h1)]
          · (conv => whnf); repeat' (first | (refine need.mk ?_ ?_; (· (first | with_reducible rfl | omega | rfl | decide | trivial | exact ⟨rfl, rfl, by omega, by omega⟩ | exact ⟨by omega, by omega, roomy_of (by omega)⟩ | (refine ⟨rfl, rfl, ?_⟩; first | ((first | rw [lI] | rw [lS] | rw [lB]); omega) | (simp; done) | (simp; omega)) | (refine ⟨rfl, ?_⟩; first | ((first | rw [lI] | rw [lS] | rw [lB]); omega) | (simp; done) | (simp; omega)) | fail)); conv => whnf) | (refine pcase.mk (fun hc => ?_) (fun hc => ?_) <;> (try rw [List.length_nil] at hc) <;> first | (exfalso; omega) | (exact absurd rfl hc) | conv => whnf) | (apply wrapK_intro; (· exact wrap_i64 (by omega) (by omega)); conv => whnf) | (apply nthK_intro; (· (first | ((with_reducible first | refine nIN ?_ | refine nI ?_ | refine nSN ?_ | refine nS ?_ | refine nBN ?_ | refine nB ?_); (first | omega | (simp; omega))) | rfl)); conv => whnf) | (apply getK_intro; (· rfl); conv => whnf) | (apply eqK_intro; (· (first | (with_reducible first | exact lI _ | exact lS _ | exact lB _ | exact uI | exact uS | exact uIS | exact uSS | exact rIN _ _ | exact rI _ _ | exact tIN | exact tI | exact tBN | exact tB | exact uB | exact rBN _ _) | rfl)); conv => whnf) | ((first | apply apI | apply apS); (· first | rfl | (simp; done)); (· (first | omega | (simp; omega))); conv => whnf) | (refine fkI (fun hm => ?_) (fun _ v hm => ?_) <;> conv => whnf) | (apply msI; conv => whnf)  | (refine bcase_intro (fun hc => ?_) (fun hc => ?_) <;> conv => whnf))
            rw [List.take_of_length_le (by omega)] at hS
            refine again.mk ⟨_, by omega, i + 1, S, rfl, rfl, rfl, ?_, ?_⟩
            · exact lab_sets hQ hSl (List.mem_map_of_mem (List.getElem_mem hi)) hz2 hz3 hS
            · rw [take_snds hi]
              exact sinks_sets hP.1 hQl (hve i hi) (fun a b h => by have := (hv.lt (edge_take h)).1; omega) hQs hz2 hS
      · rw [List.take_of_length_le (by simp; omega)] at hQs
        exact again.mk ⟨_, by omega, r + 1, Q, rfl, by omega, rfl, rfl, hQ, near_succ hv hP hQ hPn hQs⟩
    · obtain rfl : r = m := by omega
      have hf := near_flat hv hP hPn
      clear hPn hr
      have hPl := hP.1
      refine loop_inv (fun k env s => ∃ (v g c ol : Nat) (nn : Bool) (out : List (Bool × List Int)), k = r - v ∧ v ≤ r ∧ ol = out.length ∧ ol ≤ v ∧ env = [(1, .ref 0 0 0 0), (3, .own 1 1 0 r), (10, .own 2 g 0 ol), (11, .int .i64 v)] ∧ s = ⟨stP r ns E P ++ [.arr g 1 nn true (iss out)], c⟩ ∧ out.map (·.2) = classes P r v) ?_ _ _ _ ⟨0, _, _, _, _, [], rfl, by omega, rfl, by simp, rfl, rfl, rfl⟩
      rintro _ _ _ ⟨v, g, c, ol, nn, out, rfl, hvr, rfl, hol, rfl, rfl, hout⟩
      refine ⟨rfl, ?_⟩
      (conv => whnf); repeat' (first | (refine need.mk ?_ ?_; (· (first | with_reducible rfl | omega | rfl | decide | trivial | exact ⟨rfl, rfl, by omega, by omega⟩ | exact ⟨by omega, by omega, roomy_of (by omega)⟩ | (refine ⟨rfl, rfl, ?_⟩; first | ((first | rw [lI] | rw [lS] | rw [lB]); omega) | (simp; done) | (simp; omega)) | (refine ⟨rfl, ?_⟩; first | ((first | rw [lI] | rw [lS] | rw [lB]); omega) | (simp; done) | (simp; omega)) | fail)); conv => whnf) | (refine pcase.mk (fun hc => ?_) (fun hc => ?_) <;> (try rw [List.length_nil] at hc) <;> first | (exfalso; omega) | (exact absurd rfl hc) | conv => whnf) | (apply wrapK_intro; (· exact wrap_i64 (by omega) (by omega)); conv => whnf) | (apply nthK_intro; (· (first | ((with_reducible first | refine nIN ?_ | refine nI ?_ | refine nSN ?_ | refine nS ?_ | refine nBN ?_ | refine nB ?_); (first | omega | (simp; omega))) | rfl)); conv => whnf) | (apply getK_intro; (· rfl); conv => whnf) | (apply eqK_intro; (· (first | (with_reducible first | exact lI _ | exact lS _ | exact lB _ | exact uI | exact uS | exact uIS | exact uSS | exact rIN _ _ | exact rI _ _ | exact tIN | exact tI | exact tBN | exact tB | exact uB | exact rBN _ _) | rfl)); conv => whnf) | ((first | apply apI | apply apS); (· first | rfl | (simp; done)); (· (first | omega | (simp; omega))); conv => whnf) | (refine fkI (fun hm => ?_) (fun _ v hm => ?_) <;> conv => whnf) | (apply msI; conv => whnf)  | (refine bcase_intro (fun hc => ?_) (fun hc => ?_) <;> conv => whnf))
      · rename_i hvr'
        refine loop_inv (fun k env s => ∃ (w g' c' ll : Nat) (nn' : Bool) (l : List Int), k = r - w ∧ w ≤ r ∧ ll = l.length ∧ ll ≤ w ∧ env = [(1, .ref 0 0 0 0), (3, .own 1 1 0 r), (10, .own 2 g 0 out.length), (11, .int .i64 v), (12, .own 3 g' 0 ll), (13, .int .i64 w)] ∧ s = ⟨stP r ns E P ++ [.arr g 1 nn true (iss out), .arr g' 1 nn' true (ints l)], c'⟩ ∧ l = cls P w v) ?_ _ _ _ ⟨v, _, _, _, _, [], rfl, by omega, rfl, by simp, rfl, rfl, (cls_below hP hvr).symm⟩
        rintro _ _ _ ⟨w, g', c', ll, nn', l, rfl, hwr, rfl, hll, rfl, rfl, hl⟩
        refine ⟨rfl, ?_⟩
        (conv => whnf); repeat' (first | (refine need.mk ?_ ?_; (· (first | with_reducible rfl | omega | rfl | decide | trivial | exact ⟨rfl, rfl, by omega, by omega⟩ | exact ⟨by omega, by omega, roomy_of (by omega)⟩ | (refine ⟨rfl, rfl, ?_⟩; first | ((first | rw [lI] | rw [lS] | rw [lB]); omega) | (simp; done) | (simp; omega)) | (refine ⟨rfl, ?_⟩; first | ((first | rw [lI] | rw [lS] | rw [lB]); omega) | (simp; done) | (simp; omega)) | fail)); conv => whnf) | (refine pcase.mk (fun hc => ?_) (fun hc => ?_) <;> (try rw [List.length_nil] at hc) <;> first | (exfalso; omega) | (exact absurd rfl hc) | conv => whnf) | (apply wrapK_intro; (· exact wrap_i64 (by omega) (by omega)); conv => whnf) | (apply nthK_intro; (· (first | ((with_reducible first | refine nIN ?_ | refine nI ?_ | refine nSN ?_ | refine nS ?_ | refine nBN ?_ | refine nB ?_); (first | omega | (simp; omega))) | rfl)); conv => whnf) | (apply getK_intro; (· rfl); conv => whnf) | (apply eqK_intro; (· (first | (with_reducible first | exact lI _ | exact lS _ | exact lB _ | exact uI | exact uS | exact uIS | exact uSS | exact rIN _ _ | exact rI _ _ | exact tIN | exact tI | exact tBN | exact tB | exact uB | exact rBN _ _) | rfl)); conv => whnf) | ((first | apply apI | apply apS); (· first | rfl | (simp; done)); (· (first | omega | (simp; omega))); conv => whnf) | (refine fkI (fun hm => ?_) (fun _ v hm => ?_) <;> conv => whnf) | (apply msI; conv => whnf)  | (refine bcase_intro (fun hc => ?_) (fun hc => ?_) <;> conv => whnf))
        · exact again.mk ⟨_, by omega, w + 1, _, _, _, _, _, rfl, by omega, by simp, by omega, rfl, rfl, by rw [cls_succ, lb_eq (by omega), if_pos hc, hl]⟩
        · exact again.mk ⟨_, by omega, w + 1, _, _, _, _, _, rfl, by omega, rfl, by omega, rfl, rfl, by rw [cls_succ, lb_eq (by omega), if_neg hc, List.append_nil, hl]⟩
        · obtain rfl : w = r := by omega
          have h1 : lb P v = v := (cls_ne hP hf (by omega)).1 (by rw [← hl]; rintro rfl; simp at hc)
          exact again.mk ⟨_, by omega, v + 1, _, _, _, _, _, rfl, by omega, by simp, by omega, rfl, rfl, by rw [classes_succ, if_pos h1, List.map_append, hout, ← hl]; rfl⟩
        · obtain rfl : w = r := by omega
          have h1 : ¬ lb P v = v := fun h => (cls_ne hP hf (by omega)).2 h (by rw [← hl]; exact List.eq_nil_of_length_eq_zero (by omega))
          exact again.mk ⟨_, by omega, v + 1, _, _, _, _, _, rfl, by omega, rfl, by omega, rfl, rfl, by rw [classes_succ, if_neg h1, List.append_nil, hout]⟩
      · obtain rfl : v = r := by omega
        refine ⟨fun _ => ⟨P, nn, out, rfl, hP, hf, hout⟩, fun h => absurd hv h⟩
  · (conv => whnf); repeat' (first | (refine need.mk ?_ ?_; (· (first | with_reducible rfl | omega | rfl | decide | trivial | exact ⟨rfl, rfl, by omega, by omega⟩ | exact ⟨by omega, by omega, roomy_of (by omega)⟩ | (refine ⟨rfl, rfl, ?_⟩; first | ((first | rw [lI] | rw [lS] | rw [lB]); omega) | (simp; done) | (simp; omega)) | (refine ⟨rfl, ?_⟩; first | ((first | rw [lI] | rw [lS] | rw [lB]); omega) | (simp; done) | (simp; omega)) | fail)); conv => whnf) | (refine pcase.mk (fun hc => ?_) (fun hc => ?_) <;> (try rw [List.length_nil] at hc) <;> first | (exfalso; omega) | (exact absurd rfl hc) | conv => whnf) | (apply wrapK_intro; (· exact wrap_i64 (by omega) (by omega)); conv => whnf) | (apply nthK_intro; (· (first | ((with_reducible first | refine nIN ?_ | refine nI ?_ | refine nSN ?_ | refine nS ?_ | refine nBN ?_ | refine nB ?_); (first | omega | (simp; omega))) | rfl)); conv => whnf) | (apply getK_intro; (· rfl); conv => whnf) | (apply eqK_intro; (· (first | (with_reducible first | exact lI _ | exact lS _ | exact lB _ | exact uI | exact uS | exact uIS | exact uSS | exact rIN _ _ | exact rI _ _ | exact tIN | exact tI | exact tBN | exact tB | exact uB | exact rBN _ _) | rfl)); conv => whnf) | ((first | apply apI | apply apS); (· first | rfl | (simp; done)); (· (first | omega | (simp; omega))); conv => whnf) | (refine fkI (fun hm => ?_) (fun _ v hm => ?_) <;> conv => whnf) | (apply msI; conv => whnf)  | (refine bcase_intro (fun hc => ?_) (fun hc => ?_) <;> conv => whnf))
    exact ⟨fun h => absurd h hv, fun _ => rfl⟩

theorem lab_flat_join {L : List (List Int)} {m : Nat} {Q : List Int} (hQ : Lab L m Q) {a b : Nat} (ha : a < m) (hb : b < m) (h : lb Q a = lb Q b) (f t : Int) : lb (join2 f t Q) a = lb (join2 f t Q) b :=
  join2_same h (by rw [hQ.1]; exact ha) (by rw [hQ.1]; exact hb)

theorem parts12 {n : Int} {E : List (Bool × List Int)} {ns : Bool} (hE : SmE E) :
    PureP (findFn tab) 12 [.agg [.int .i64 n, .sl ns (iss E)]] (PartsR n (E.map (·.2))) := by
  refine pureP_of rfl rfl ?_
  (conv => whnf); repeat' (first | (refine need.mk ?_ ?_; (· (first | with_reducible rfl | omega | rfl | decide | trivial | exact ⟨rfl, rfl, by omega, by omega⟩ | exact ⟨by omega, by omega, roomy_of (by omega)⟩ | (refine ⟨rfl, rfl, ?_⟩; first | ((first | rw [lI] | rw [lS] | rw [lB]); omega) | (simp; done) | (simp; omega)) | (refine ⟨rfl, ?_⟩; first | ((first | rw [lI] | rw [lS] | rw [lB]); omega) | (simp; done) | (simp; omega)) | fail)); conv => whnf) | (refine pcase.mk (fun hc => ?_) (fun hc => ?_) <;> (try rw [List.length_nil] at hc) <;> first | (exfalso; omega) | (exact absurd rfl hc) | conv => whnf) | (apply wrapK_intro; (· exact wrap_i64 (by omega) (by omega)); conv => whnf) | (apply nthK_intro; (· (first | ((with_reducible first | refine nIN ?_ | refine nI ?_ | refine nSN ?_ | refine nS ?_ | refine nBN ?_ | refine nB ?_); (first | omega | (simp; omega))) | rfl)); conv => whnf) | (apply getK_intro; (· rfl); conv => whnf) | (apply eqK_intro; (· (first | (with_reducible first | exact lI _ | exact lS _ | exact lB _ | exact uI | exact uS | exact uIS | exact uSS | exact rIN _ _ | exact rI _ _ | exact tIN | exact tI | exact tBN | exact tB | exact uB | exact rBN _ _) | rfl)); conv => whnf) | ((first | apply apI | apply apS); (· first | rfl | (simp; done)); (· (first | omega | (simp; omega))); conv => whnf) | (refine fkI (fun hm => ?_) (fun _ v hm => ?_) <;> conv => whnf) | (apply msI; conv => whnf)  | (refine bcase_intro (fun hc => ?_) (fun hc => ?_) <;> conv => whnf))
  refine callB (valid9 hE) (fun hv => ?_) (fun hv => ?_)
  · obtain ⟨m, rfl⟩ : ∃ m : Nat, n = m := ⟨n.toNat, by have := hv.1; omega⟩
    have hn : (m : Int) ≤ 24 := hv.2.1
    have hEl := hE.1
    have hve : ∀ (i : Nat) (hi : i < E.length) (v : Int), v ∈ (E[i]).2 → 0 ≤ v ∧ v < m := fun i hi v h => (hv.2.2.2 _ (List.mem_map_of_mem (List.getElem_mem hi))).2.1 v h
    (conv => whnf); repeat' (first | (refine need.mk ?_ ?_; (· (first | with_reducible rfl | omega | rfl | decide | trivial | exact ⟨rfl, rfl, by omega, by omega⟩ | exact ⟨by omega, by omega, roomy_of (by omega)⟩ | (refine ⟨rfl, rfl, ?_⟩; first | ((first | rw [lI] | rw [lS] | rw [lB]); omega) | (simp; done) | (simp; omega)) | (refine ⟨rfl, ?_⟩; first | ((first | rw [lI] | rw [lS] | rw [lB]); omega) | (simp; done) | (simp; omega)) | fail)); conv => whnf) | (refine pcase.mk (fun hc => ?_) (fun hc => ?_) <;> (try rw [List.length_nil] at hc) <;> first | (exfalso; omega) | (exact absurd rfl hc) | conv => whnf) | (apply wrapK_intro; (· exact wrap_i64 (by omega) (by omega)); conv => whnf) | (apply nthK_intro; (· (first | ((with_reducible first | refine nIN ?_ | refine nI ?_ | refine nSN ?_ | refine nS ?_ | refine nBN ?_ | refine nB ?_); (first | omega | (simp; omega))) | rfl)); conv => whnf) | (apply getK_intro; (· rfl); conv => whnf) | (apply eqK_intro; (· (first | (with_reducible first | exact lI _ | exact lS _ | exact lB _ | exact uI | exact uS | exact uIS | exact uSS | exact rIN _ _ | exact rI _ _ | exact tIN | exact tI | exact tBN | exact tB | exact uB | exact rBN _ _) | rfl)); conv => whnf) | ((first | apply apI | apply apS); (· first | rfl | (simp; done)); (· (first | omega | (simp; omega))); conv => whnf) | (refine fkI (fun hm => ?_) (fun _ v hm => ?_) <;> conv => whnf) | (apply msI; conv => whnf)  | (refine bcase_intro (fun hc => ?_) (fun hc => ?_) <;> conv => whnf))
    refine loop_inv (fun k env s => ∃ i : Nat, k = m - i ∧ i ≤ m ∧ env = [(1, .ref 0 0 0 0), (3, .own 1 1 0 m), (25, .int .i64 m), (26, .int .i64 i)] ∧ s = ⟨stP m ns E (iot i ++ List.replicate (m - i) 0), 2⟩) ?_ _ _ _ ⟨0, rfl, by omega, rfl, rfl⟩
    rintro _ _ _ ⟨i, rfl, hi, rfl, rfl⟩
    refine ⟨rfl, ?_⟩
    (conv => whnf); repeat' (first | (refine need.mk ?_ ?_; (· (first | with_reducible rfl | omega | rfl | decide | trivial | exact ⟨rfl, rfl, by omega, by omega⟩ | exact ⟨by omega, by omega, roomy_of (by omega)⟩ | (refine ⟨rfl, rfl, ?_⟩; first | ((first | rw [lI] | rw [lS] | rw [lB]); omega) | (simp; done) | (simp; omega)) | (refine ⟨rfl, ?_⟩; first | ((first | rw [lI] | rw [lS] | rw [lB]); omega) | (simp; done) | (simp; omega)) | fail)); conv => whnf) | (refine pcase.mk (fun hc => ?_) (fun hc => ?_) <;> (try rw [List.length_nil] at hc) <;> first | (exfalso; omega) | (exact absurd rfl hc) | conv => whnf) | (apply wrapK_intro; (· exact wrap_i64 (by omega) (by omega)); conv => whnf) | (apply nthK_intro; (· (first | ((with_reducible first | refine nIN ?_ | refine nI ?_ | refine nSN ?_ | refine nS ?_ | refine nBN ?_ | refine nB ?_); (first | omega | (simp; omega))) | rfl)); conv => whnf) | (apply getK_intro; (· rfl); conv => whnf) | (apply eqK_intro; (· (first | (with_reducible first | exact lI _ | exact lS _ | exact lB _ | exact uI | exact uS | exact uIS | exact uSS | exact rIN _ _ | exact rI _ _ | exact tIN | exact tI | exact tBN | exact tB | exact uB | exact rBN _ _) | rfl)); conv => whnf) | ((first | apply apI | apply apS); (· first | rfl | (simp; done)); (· (first | omega | (simp; omega))); conv => whnf) | (refine fkI (fun hm => ?_) (fun _ v hm => ?_) <;> conv => whnf) | (apply msI; conv => whnf)  | (refine bcase_intro (fun hc => ?_) (fun hc => ?_) <;> conv => whnf))
    · exact again.mk ⟨_, by omega, i + 1, rfl, by omega, rfl, congrArg (fun P => (⟨stP m ns E P, 2⟩ : Sto)) (iot_set (by omega))⟩
    obtain rfl : i = m := by omega
    rename Nat => m
    clear hi
    rw [Nat.sub_self, List.replicate_zero, List.append_nil]
    -- the edges
    refine loop_inv (fun k env s => ∃ (i : Nat) (Q : List Int), k = E.length - i ∧ env = [(3, .own 1 1 0 m), (35, .sl ns (iss E)), (36, .int .i64 E.length), (37, .int .i64 i)] ∧ s = ⟨stP m ns E Q, 2⟩ ∧ Lab (E.map (·.2)) m Q ∧ Flat ((E.map (·.2)).take i) Q) ?_ _ _ _ ⟨0, _, rfl, by simp, rfl, lab_iot _ _, fun a b h => by obtain ⟨e, h, _⟩ := h; simp at h⟩
    rintro _ _ _ ⟨i, Q, rfl, rfl, rfl, hQ, hQf⟩
    refine ⟨rfl, ?_⟩
    (conv => whnf); repeat' (first | (refine need.mk ?_ ?_; (· (first | with_reducible rfl | omega | rfl | decide | trivial | exact ⟨rfl, rfl, by omega, by omega⟩ | exact ⟨by omega, by omega, roomy_of (by omega)⟩ | (refine ⟨rfl, rfl, ?_⟩; first | ((first | rw [lI] | rw [lS] | rw [lB]); omega) | (simp; done) | (simp; omega)) | (refine ⟨rfl, ?_⟩; first | ((first | rw [lI] | rw [lS] | rw [lB]); omega) | (simp; done) | (simp; omega)) | fail)); conv => whnf) | (refine pcase.mk (fun hc => ?_) (fun hc => ?_) <;> (try rw [List.length_nil] at hc) <;> first | (exfalso; omega) | (exact absurd rfl hc) | conv => whnf) | (apply wrapK_intro; (· exact wrap_i64 (by omega) (by omega)); conv => whnf) | (apply nthK_intro; (· (first | ((with_reducible first | refine nIN ?_ | refine nI ?_ | refine nSN ?_ | refine nS ?_ | refine nBN ?_ | refine nB ?_); (first | omega | (simp; omega))) | rfl)); conv => whnf) | (apply getK_intro; (· rfl); conv => whnf) | (apply eqK_intro; (· (first | (with_reducible first | exact lI _ | exact lS _ | exact lB _ | exact uI | exact uS | exact uIS | exact uSS | exact rIN _ _ | exact rI _ _ | exact tIN | exact tI | exact tBN | exact tB | exact uB | exact rBN _ _) | rfl)); conv => whnf) | ((first | apply apI | apply apS); (· first | rfl | (simp; done)); (· (first | omega | (simp; omega))); conv => whnf) | (refine fkI (fun hm => ?_) (fun _ v hm => ?_) <;> conv => whnf) | (apply msI; conv => whnf)  | (refine bcase_intro (fun hc => ?_) (fun hc => ?_) <;> conv => whnf))
    · have hi : i < E.length := by omega
      have hs := hE.get hi
      have hne := (hv.2.2.2 _ (List.mem_map_of_mem (List.getElem_mem hi))).1
      have h0 : 0 < (E[i]).2.length := List.length_pos_iff.2 hne
      have hv0 := hve i hi _ (List.getElem_mem h0)
      refine loop_inv (fun k env s => ∃ (j : Nat) (R : List Int), k = (E[i]).2.length - j ∧ env = [(3, .own 1 1 0 m), (6, isl (E[i]).1 (E[i]).2), (35, .sl ns (iss E)), (36, .int .i64 E.length), (37, .int .i64 i), (41, isl (E[i]).1 (E[i]).2), (42, .int .i64 (E[i]).2.length), (43, .int .i64 j)] ∧ s = ⟨stP m ns E R, 2⟩ ∧ Lab (E.map (·.2)) m R ∧ Flat ((E.map (·.2)).take i) R ∧ ∀ v ∈ (E[i]).2.take j, lb R v.toNat = lb R ((E[i]).2[0]).toNat) ?_ _ _ _ ⟨0, Q, rfl, by simp, rfl, hQ, hQf, by simp⟩
      rintro _ _ _ ⟨j, R, rfl, rfl, rfl, hR, hRf, hRj⟩
      refine ⟨rfl, ?_⟩
      have hRl := hR.1
      by_cases hj : j < (E[i]).2.length
      · have hvj := hve i hi _ (List.getElem_mem hj)
        (conv => whnf); repeat' (first | (refine need.mk ?_ ?_; (· (first | with_reducible rfl | omega | rfl | decide | trivial | exact ⟨rfl, rfl, by omega, by omega⟩ | exact ⟨by omega, by omega, roomy_of (by omega)⟩ | (refine ⟨rfl, rfl, ?_⟩; first | ((first | rw [lI] | rw [lS] | rw [lB]); omega) | (simp; done) | (simp; omega)) | (refine ⟨rfl, ?_⟩; first | ((first | rw [lI] | rw [lS] | rw [lB]); omega) | (simp; done) | (simp; omega)) | fail)); conv => whnf) | (refine pcase.mk (fun hc => ?_) (fun hc => ?_) <;> (try rw [List.length_nil] at hc) <;> first | (exfalso; omega) | (exact absurd rfl hc) | conv => whnf) | (apply wrapK_intro; (· exact wrap_i64 (by omega) (by omega)); conv => whnf) | (apply nthK_intro; (· (first | ((with_reducible first | refine nIN ?_ | refine nI ?_ | refine nSN ?_ | refine nS ?_ | refine nBN ?_ | refine nB ?_); (first | omega | (simp; omega))) | rfl)); conv => whnf) | (apply getK_intro; (· rfl); conv => whnf) | (apply eqK_intro; (· (first | (with_reducible first | exact lI _ | exact lS _ | exact lB _ | exact uI | exact uS | exact uIS | exact uSS | exact rIN _ _ | exact rI _ _ | exact tIN | exact tI | exact tBN | exact tB | exact uB | exact rBN _ _) | rfl)); conv => whnf) | ((first | apply apI | apply apS); (· first | rfl | (simp; done)); (· (first | omega | (simp; omega))); conv => whnf) | (refine fkI (fun hm => ?_) (fun _ v hm => ?_) <;> conv => whnf) | (apply msI; conv => whnf)  | (refine bcase_intro (fun hc => ?_) (fun hc => ?_) <;> conv => whnf))
        have ha : (E[i]).2[0].toNat < R.length := by omega
        have hb : (E[i]).2[j].toNat < R.length := by omega
        refine loop_inv (fun k env s => ∃ (u : Nat) (S : List Int) (f t : Int), k = m - u ∧ u ≤ m ∧ f = max (lb R (E[i]).2[0].toNat) (lb R (E[i]).2[j].toNat) ∧ t = min (lb R (E[i]).2[0].toNat) (lb R (E[i]).2[j].toNat) ∧ env = [(3, .own 1 1 0 m), (6, isl (E[i]).1 (E[i]).2), (9, .int .i64 f), (10, .int .i64 t), (35, .sl ns (iss E)), (36, .int .i64 E.length), (37, .int .i64 i), (41, isl (E[i]).1 (E[i]).2), (42, .int .i64 (E[i]).2.length), (43, .int .i64 j), (69, .own 1 1 0 m), (70, .int .i64 m), (71, .int .i64 u)] ∧ s = ⟨stP m ns E S, 2⟩ ∧ S.length = m ∧ ∀ x < m, lb S x = if x < u then lb (join2 f t R) x else lb R x) ?_ _ _ _ ⟨0, R, _, _, rfl, by omega, ?_, ?_, rfl, rfl, hRl, by simp⟩
        rotate_left
        · show (if R[(E[i]).2[j].toNat] > R[(E[i]).2[0].toNat] then R[(E[i]).2[j].toNat] else R[(E[i]).2[0].toNat]) = _
          rw [lb_eq ha, lb_eq hb]; split <;> omega
        · show (if R[(E[i]).2[j].toNat] < R[(E[i]).2[0].toNat] then R[(E[i]).2[j].toNat] else R[(E[i]).2[0].toNat]) = _
          rw [lb_eq ha, lb_eq hb]; split <;> omega
        rintro _ _ _ ⟨u, S, f, t, rfl, hu, hf, ht, rfl, rfl, hSl, hS⟩
        refine ⟨rfl, ?_⟩
        (conv => whnf); repeat' (first | (refine need.mk ?_ ?_; (· (first | with_reducible rfl | omega | rfl | decide | trivial | exact ⟨rfl, rfl, by omega, by omega⟩ | exact ⟨by omega, by omega, roomy_of (by omega)⟩ | (refine ⟨rfl, rfl, ?_⟩; first | ((first | rw [lI] | rw [lS] | rw [lB]); omega) | (simp; done) | (simp; omega)) | (refine ⟨rfl, ?_⟩; first | ((first | rw [lI] | rw [lS] | rw [lB]); omega) | (simp; done) | (simp; omega)) | fail)); conv => whnf) | (refine pcase.mk (fun hc => ?_) (fun hc => ?_) <;> (try rw [List.length_nil] at hc) <;> first | (exfalso; omega) | (exact absurd rfl hc) | conv => whnf) | (apply wrapK_intro; (· exact wrap_i64 (by omega) (by omega)); conv => whnf) | (apply nthK_intro; (· (first | ((with_reducible first | refine nIN ?_ | refine nI ?_ | refine nSN ?_ | refine nS ?_ | refine nBN ?_ | refine nB ?_); (first | omega | (simp; omega))) | rfl)); conv => whnf) | (apply getK_intro; (· rfl); conv => whnf) | (apply eqK_intro; (· (first | (with_reducible first | exact lI _ | exact lS _ | exact lB _ | exact uI | exact uS | exact uIS | exact uSS | exact rIN _ _ | exact rI _ _ | exact tIN | exact tI | exact tBN | exact tB | exact uB | exact rBN _ _) | rfl)); conv => whnf) | ((first | apply apI | apply apS); (· first | rfl | (simp; done)); (· (first | omega | (simp; omega))); conv => whnf) | (refine fkI (fun hm => ?_) (fun _ v hm => ?_) <;> conv => whnf) | (apply msI; conv => whnf)  | (refine bcase_intro (fun hc => ?_) (fun hc => ?_) <;> conv => whnf))
        · rename_i hum
          have h1 := hS u (by omega)
          rw [if_neg (by omega)] at h1
          have h2 : lb S u = f := by rw [lb_eq (by omega)]; exact hc
          refine again.mk ⟨_, by omega, u + 1, _, _, _, rfl, by omega, hf, ht, rfl, rfl, by rw [List.length_set, hSl], fun x hx => ?_⟩
          rw [lb_set (by omega)]
          by_cases hxu : x = u
          · subst hxu
            rw [if_pos rfl, if_pos (by omega), lb_join2 (by omega), if_pos (by rw [← h1, h2])]
          · rw [if_neg hxu, hS x hx]
            by_cases hxl : x < u
            · rw [if_pos hxl, if_pos (by omega)]
            · rw [if_neg hxl, if_neg (by omega)]
        · rename_i hum
          have h1 := hS u (by omega)
          rw [if_neg (by omega)] at h1
          have h2 : ¬ lb S u = f := by rw [lb_eq (by omega)]; exact hc
          refine again.mk ⟨_, by omega, u + 1, _, _, _, rfl, by omega, hf, ht, rfl, rfl, hSl, fun x hx => ?_⟩
          rw [hS x hx]
          by_cases hxu : x = u
          · subst hxu
            rw [if_neg (by omega), if_pos (by omega), lb_join2 (by omega), if_neg (by rw [← h1]; exact h2)]
          · by_cases hxl : x < u
            · rw [if_pos hxl, if_pos (by omega)]
            · rw [if_neg hxl, if_neg (by omega)]
        · obtain rfl : u = m := by omega
          have hSe : S = join2 f t R := by
            apply List.ext_getElem (by simp [hSl, hRl])
            intro x h1 h2
            have := hS x (by omega)
            rw [if_pos (by omega), lb_eq h1, lb_eq h2] at this
            exact this
          subst hSe
          have he : Edge (E.map (·.2)) (E[i]).2[0].toNat (E[i]).2[j].toNat := ⟨_, List.mem_map_of_mem (List.getElem_mem hi), by rw [Int.toNat_of_nonneg (by omega)]; exact List.getElem_mem h0, by rw [Int.toNat_of_nonneg (by omega)]; exact List.getElem_mem hj⟩
          have hkeep : ∀ a b : Nat, a < u → b < u → lb R a = lb R b → lb (join2 f t R) a = lb (join2 f t R) b := fun a b h1 h2 h => join2_same h (by omega) (by omega)
          have hnew : lb (join2 f t R) (E[i]).2[0].toNat = lb (join2 f t R) (E[i]).2[j].toNat := by
            subst hf; subst ht; exact join2_new ha hb
          refine again.mk ⟨_, by omega, j + 1, join2 f t R, rfl, rfl, rfl, ?_, ?_, ?_⟩
          · subst hf; subst ht
            exact lab_join2 hR (by omega) (by omega) he
          · intro a b h
            have hlt := hv.lt (edge_take h)
            exact hkeep a b (by omega) (by omega) (hRf a b h)
          · refine all_take_succ hj (fun v hv' => ?_) hnew.symm
            have := hve i hi v (List.mem_of_mem_take hv')
            exact hkeep _ _ (by omega) (by omega) (hRj v hv')
      · (conv => whnf); repeat' (first | (refine need.mk ?_ ?_; (· (first | with_reducible rfl | omega | rfl | decide | trivial | exact ⟨rfl, rfl, by omega, by omega⟩ | exact ⟨by omega, by omega, roomy_of (by omega)⟩ | (refine ⟨rfl, rfl, ?_⟩; first | ((first | rw [lI] | rw [lS] | rw [lB]); omega) | (simp; done) | (simp; omega)) | (refine ⟨rfl, ?_⟩; first | ((first | rw [lI] | rw [lS] | rw [lB]); omega) | (simp; done) | (simp; omega)) | fail)); conv => whnf) | (refine pcase.mk (fun hc => ?_) (fun hc => ?_) <;> (try rw [List.length_nil] at hc) <;> first | (exfalso; omega) | (exact absurd rfl hc) | conv => whnf) | (apply wrapK_intro; (· exact wrap_i64 (by omega) (by omega)); conv => whnf) | (apply nthK_intro; (· (first | ((with_reducible first | refine nIN ?_ | refine nI ?_ | refine nSN ?_ | refine nS ?_ | refine nBN ?_ | refine nB ?_); (first | omega | (simp; omega))) | rfl)); conv => whnf) | (apply getK_intro; (· rfl); conv => whnf) | (apply eqK_intro; (· (first | (with_reducible first | exact lI _ | exact lS _ | exact lB _ | exact uI | exact uS | exact uIS | exact uSS | exact rIN _ _ | exact rI _ _ | exact tIN | exact tI | exact tBN | exact tB | exact uB | exact rBN _ _) | rfl)); conv => whnf) | ((first | apply apI | apply apS); (· first | rfl | (simp; done)); (· (first | omega | (simp; omega))); conv => whnf) | (refine fkI (fun hm => ?_) (fun _ v hm => ?_) <;> conv => whnf) | (apply msI; conv => whnf)  | (refine bcase_intro (fun hc => ?_) (fun hc => ?_) <;> conv => whnf))
        rw [List.take_of_length_le (by omega)] at hRj
        refine again.mk ⟨_, by omega, i + 1, R, rfl, rfl, rfl, hR, fun a b h => ?_⟩
        rw [take_snds hi] at h
        rcases edge_snoc.1 h with h | ⟨h1, h2⟩
        · exact hRf a b h
        · have g1 := hRj _ h1
          have g2 := hRj _ h2
          rw [Int.toNat_natCast] at g1 g2
          exact g1.trans g2.symm
    · have hf : Flat (E.map (·.2)) Q := by rwa [List.take_of_length_le (by simp; omega)] at hQf
      have hQl := hQ.1
      refine loop_inv (fun k env s => ∃ (v g c ol : Nat) (nn : Bool) (out : List (Bool × List Int)), k = m - v ∧ v ≤ m ∧ ol = out.length ∧ ol ≤ v ∧ env = [(3, .own 1 1 0 m), (13, .own 2 g 0 ol), (87, .int .i64 m), (88, .int .i64 v)] ∧ s = ⟨stP m ns E Q ++ [.arr g 1 nn true (iss out)], c⟩ ∧ out.map (·.2) = classes Q m v) ?_ _ _ _ ⟨0, _, _, _, _, [], rfl, by omega, rfl, by simp, rfl, rfl, rfl⟩
      rintro _ _ _ ⟨v, g, c, ol, nn, out, rfl, hvr, rfl, hol, rfl, rfl, hout⟩
      refine ⟨rfl, ?_⟩
      (conv => whnf); repeat' (first | (refine need.mk ?_ ?_; (· (first | with_reducible rfl | omega | rfl | decide | trivial | exact ⟨rfl, rfl, by omega, by omega⟩ | exact ⟨by omega, by omega, roomy_of (by omega)⟩ | (refine ⟨rfl, rfl, ?_⟩; first | ((first | rw [lI] | rw [lS] | rw [lB]); omega) | (simp; done) | (simp; omega)) | (refine ⟨rfl, ?_⟩; first | ((first | rw [lI] | rw [lS] | rw [lB]); omega) | (simp; done) | (simp; omega)) | fail)); conv => whnf) | (refine pcase.mk (fun hc => ?_) (fun hc => ?_) <;> (try rw [List.length_nil] at hc) <;> first | (exfalso; omega) | (exact absurd rfl hc) | conv => whnf) | (apply wrapK_intro; (· exact wrap_i64 (by omega) (by omega)); conv => whnf) | (apply nthK_intro; (· (first | ((with_reducible first | refine nIN ?_ | refine nI ?_ | refine nSN ?_ | refine nS ?_ | refine nBN ?_ | refine nB ?_); (first | omega | (simp; omega))) | rfl)); conv => whnf) | (apply getK_intro; (· rfl); conv => whnf) | (apply eqK_intro; (· (first | (with_reducible first | exact lI _ | exact lS _ | exact lB _ | exact uI | exact uS | exact uIS | exact uSS | exact rIN _ _ | exact rI _ _ | exact tIN | exact tI | exact tBN | exact tB | exact uB | exact rBN _ _) | rfl)); conv => whnf) | ((first | apply apI | apply apS); (· first | rfl | (simp; done)); (· (first | omega | (simp; omega))); conv => whnf) | (refine fkI (fun hm => ?_) (fun _ v hm => ?_) <;> conv => whnf) | (apply msI; conv => whnf)  | (refine bcase_intro (fun hc => ?_) (fun hc => ?_) <;> conv => whnf))
      · refine loop_inv (fun k env s => ∃ (w g' c' ll : Nat) (nn' : Bool) (l : List Int), k = m - w ∧ w ≤ m ∧ ll = l.length ∧ ll ≤ w ∧ env = [(3, .own 1 1 0 m), (13, .own 2 g 0 out.length), (14, .int .i64 v), (15, .own 3 g' 0 ll), (87, .int .i64 m), (88, .int .i64 v), (97, .own 1 1 0 m), (98, .int .i64 m), (99, .int .i64 w)] ∧ s = ⟨stP m ns E Q ++ [.arr g 1 nn true (iss out), .arr g' 1 nn' true (ints l)], c'⟩ ∧ l = cls Q w v) ?_ _ _ _ ⟨0, _, _, _, _, [], rfl, by omega, rfl, by simp, rfl, rfl, rfl⟩
        rintro _ _ _ ⟨w, g', c', ll, nn', l, rfl, hwr, rfl, hll, rfl, rfl, hl⟩
        refine ⟨rfl, ?_⟩
        rename_i hvv
        (conv => whnf); repeat' (first | (refine need.mk ?_ ?_; (· (first | with_reducible rfl | omega | rfl | decide | trivial | exact ⟨rfl, rfl, by omega, by omega⟩ | exact ⟨by omega, by omega, roomy_of (by omega)⟩ | (refine ⟨rfl, rfl, ?_⟩; first | ((first | rw [lI] | rw [lS] | rw [lB]); omega) | (simp; done) | (simp; omega)) | (refine ⟨rfl, ?_⟩; first | ((first | rw [lI] | rw [lS] | rw [lB]); omega) | (simp; done) | (simp; omega)) | fail)); conv => whnf) | (refine pcase.mk (fun hc => ?_) (fun hc => ?_) <;> (try rw [List.length_nil] at hc) <;> first | (exfalso; omega) | (exact absurd rfl hc) | conv => whnf) | (apply wrapK_intro; (· exact wrap_i64 (by omega) (by omega)); conv => whnf) | (apply nthK_intro; (· (first | ((with_reducible first | refine nIN ?_ | refine nI ?_ | refine nSN ?_ | refine nS ?_ | refine nBN ?_ | refine nB ?_); (first | omega | (simp; omega))) | rfl)); conv => whnf) | (apply getK_intro; (· rfl); conv => whnf) | (apply eqK_intro; (· (first | (with_reducible first | exact lI _ | exact lS _ | exact lB _ | exact uI | exact uS | exact uIS | exact uSS | exact rIN _ _ | exact rI _ _ | exact tIN | exact tI | exact tBN | exact tB | exact uB | exact rBN _ _) | rfl)); conv => whnf) | ((first | apply apI | apply apS); (· first | rfl | (simp; done)); (· (first | omega | (simp; omega))); conv => whnf) | (refine fkI (fun hm => ?_) (fun _ v hm => ?_) <;> conv => whnf) | (apply msI; conv => whnf)  | (refine bcase_intro (fun hc => ?_) (fun hc => ?_) <;> conv => whnf))
        · exact again.mk ⟨_, by omega, w + 1, _, _, _, _, _, rfl, by omega, by simp, by omega, rfl, rfl, by rw [cls_succ, lb_eq (by omega), if_pos hc, hl]⟩
        · exact again.mk ⟨_, by omega, w + 1, _, _, _, _, _, rfl, by omega, rfl, by omega, rfl, rfl, by rw [cls_succ, lb_eq (by omega), if_neg hc, List.append_nil, hl]⟩
        · obtain rfl : w = m := by omega
          have h1 : lb Q v = v := by rw [lb_eq (by omega)]; assumption
          exact again.mk ⟨_, by omega, v + 1, _, _, _, _, _, rfl, by omega, by simp, by omega, rfl, rfl, by rw [classes_succ, if_pos h1, List.map_append, hout, ← hl]; rfl⟩
      · have h1 : ¬ lb Q v = v := by rw [lb_eq (by omega)]; exact hc
        exact again.mk ⟨_, by omega, v + 1, _, _, _, _, _, rfl, by omega, rfl, by omega, rfl, rfl, by rw [classes_succ, if_neg h1, List.append_nil, hout]⟩
      · obtain rfl : v = m := by omega
        refine ⟨fun _ => ⟨Q, nn, out, rfl, hQ, hf, hout⟩, fun h => absurd hv h⟩
  · (conv => whnf); repeat' (first | (refine need.mk ?_ ?_; (· (first | with_reducible rfl | omega | rfl | decide | trivial | exact ⟨rfl, rfl, by omega, by omega⟩ | exact ⟨by omega, by omega, roomy_of (by omega)⟩ | (refine ⟨rfl, rfl, ?_⟩; first | ((first | rw [lI] | rw [lS] | rw [lB]); omega) | (simp; done) | (simp; omega)) | (refine ⟨rfl, ?_⟩; first | ((first | rw [lI] | rw [lS] | rw [lB]); omega) | (simp; done) | (simp; omega)) | fail)); conv => whnf) | (refine pcase.mk (fun hc => ?_) (fun hc => ?_) <;> (try rw [List.length_nil] at hc) <;> first | (exfalso; omega) | (exact absurd rfl hc) | conv => whnf) | (apply wrapK_intro; (· exact wrap_i64 (by omega) (by omega)); conv => whnf) | (apply nthK_intro; (· (first | ((with_reducible first | refine nIN ?_ | refine nI ?_ | refine nSN ?_ | refine nS ?_ | refine nBN ?_ | refine nB ?_); (first | omega | (simp; omega))) | rfl)); conv => whnf) | (apply getK_intro; (· rfl); conv => whnf) | (apply eqK_intro; (· (first | (with_reducible first | exact lI _ | exact lS _ | exact lB _ | exact uI | exact uS | exact uIS | exact uSS | exact rIN _ _ | exact rI _ _ | exact tIN | exact tI | exact tBN | exact tB | exact uB | exact rBN _ _) | rfl)); conv => whnf) | ((first | apply apI | apply apS); (· first | rfl | (simp; done)); (· (first | omega | (simp; omega))); conv => whnf) | (refine fkI (fun hm => ?_) (fun _ v hm => ?_) <;> conv => whnf) | (apply msI; conv => whnf)  | (refine bcase_intro (fun hc => ?_) (fun hc => ?_) <;> conv => whnf))
    exact ⟨fun h => absurd h hv, fun _ => rfl⟩

end AI
end Go.Proofs.Ytocgbgffpdphdaa
