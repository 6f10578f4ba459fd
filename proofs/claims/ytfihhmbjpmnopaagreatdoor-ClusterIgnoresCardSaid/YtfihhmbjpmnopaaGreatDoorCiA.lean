import Derived.Test.YtfihhmbjpmnopaaGreatDoorFxB
import Derived.Test.YtfihhmbjpmnopaaGreatDoorCd
set_option linter.unusedVariables false
set_option linter.unusedSimpArgs false
/-! A cluster as it was made: what reads it, and steps that don't apply. -/
namespace Go.Fw
open Go.Proofs
variable {m m0 M : Mem} {S : List Nat} {L : List As}
/-- a step -/
structure Sp where
  kind : Int
  n : Int
  count : Int
  client : Int
  ck : Int
  cc : Int
  cq : Int
  key : ByteArray
  fin : ByteArray
  old : ByteArray
  val : ByteArray
  pa : Option Addr
  pn : Nat
  pc : Nat
abbrev Sp.cs (s : Sp) : List Value := [.int .i64 s.kind, .int .i64 s.n, .int .i64 s.count, .int .i64 s.client, .int .i64 s.ck, .int .i64 s.cc, .int .i64 s.cq, .string s.key, .string s.fin, .string s.old, .string s.val, .slice s.pa s.pn s.pc]
abbrev Sp.v (s : Sp) : Value := .agg #[.int .i64 s.kind, .int .i64 s.n, .int .i64 s.count, .int .i64 s.client, .int .i64 s.ck, .int .i64 s.cc, .int .i64 s.cq, .string s.key, .string s.fin, .string s.old, .string s.val, .slice s.pa s.pn s.pc]
/-- what is read of a cluster -/
structure Clu (k C N cap : Nat) (nf : Nat → Addr) (m : Mem) : Prop where
  c0 : cellAt (m C) 0 = some (.int .i64 k)
  c2 : cellAt (m C) 2 = some (.slice (some ⟨N, 0, none⟩) k cap)
  c5 : cellAt (m C) 5 = some (.slice none 0 0)
  cn : ∀ i, i < k → cellAt (m N) i = some (.pointer (some (nf i)))
theorem Clu.frame {k C N cap : Nat} {nf : Nat → Addr} (h : Clu k C N cap nf m) (f : Fr m M []) : Clu k C N cap nf M :=
  ⟨f.cellAt h.c0 (by simp), f.cellAt h.c2 (by simp), f.cellAt h.c5 (by simp), fun i hi => f.cellAt (h.cn i hi) (by simp)⟩
theorem known_s (id : Int) (m : Mem) : MC Tryz.prog n_cluster_known [.int .i64 id] m fun v m' => v = .bool (decide (1 ≤ id ∧ id ≤ 8)) ∧ Fr m m' [] := by
  refine cluster_known_go (by simp [Tryz.f43]) ?_
  have H := Hq.refl m []
  simp (disch := omega) only [go_sem, undef]
  repeat' (first
    | ((first
      | (with_reducible first
        | refine newQ H fun _ _ f H2 => ?_
        | refine wrQ0 H fun _ f H2 => ?_
        | refine wrQ1 H fun _ f H2 => ?_
        | refine wrQ2 H fun _ f H2 => ?_
        | refine wrQ3 H fun _ f H2 => ?_
        | refine wrQ4 H fun _ f H2 => ?_
        | refine wrQ5 H fun _ f H2 => ?_)
      | ((with_reducible refine stwQ0 H ?hl ?h1 fun _ f H2 => ?_); (case hl => rfl); (case h1 => rfl))
      | ((with_reducible refine stwQ1 H ?hl ?h1 fun _ f H2 => ?_); (case hl => rfl); (case h1 => rfl))
      | ((with_reducible refine stwQ2 H ?hl ?h1 fun _ f H2 => ?_); (case hl => rfl); (case h1 => rfl))
      | ((with_reducible refine stwQ3 H ?hl ?h1 fun _ f H2 => ?_); (case hl => rfl); (case h1 => rfl))
      | ((with_reducible refine stwQ4 H ?hl ?h1 fun _ f H2 => ?_); (case hl => rfl); (case h1 => rfl))
      | ((with_reducible refine stwQ5 H ?hl ?h1 fun _ f H2 => ?_); (case hl => rfl); (case h1 => rfl))
      | ((with_reducible refine stQ0 H ?hl ?h1 fun _ f H2 => ?_); (case hl => exact Nat.le_of_ble_eq_true rfl); (case h1 => rfl); (simp only [go_sem] at H2))
      | ((with_reducible refine stQ1 H ?hl ?h1 fun _ f H2 => ?_); (case hl => exact Nat.le_of_ble_eq_true rfl); (case h1 => rfl); (simp only [go_sem] at H2))
      | ((with_reducible refine stQ2 H ?hl ?h1 fun _ f H2 => ?_); (case hl => exact Nat.le_of_ble_eq_true rfl); (case h1 => rfl); (simp only [go_sem] at H2))
      | ((with_reducible refine stQ3 H ?hl ?h1 fun _ f H2 => ?_); (case hl => exact Nat.le_of_ble_eq_true rfl); (case h1 => rfl); (simp only [go_sem] at H2))); clear f; clear H; have H := H2; clear H2; simp (disch := omega) only [go_sem, undef, H.cs, *])
    | ((with_reducible refine gQ_split (fun hq => ?_) (fun hq => ?_)) <;> (try simp only [Bool.not_true, Bool.not_false] at hq) <;> simp (disch := omega) only [go_sem, undef, H.cs, *])
    | ((with_reducible refine condB_split (fun hq => ?_) (fun hq => ?_)) <;> simp (disch := omega) only [go_sem, undef, H.cs, *]))
  all_goals (try simp only [decide_eq_true_eq, decide_eq_false_iff_not] at *)
  all_goals exact ⟨by first | rfl | (simp only [Value.bool.injEq, decide_eq_true_eq, eq_comm (a := true), eq_comm (a := false), decide_eq_false_iff_not, decide_eq_decide]; grind []), H.fr⟩
theorem light_s (s : Sp) (m : Mem) : MC Tryz.prog n_keep_Light [s.v] m fun v m' => (∃ b, v = .bool b) ∧ Fr m m' [] := by
  refine keep_Light_go (by simp [Tryz.f6]) ?_
  have H := Hq.refl m []
  simp (disch := omega) only [go_sem, undef]
  repeat' (first
    | ((first
      | (with_reducible first
        | refine newQ H fun _ _ f H2 => ?_
        | refine wrQ0 H fun _ f H2 => ?_
        | refine wrQ1 H fun _ f H2 => ?_
        | refine wrQ2 H fun _ f H2 => ?_
        | refine wrQ3 H fun _ f H2 => ?_
        | refine wrQ4 H fun _ f H2 => ?_
        | refine wrQ5 H fun _ f H2 => ?_)
      | ((with_reducible refine stwQ0 H ?hl ?h1 fun _ f H2 => ?_); (case hl => rfl); (case h1 => rfl))
      | ((with_reducible refine stwQ1 H ?hl ?h1 fun _ f H2 => ?_); (case hl => rfl); (case h1 => rfl))
      | ((with_reducible refine stwQ2 H ?hl ?h1 fun _ f H2 => ?_); (case hl => rfl); (case h1 => rfl))
      | ((with_reducible refine stwQ3 H ?hl ?h1 fun _ f H2 => ?_); (case hl => rfl); (case h1 => rfl))
      | ((with_reducible refine stwQ4 H ?hl ?h1 fun _ f H2 => ?_); (case hl => rfl); (case h1 => rfl))
      | ((with_reducible refine stwQ5 H ?hl ?h1 fun _ f H2 => ?_); (case hl => rfl); (case h1 => rfl))
      | ((with_reducible refine stQ0 H ?hl ?h1 fun _ f H2 => ?_); (case hl => exact Nat.le_of_ble_eq_true rfl); (case h1 => rfl); (simp only [go_sem] at H2))
      | ((with_reducible refine stQ1 H ?hl ?h1 fun _ f H2 => ?_); (case hl => exact Nat.le_of_ble_eq_true rfl); (case h1 => rfl); (simp only [go_sem] at H2))
      | ((with_reducible refine stQ2 H ?hl ?h1 fun _ f H2 => ?_); (case hl => exact Nat.le_of_ble_eq_true rfl); (case h1 => rfl); (simp only [go_sem] at H2))
      | ((with_reducible refine stQ3 H ?hl ?h1 fun _ f H2 => ?_); (case hl => exact Nat.le_of_ble_eq_true rfl); (case h1 => rfl); (simp only [go_sem] at H2))); clear f; clear H; have H := H2; clear H2; simp (disch := omega) only [go_sem, undef, H.cs, *])
    | ((with_reducible refine gQ_split (fun hq => ?_) (fun hq => ?_)) <;> (try simp only [Bool.not_true, Bool.not_false] at hq) <;> simp (disch := omega) only [go_sem, undef, H.cs, *])
    | ((with_reducible refine condB_split (fun hq => ?_) (fun hq => ?_)) <;> simp (disch := omega) only [go_sem, undef, H.cs, *]))
  exact ⟨⟨_, rfl⟩, H.fr⟩
theorem nodes_s {k C N cap : Nat} {nf : Nat → Addr} (h : Clu k C N cap nf m) : MC Tryz.prog n_cluster_Cluster_Nodes [.pointer (some ⟨C, 0, none⟩)] m fun v m' => v = .int .i64 k ∧ Fr m m' [] := by
  refine cluster_Cluster_Nodes_go (by simp [Tryz.f7]) ?_
  simp (disch := omega) only [go_sem, undef, h.c0]
  exact ⟨rfl, Fr.refl _ _⟩
theorem node_no {k C N cap : Nat} {nf : Nat → Addr} (h : Clu k C N cap nf m) (i : Int) (hi : i < 0 ∨ (k : Int) ≤ i) : MC Tryz.prog n_cluster_Cluster_Node [.pointer (some ⟨C, 0, none⟩), .int .i64 i] m fun v m' => v = .pointer none ∧ Fr m m' [] := by
  refine cluster_Cluster_Node_go (by simp [Tryz.f9]) ?_
  rcases hi with hi | hi
  · simp (disch := omega) only [go_sem, undef, dec_t hi]
    exact ⟨rfl, Fr.refl _ _⟩
  · by_cases h0 : i < 0
    · simp (disch := omega) only [go_sem, undef, dec_t h0]
      exact ⟨rfl, Fr.refl _ _⟩
    · simp (disch := omega) only [go_sem, undef, dec_f h0, h.c0, dec_t hi]
      exact ⟨rfl, Fr.refl _ _⟩
theorem node_yes {k C N cap : Nat} {nf : Nat → Addr} (h : Clu k C N cap nf m) (i : Int) (h0 : 0 ≤ i) (hi : i < k) : MC Tryz.prog n_cluster_Cluster_Node [.pointer (some ⟨C, 0, none⟩), .int .i64 i] m fun v m' => v = .pointer (some (nf i.toNat)) ∧ Fr m m' [] := by
  refine cluster_Cluster_Node_go (by simp [Tryz.f9]) ?_
  have hn : ¬ i < 0 := by omega
  have hk : ¬ (k : Int) ≤ i := by omega
  have hr := h.cn i.toNat (by omega)
  simp (disch := omega) only [go_sem, undef, dec_f hn, h.c0, dec_f hk, h.c2, hr]
  exact ⟨rfl, Fr.refl _ _⟩
theorem call_no (C : Nat) (s : Sp) (hs : s.client ≤ 0) (m : Mem) : MC Tryz.prog n_cluster_Cluster_call [.pointer (some ⟨C, 0, none⟩), s.v] m fun v m' => v = .bool false ∧ Fr m m' [] := by
  refine cluster_Cluster_call_go (by simp [Tryz.f19]) ?_
  have hk : decide (1 ≤ s.client ∧ s.client ≤ 8) = false := decide_eq_false (by omega)
  have H := Hq.refl m []
  simp (disch := omega) only [go_sem, undef]
  repeat' (first
    | ((first
      | (with_reducible first
        | refine newQ H fun _ _ f H2 => ?_
        | refine wrQ0 H fun _ f H2 => ?_
        | refine wrQ1 H fun _ f H2 => ?_
        | refine wrQ2 H fun _ f H2 => ?_
        | refine wrQ3 H fun _ f H2 => ?_
        | refine wrQ4 H fun _ f H2 => ?_
        | refine wrQ5 H fun _ f H2 => ?_
        | refine callQ H (known_s s.client _) fun _ f H2 => ?_)
      | ((with_reducible refine stwQ0 H ?hl ?h1 fun _ f H2 => ?_); (case hl => rfl); (case h1 => rfl))
      | ((with_reducible refine stwQ1 H ?hl ?h1 fun _ f H2 => ?_); (case hl => rfl); (case h1 => rfl))
      | ((with_reducible refine stwQ2 H ?hl ?h1 fun _ f H2 => ?_); (case hl => rfl); (case h1 => rfl))
      | ((with_reducible refine stwQ3 H ?hl ?h1 fun _ f H2 => ?_); (case hl => rfl); (case h1 => rfl))
      | ((with_reducible refine stwQ4 H ?hl ?h1 fun _ f H2 => ?_); (case hl => rfl); (case h1 => rfl))
      | ((with_reducible refine stwQ5 H ?hl ?h1 fun _ f H2 => ?_); (case hl => rfl); (case h1 => rfl))
      | ((with_reducible refine stQ0 H ?hl ?h1 fun _ f H2 => ?_); (case hl => exact Nat.le_of_ble_eq_true rfl); (case h1 => rfl); (simp only [go_sem] at H2))
      | ((with_reducible refine stQ1 H ?hl ?h1 fun _ f H2 => ?_); (case hl => exact Nat.le_of_ble_eq_true rfl); (case h1 => rfl); (simp only [go_sem] at H2))
      | ((with_reducible refine stQ2 H ?hl ?h1 fun _ f H2 => ?_); (case hl => exact Nat.le_of_ble_eq_true rfl); (case h1 => rfl); (simp only [go_sem] at H2))
      | ((with_reducible refine stQ3 H ?hl ?h1 fun _ f H2 => ?_); (case hl => exact Nat.le_of_ble_eq_true rfl); (case h1 => rfl); (simp only [go_sem] at H2))); clear f; clear H; have H := H2; clear H2; simp (disch := omega) only [go_sem, undef, H.cs, *, hk])
    | ((with_reducible refine gQ_split (fun hq => ?_) (fun hq => ?_)) <;> (try simp only [Bool.not_true, Bool.not_false] at hq) <;> simp (disch := omega) only [go_sem, undef, H.cs, *, hk])
    | ((with_reducible refine condB_split (fun hq => ?_) (fun hq => ?_)) <;> simp (disch := omega) only [go_sem, undef, H.cs, *, hk]))
  exact ⟨rfl, H.fr⟩
theorem letter_no {k C N cap : Nat} {nf : Nat → Addr} (h : Clu k C N cap nf m) (s : Sp) (hs : 0 ≤ s.n) : MC Tryz.prog n_cluster_Cluster_letter [.pointer (some ⟨C, 0, none⟩), s.v] m fun v m' => v = .bool false ∧ Fr m m' [] := by
  refine cluster_Cluster_letter_go (by simp [Tryz.f20]) ?_
  have hn : ¬ s.n < 0 := by omega
  have h5 := h.c5
  have H := Hq.refl m []
  simp (disch := omega) only [go_sem, undef]
  repeat' (first
    | ((first
      | (with_reducible first
        | refine newQ H fun _ _ f H2 => ?_
        | refine wrQ0 H fun _ f H2 => ?_
        | refine wrQ1 H fun _ f H2 => ?_
        | refine wrQ2 H fun _ f H2 => ?_
        | refine wrQ3 H fun _ f H2 => ?_
        | refine wrQ4 H fun _ f H2 => ?_
        | refine wrQ5 H fun _ f H2 => ?_)
      | ((with_reducible refine stwQ0 H ?hl ?h1 fun _ f H2 => ?_); (case hl => rfl); (case h1 => rfl))
      | ((with_reducible refine stwQ1 H ?hl ?h1 fun _ f H2 => ?_); (case hl => rfl); (case h1 => rfl))
      | ((with_reducible refine stwQ2 H ?hl ?h1 fun _ f H2 => ?_); (case hl => rfl); (case h1 => rfl))
      | ((with_reducible refine stwQ3 H ?hl ?h1 fun _ f H2 => ?_); (case hl => rfl); (case h1 => rfl))
      | ((with_reducible refine stwQ4 H ?hl ?h1 fun _ f H2 => ?_); (case hl => rfl); (case h1 => rfl))
      | ((with_reducible refine stwQ5 H ?hl ?h1 fun _ f H2 => ?_); (case hl => rfl); (case h1 => rfl))
      | ((with_reducible refine stQ0 H ?hl ?h1 fun _ f H2 => ?_); (case hl => exact Nat.le_of_ble_eq_true rfl); (case h1 => rfl); (simp only [go_sem] at H2))
      | ((with_reducible refine stQ1 H ?hl ?h1 fun _ f H2 => ?_); (case hl => exact Nat.le_of_ble_eq_true rfl); (case h1 => rfl); (simp only [go_sem] at H2))
      | ((with_reducible refine stQ2 H ?hl ?h1 fun _ f H2 => ?_); (case hl => exact Nat.le_of_ble_eq_true rfl); (case h1 => rfl); (simp only [go_sem] at H2))
      | ((with_reducible refine stQ3 H ?hl ?h1 fun _ f H2 => ?_); (case hl => exact Nat.le_of_ble_eq_true rfl); (case h1 => rfl); (simp only [go_sem] at H2))); clear f; clear H; have H := H2; clear H2; simp (disch := omega) only [go_sem, undef, H.cs, *, dec_f hn, dec_t hs, H.fr.cellAt h5 (by simp)])
    | ((with_reducible refine gQ_split (fun hq => ?_) (fun hq => ?_)) <;> (try simp only [Bool.not_true, Bool.not_false] at hq) <;> simp (disch := omega) only [go_sem, undef, H.cs, *, dec_f hn, dec_t hs, H.fr.cellAt h5 (by simp)])
    | ((with_reducible refine condB_split (fun hq => ?_) (fun hq => ?_)) <;> simp (disch := omega) only [go_sem, undef, H.cs, *, dec_f hn, dec_t hs, H.fr.cellAt h5 (by simp)]))
  exact ⟨rfl, H.fr⟩
theorem time_no (C : Nat) (id : Int) (hs : id ≤ 0) (m : Mem) : MC Tryz.prog n_cluster_Cluster_time [.pointer (some ⟨C, 0, none⟩), .int .i64 id] m fun v m' => v = .bool false ∧ Fr m m' [] := by
  refine cluster_Cluster_time_go (by simp [Tryz.f21]) ?_
  have hk : decide (1 ≤ id ∧ id ≤ 8) = false := decide_eq_false (by omega)
  have H := Hq.refl m []
  simp (disch := omega) only [go_sem, undef]
  repeat' (first
    | ((first
      | (with_reducible first
        | refine newQ H fun _ _ f H2 => ?_
        | refine wrQ0 H fun _ f H2 => ?_
        | refine wrQ1 H fun _ f H2 => ?_
        | refine wrQ2 H fun _ f H2 => ?_
        | refine wrQ3 H fun _ f H2 => ?_
        | refine wrQ4 H fun _ f H2 => ?_
        | refine wrQ5 H fun _ f H2 => ?_
        | refine callQ H (known_s id _) fun _ f H2 => ?_)
      | ((with_reducible refine stwQ0 H ?hl ?h1 fun _ f H2 => ?_); (case hl => rfl); (case h1 => rfl))
      | ((with_reducible refine stwQ1 H ?hl ?h1 fun _ f H2 => ?_); (case hl => rfl); (case h1 => rfl))
      | ((with_reducible refine stwQ2 H ?hl ?h1 fun _ f H2 => ?_); (case hl => rfl); (case h1 => rfl))
      | ((with_reducible refine stwQ3 H ?hl ?h1 fun _ f H2 => ?_); (case hl => rfl); (case h1 => rfl))
      | ((with_reducible refine stwQ4 H ?hl ?h1 fun _ f H2 => ?_); (case hl => rfl); (case h1 => rfl))
      | ((with_reducible refine stwQ5 H ?hl ?h1 fun _ f H2 => ?_); (case hl => rfl); (case h1 => rfl))
      | ((with_reducible refine stQ0 H ?hl ?h1 fun _ f H2 => ?_); (case hl => exact Nat.le_of_ble_eq_true rfl); (case h1 => rfl); (simp only [go_sem] at H2))
      | ((with_reducible refine stQ1 H ?hl ?h1 fun _ f H2 => ?_); (case hl => exact Nat.le_of_ble_eq_true rfl); (case h1 => rfl); (simp only [go_sem] at H2))
      | ((with_reducible refine stQ2 H ?hl ?h1 fun _ f H2 => ?_); (case hl => exact Nat.le_of_ble_eq_true rfl); (case h1 => rfl); (simp only [go_sem] at H2))
      | ((with_reducible refine stQ3 H ?hl ?h1 fun _ f H2 => ?_); (case hl => exact Nat.le_of_ble_eq_true rfl); (case h1 => rfl); (simp only [go_sem] at H2))); clear f; clear H; have H := H2; clear H2; simp (disch := omega) only [go_sem, undef, H.cs, *, hk])
    | ((with_reducible refine gQ_split (fun hq => ?_) (fun hq => ?_)) <;> (try simp only [Bool.not_true, Bool.not_false] at hq) <;> simp (disch := omega) only [go_sem, undef, H.cs, *, hk])
    | ((with_reducible refine condB_split (fun hq => ?_) (fun hq => ?_)) <;> simp (disch := omega) only [go_sem, undef, H.cs, *, hk]))
  exact ⟨rfl, H.fr⟩
theorem start_no {k C N cap : Nat} {nf : Nat → Addr} (h : Clu k C N cap nf m) (i : Int) (h0 : 0 ≤ i) (hi : i < k) : MC Tryz.prog n_cluster_Cluster_start [.pointer (some ⟨C, 0, none⟩), .int .i64 i] m fun v m' => v = .bool false ∧ Fr m m' [] := by
  refine cluster_Cluster_start_go (by simp [Tryz.f22]) ?_
  have hn : ¬ i < 0 := by omega
  have hk : ¬ (k : Int) ≤ i := by omega
  have hr := h.cn i.toNat (by omega)
  simp (disch := omega) only [go_sem, undef, dec_f hn, h.c0, dec_f hk, h.c2, hr, Option.isSome_some]
  exact ⟨rfl, Fr.refl _ _⟩
/-- it does not apply -/
def Ign (k : Nat) (s : Sp) : Prop := (s.kind = 1 → s.client ≤ 0) ∧ (s.kind = 2 ∨ s.kind = 3 ∨ s.kind = 4 → 0 ≤ s.n) ∧ (s.kind = 5 ∨ s.kind = 7 ∨ s.kind = 8 → (k : Int) ≤ s.n) ∧ (s.kind = 6 → s.n ≤ 0) ∧ (s.kind = 9 → 0 ≤ s.n ∧ s.n < k)
theorem do_no {k C N cap : Nat} {nf : Nat → Addr} (h : Clu k C N cap nf m) (s : Sp) (hs : Ign k s) : MC Tryz.prog n_cluster_Cluster_Do [.pointer (some ⟨C, 0, none⟩), s.v] m fun v m' => v = .bool false ∧ Fr m m' [] := by
  obtain ⟨g1, g2, g3, g4, g5⟩ := hs
  refine cluster_Cluster_Do_go (by simp [Tryz.f8]) ?_
  have H := Hq.refl m []
  by_cases e1 : s.kind = 1
  · have q1 := g1 e1
    have d := dec_t e1
    clear e1 g1 g2 g3 g4 g5
    simp (disch := omega) only [go_sem, undef, d]
    repeat' (first
      | ((first
        | (with_reducible first
          | refine newQ H fun _ _ f H2 => ?_
          | refine wrQ0 H fun _ f H2 => ?_
          | refine wrQ1 H fun _ f H2 => ?_
          | refine wrQ2 H fun _ f H2 => ?_
          | refine wrQ3 H fun _ f H2 => ?_
          | refine wrQ4 H fun _ f H2 => ?_
          | refine wrQ5 H fun _ f H2 => ?_
          | refine callQ H (call_no C s q1 _) fun _ f H2 => ?_)
        | ((with_reducible refine stwQ0 H ?hl ?h1 fun _ f H2 => ?_); (case hl => rfl); (case h1 => rfl))
        | ((with_reducible refine stwQ1 H ?hl ?h1 fun _ f H2 => ?_); (case hl => rfl); (case h1 => rfl))
        | ((with_reducible refine stwQ2 H ?hl ?h1 fun _ f H2 => ?_); (case hl => rfl); (case h1 => rfl))
        | ((with_reducible refine stwQ3 H ?hl ?h1 fun _ f H2 => ?_); (case hl => rfl); (case h1 => rfl))
        | ((with_reducible refine stwQ4 H ?hl ?h1 fun _ f H2 => ?_); (case hl => rfl); (case h1 => rfl))
        | ((with_reducible refine stwQ5 H ?hl ?h1 fun _ f H2 => ?_); (case hl => rfl); (case h1 => rfl))
        | ((with_reducible refine stQ0 H ?hl ?h1 fun _ f H2 => ?_); (case hl => exact Nat.le_of_ble_eq_true rfl); (case h1 => rfl); (simp only [go_sem] at H2))
        | ((with_reducible refine stQ1 H ?hl ?h1 fun _ f H2 => ?_); (case hl => exact Nat.le_of_ble_eq_true rfl); (case h1 => rfl); (simp only [go_sem] at H2))
        | ((with_reducible refine stQ2 H ?hl ?h1 fun _ f H2 => ?_); (case hl => exact Nat.le_of_ble_eq_true rfl); (case h1 => rfl); (simp only [go_sem] at H2))
        | ((with_reducible refine stQ3 H ?hl ?h1 fun _ f H2 => ?_); (case hl => exact Nat.le_of_ble_eq_true rfl); (case h1 => rfl); (simp only [go_sem] at H2))); clear f; clear H; have H := H2; clear H2; simp (disch := omega) only [go_sem, undef, H.cs, *, d])
      | ((with_reducible refine gQ_split (fun hq => ?_) (fun hq => ?_)) <;> (try simp only [Bool.not_true, Bool.not_false] at hq) <;> simp (disch := omega) only [go_sem, undef, H.cs, *, d])
      | ((with_reducible refine condB_split (fun hq => ?_) (fun hq => ?_)) <;> simp (disch := omega) only [go_sem, undef, H.cs, *, d]))
    exact ⟨rfl, H.fr⟩
  by_cases e2 : s.kind = 2
  · have q1 := g2 (.inl e2)
    have d := dec_t e2
    clear e2 g1 g2 g3 g4 g5
    simp (disch := omega) only [go_sem, undef, d]
    repeat' (first
      | ((first
        | (with_reducible first
          | refine newQ H fun _ _ f H2 => ?_
          | refine wrQ0 H fun _ f H2 => ?_
          | refine wrQ1 H fun _ f H2 => ?_
          | refine wrQ2 H fun _ f H2 => ?_
          | refine wrQ3 H fun _ f H2 => ?_
          | refine wrQ4 H fun _ f H2 => ?_
          | refine wrQ5 H fun _ f H2 => ?_
          | refine callQ H (letter_no (h.frame H.fr) s q1) fun _ f H2 => ?_)
        | ((with_reducible refine stwQ0 H ?hl ?h1 fun _ f H2 => ?_); (case hl => rfl); (case h1 => rfl))
        | ((with_reducible refine stwQ1 H ?hl ?h1 fun _ f H2 => ?_); (case hl => rfl); (case h1 => rfl))
        | ((with_reducible refine stwQ2 H ?hl ?h1 fun _ f H2 => ?_); (case hl => rfl); (case h1 => rfl))
        | ((with_reducible refine stwQ3 H ?hl ?h1 fun _ f H2 => ?_); (case hl => rfl); (case h1 => rfl))
        | ((with_reducible refine stwQ4 H ?hl ?h1 fun _ f H2 => ?_); (case hl => rfl); (case h1 => rfl))
        | ((with_reducible refine stwQ5 H ?hl ?h1 fun _ f H2 => ?_); (case hl => rfl); (case h1 => rfl))
        | ((with_reducible refine stQ0 H ?hl ?h1 fun _ f H2 => ?_); (case hl => exact Nat.le_of_ble_eq_true rfl); (case h1 => rfl); (simp only [go_sem] at H2))
        | ((with_reducible refine stQ1 H ?hl ?h1 fun _ f H2 => ?_); (case hl => exact Nat.le_of_ble_eq_true rfl); (case h1 => rfl); (simp only [go_sem] at H2))
        | ((with_reducible refine stQ2 H ?hl ?h1 fun _ f H2 => ?_); (case hl => exact Nat.le_of_ble_eq_true rfl); (case h1 => rfl); (simp only [go_sem] at H2))
        | ((with_reducible refine stQ3 H ?hl ?h1 fun _ f H2 => ?_); (case hl => exact Nat.le_of_ble_eq_true rfl); (case h1 => rfl); (simp only [go_sem] at H2))); clear f; clear H; have H := H2; clear H2; simp (disch := omega) only [go_sem, undef, H.cs, *, d])
      | ((with_reducible refine gQ_split (fun hq => ?_) (fun hq => ?_)) <;> (try simp only [Bool.not_true, Bool.not_false] at hq) <;> simp (disch := omega) only [go_sem, undef, H.cs, *, d])
      | ((with_reducible refine condB_split (fun hq => ?_) (fun hq => ?_)) <;> simp (disch := omega) only [go_sem, undef, H.cs, *, d]))
    exact ⟨rfl, H.fr⟩
  by_cases e3 : s.kind = 3
  · have q1 := g2 (.inr (.inl e3))
    have d := dec_t e3
    clear e3 g1 g2 g3 g4 g5
    simp (disch := omega) only [go_sem, undef, d]
    repeat' (first
      | ((first
        | (with_reducible first
          | refine newQ H fun _ _ f H2 => ?_
          | refine wrQ0 H fun _ f H2 => ?_
          | refine wrQ1 H fun _ f H2 => ?_
          | refine wrQ2 H fun _ f H2 => ?_
          | refine wrQ3 H fun _ f H2 => ?_
          | refine wrQ4 H fun _ f H2 => ?_
          | refine wrQ5 H fun _ f H2 => ?_
          | refine callQ H (letter_no (h.frame H.fr) s q1) fun _ f H2 => ?_)
        | ((with_reducible refine stwQ0 H ?hl ?h1 fun _ f H2 => ?_); (case hl => rfl); (case h1 => rfl))
        | ((with_reducible refine stwQ1 H ?hl ?h1 fun _ f H2 => ?_); (case hl => rfl); (case h1 => rfl))
        | ((with_reducible refine stwQ2 H ?hl ?h1 fun _ f H2 => ?_); (case hl => rfl); (case h1 => rfl))
        | ((with_reducible refine stwQ3 H ?hl ?h1 fun _ f H2 => ?_); (case hl => rfl); (case h1 => rfl))
        | ((with_reducible refine stwQ4 H ?hl ?h1 fun _ f H2 => ?_); (case hl => rfl); (case h1 => rfl))
        | ((with_reducible refine stwQ5 H ?hl ?h1 fun _ f H2 => ?_); (case hl => rfl); (case h1 => rfl))
        | ((with_reducible refine stQ0 H ?hl ?h1 fun _ f H2 => ?_); (case hl => exact Nat.le_of_ble_eq_true rfl); (case h1 => rfl); (simp only [go_sem] at H2))
        | ((with_reducible refine stQ1 H ?hl ?h1 fun _ f H2 => ?_); (case hl => exact Nat.le_of_ble_eq_true rfl); (case h1 => rfl); (simp only [go_sem] at H2))
        | ((with_reducible refine stQ2 H ?hl ?h1 fun _ f H2 => ?_); (case hl => exact Nat.le_of_ble_eq_true rfl); (case h1 => rfl); (simp only [go_sem] at H2))
        | ((with_reducible refine stQ3 H ?hl ?h1 fun _ f H2 => ?_); (case hl => exact Nat.le_of_ble_eq_true rfl); (case h1 => rfl); (simp only [go_sem] at H2))); clear f; clear H; have H := H2; clear H2; simp (disch := omega) only [go_sem, undef, H.cs, *, d])
      | ((with_reducible refine gQ_split (fun hq => ?_) (fun hq => ?_)) <;> (try simp only [Bool.not_true, Bool.not_false] at hq) <;> simp (disch := omega) only [go_sem, undef, H.cs, *, d])
      | ((with_reducible refine condB_split (fun hq => ?_) (fun hq => ?_)) <;> simp (disch := omega) only [go_sem, undef, H.cs, *, d]))
    exact ⟨rfl, H.fr⟩
  by_cases e4 : s.kind = 4
  · have q1 := g2 (.inr (.inr e4))
    have d := dec_t e4
    clear e4 g1 g2 g3 g4 g5
    simp (disch := omega) only [go_sem, undef, d]
    repeat' (first
      | ((first
        | (with_reducible first
          | refine newQ H fun _ _ f H2 => ?_
          | refine wrQ0 H fun _ f H2 => ?_
          | refine wrQ1 H fun _ f H2 => ?_
          | refine wrQ2 H fun _ f H2 => ?_
          | refine wrQ3 H fun _ f H2 => ?_
          | refine wrQ4 H fun _ f H2 => ?_
          | refine wrQ5 H fun _ f H2 => ?_
          | refine callQ H (letter_no (h.frame H.fr) s q1) fun _ f H2 => ?_)
        | ((with_reducible refine stwQ0 H ?hl ?h1 fun _ f H2 => ?_); (case hl => rfl); (case h1 => rfl))
        | ((with_reducible refine stwQ1 H ?hl ?h1 fun _ f H2 => ?_); (case hl => rfl); (case h1 => rfl))
        | ((with_reducible refine stwQ2 H ?hl ?h1 fun _ f H2 => ?_); (case hl => rfl); (case h1 => rfl))
        | ((with_reducible refine stwQ3 H ?hl ?h1 fun _ f H2 => ?_); (case hl => rfl); (case h1 => rfl))
        | ((with_reducible refine stwQ4 H ?hl ?h1 fun _ f H2 => ?_); (case hl => rfl); (case h1 => rfl))
        | ((with_reducible refine stwQ5 H ?hl ?h1 fun _ f H2 => ?_); (case hl => rfl); (case h1 => rfl))
        | ((with_reducible refine stQ0 H ?hl ?h1 fun _ f H2 => ?_); (case hl => exact Nat.le_of_ble_eq_true rfl); (case h1 => rfl); (simp only [go_sem] at H2))
        | ((with_reducible refine stQ1 H ?hl ?h1 fun _ f H2 => ?_); (case hl => exact Nat.le_of_ble_eq_true rfl); (case h1 => rfl); (simp only [go_sem] at H2))
        | ((with_reducible refine stQ2 H ?hl ?h1 fun _ f H2 => ?_); (case hl => exact Nat.le_of_ble_eq_true rfl); (case h1 => rfl); (simp only [go_sem] at H2))
        | ((with_reducible refine stQ3 H ?hl ?h1 fun _ f H2 => ?_); (case hl => exact Nat.le_of_ble_eq_true rfl); (case h1 => rfl); (simp only [go_sem] at H2))); clear f; clear H; have H := H2; clear H2; simp (disch := omega) only [go_sem, undef, H.cs, *, d])
      | ((with_reducible refine gQ_split (fun hq => ?_) (fun hq => ?_)) <;> (try simp only [Bool.not_true, Bool.not_false] at hq) <;> simp (disch := omega) only [go_sem, undef, H.cs, *, d])
      | ((with_reducible refine condB_split (fun hq => ?_) (fun hq => ?_)) <;> simp (disch := omega) only [go_sem, undef, H.cs, *, d]))
    exact ⟨rfl, H.fr⟩
  by_cases e6 : s.kind = 6
  · have q1 := g4 e6
    have d := dec_t e6
    clear e6 g1 g2 g3 g4 g5
    simp (disch := omega) only [go_sem, undef, d]
    repeat' (first
      | ((first
        | (with_reducible first
          | refine newQ H fun _ _ f H2 => ?_
          | refine wrQ0 H fun _ f H2 => ?_
          | refine wrQ1 H fun _ f H2 => ?_
          | refine wrQ2 H fun _ f H2 => ?_
          | refine wrQ3 H fun _ f H2 => ?_
          | refine wrQ4 H fun _ f H2 => ?_
          | refine wrQ5 H fun _ f H2 => ?_
          | refine callQ H (time_no C s.n q1 _) fun _ f H2 => ?_)
        | ((with_reducible refine stwQ0 H ?hl ?h1 fun _ f H2 => ?_); (case hl => rfl); (case h1 => rfl))
        | ((with_reducible refine stwQ1 H ?hl ?h1 fun _ f H2 => ?_); (case hl => rfl); (case h1 => rfl))
        | ((with_reducible refine stwQ2 H ?hl ?h1 fun _ f H2 => ?_); (case hl => rfl); (case h1 => rfl))
        | ((with_reducible refine stwQ3 H ?hl ?h1 fun _ f H2 => ?_); (case hl => rfl); (case h1 => rfl))
        | ((with_reducible refine stwQ4 H ?hl ?h1 fun _ f H2 => ?_); (case hl => rfl); (case h1 => rfl))
        | ((with_reducible refine stwQ5 H ?hl ?h1 fun _ f H2 => ?_); (case hl => rfl); (case h1 => rfl))
        | ((with_reducible refine stQ0 H ?hl ?h1 fun _ f H2 => ?_); (case hl => exact Nat.le_of_ble_eq_true rfl); (case h1 => rfl); (simp only [go_sem] at H2))
        | ((with_reducible refine stQ1 H ?hl ?h1 fun _ f H2 => ?_); (case hl => exact Nat.le_of_ble_eq_true rfl); (case h1 => rfl); (simp only [go_sem] at H2))
        | ((with_reducible refine stQ2 H ?hl ?h1 fun _ f H2 => ?_); (case hl => exact Nat.le_of_ble_eq_true rfl); (case h1 => rfl); (simp only [go_sem] at H2))
        | ((with_reducible refine stQ3 H ?hl ?h1 fun _ f H2 => ?_); (case hl => exact Nat.le_of_ble_eq_true rfl); (case h1 => rfl); (simp only [go_sem] at H2))); clear f; clear H; have H := H2; clear H2; simp (disch := omega) only [go_sem, undef, H.cs, *, d])
      | ((with_reducible refine gQ_split (fun hq => ?_) (fun hq => ?_)) <;> (try simp only [Bool.not_true, Bool.not_false] at hq) <;> simp (disch := omega) only [go_sem, undef, H.cs, *, d])
      | ((with_reducible refine condB_split (fun hq => ?_) (fun hq => ?_)) <;> simp (disch := omega) only [go_sem, undef, H.cs, *, d]))
    exact ⟨rfl, H.fr⟩
  by_cases e9 : s.kind = 9
  · obtain ⟨q1, q2⟩ := g5 e9
    have d := dec_t e9
    clear e9 g1 g2 g3 g4 g5
    simp (disch := omega) only [go_sem, undef, d]
    repeat' (first
      | ((first
        | (with_reducible first
          | refine newQ H fun _ _ f H2 => ?_
          | refine wrQ0 H fun _ f H2 => ?_
          | refine wrQ1 H fun _ f H2 => ?_
          | refine wrQ2 H fun _ f H2 => ?_
          | refine wrQ3 H fun _ f H2 => ?_
          | refine wrQ4 H fun _ f H2 => ?_
          | refine wrQ5 H fun _ f H2 => ?_
          | refine callQ H (start_no (h.frame H.fr) s.n q1 q2) fun _ f H2 => ?_)
        | ((with_reducible refine stwQ0 H ?hl ?h1 fun _ f H2 => ?_); (case hl => rfl); (case h1 => rfl))
        | ((with_reducible refine stwQ1 H ?hl ?h1 fun _ f H2 => ?_); (case hl => rfl); (case h1 => rfl))
        | ((with_reducible refine stwQ2 H ?hl ?h1 fun _ f H2 => ?_); (case hl => rfl); (case h1 => rfl))
        | ((with_reducible refine stwQ3 H ?hl ?h1 fun _ f H2 => ?_); (case hl => rfl); (case h1 => rfl))
        | ((with_reducible refine stwQ4 H ?hl ?h1 fun _ f H2 => ?_); (case hl => rfl); (case h1 => rfl))
        | ((with_reducible refine stwQ5 H ?hl ?h1 fun _ f H2 => ?_); (case hl => rfl); (case h1 => rfl))
        | ((with_reducible refine stQ0 H ?hl ?h1 fun _ f H2 => ?_); (case hl => exact Nat.le_of_ble_eq_true rfl); (case h1 => rfl); (simp only [go_sem] at H2))
        | ((with_reducible refine stQ1 H ?hl ?h1 fun _ f H2 => ?_); (case hl => exact Nat.le_of_ble_eq_true rfl); (case h1 => rfl); (simp only [go_sem] at H2))
        | ((with_reducible refine stQ2 H ?hl ?h1 fun _ f H2 => ?_); (case hl => exact Nat.le_of_ble_eq_true rfl); (case h1 => rfl); (simp only [go_sem] at H2))
        | ((with_reducible refine stQ3 H ?hl ?h1 fun _ f H2 => ?_); (case hl => exact Nat.le_of_ble_eq_true rfl); (case h1 => rfl); (simp only [go_sem] at H2))); clear f; clear H; have H := H2; clear H2; simp (disch := omega) only [go_sem, undef, H.cs, *, d])
      | ((with_reducible refine gQ_split (fun hq => ?_) (fun hq => ?_)) <;> (try simp only [Bool.not_true, Bool.not_false] at hq) <;> simp (disch := omega) only [go_sem, undef, H.cs, *, d])
      | ((with_reducible refine condB_split (fun hq => ?_) (fun hq => ?_)) <;> simp (disch := omega) only [go_sem, undef, H.cs, *, d]))
    exact ⟨rfl, H.fr⟩
  by_cases hn : s.n < 0 ∨ (k : Int) ≤ s.n
  · simp (disch := omega) only [go_sem, undef]
    repeat' (first
      | ((first
        | (with_reducible first
          | refine newQ H fun _ _ f H2 => ?_
          | refine wrQ0 H fun _ f H2 => ?_
          | refine wrQ1 H fun _ f H2 => ?_
          | refine wrQ2 H fun _ f H2 => ?_
          | refine wrQ3 H fun _ f H2 => ?_
          | refine wrQ4 H fun _ f H2 => ?_
          | refine wrQ5 H fun _ f H2 => ?_
          | refine callQ H (node_no (h.frame H.fr) s.n hn) fun _ f H2 => ?_)
        | ((with_reducible refine stwQ0 H ?hl ?h1 fun _ f H2 => ?_); (case hl => rfl); (case h1 => rfl))
        | ((with_reducible refine stwQ1 H ?hl ?h1 fun _ f H2 => ?_); (case hl => rfl); (case h1 => rfl))
        | ((with_reducible refine stwQ2 H ?hl ?h1 fun _ f H2 => ?_); (case hl => rfl); (case h1 => rfl))
        | ((with_reducible refine stwQ3 H ?hl ?h1 fun _ f H2 => ?_); (case hl => rfl); (case h1 => rfl))
        | ((with_reducible refine stwQ4 H ?hl ?h1 fun _ f H2 => ?_); (case hl => rfl); (case h1 => rfl))
        | ((with_reducible refine stwQ5 H ?hl ?h1 fun _ f H2 => ?_); (case hl => rfl); (case h1 => rfl))
        | ((with_reducible refine stQ0 H ?hl ?h1 fun _ f H2 => ?_); (case hl => exact Nat.le_of_ble_eq_true rfl); (case h1 => rfl); (simp only [go_sem] at H2))
        | ((with_reducible refine stQ1 H ?hl ?h1 fun _ f H2 => ?_); (case hl => exact Nat.le_of_ble_eq_true rfl); (case h1 => rfl); (simp only [go_sem] at H2))
        | ((with_reducible refine stQ2 H ?hl ?h1 fun _ f H2 => ?_); (case hl => exact Nat.le_of_ble_eq_true rfl); (case h1 => rfl); (simp only [go_sem] at H2))
        | ((with_reducible refine stQ3 H ?hl ?h1 fun _ f H2 => ?_); (case hl => exact Nat.le_of_ble_eq_true rfl); (case h1 => rfl); (simp only [go_sem] at H2))); clear f; clear H; have H := H2; clear H2; simp (disch := omega) only [go_sem, undef, H.cs, *, dec_f e1, dec_f e2, dec_f e3, dec_f e4, dec_f e6, dec_f e9, Option.isNone_none])
      | ((with_reducible refine gQ_split (fun hq => ?_) (fun hq => ?_)) <;> (try simp only [Bool.not_true, Bool.not_false] at hq) <;> simp (disch := omega) only [go_sem, undef, H.cs, *, dec_f e1, dec_f e2, dec_f e3, dec_f e4, dec_f e6, dec_f e9, Option.isNone_none])
      | ((with_reducible refine condB_split (fun hq => ?_) (fun hq => ?_)) <;> simp (disch := omega) only [go_sem, undef, H.cs, *, dec_f e1, dec_f e2, dec_f e3, dec_f e4, dec_f e6, dec_f e9, Option.isNone_none]))
    exact ⟨rfl, H.fr⟩
  · have q1 : 0 ≤ s.n := by omega
    have q2 : s.n < k := by omega
    have e5 : ¬ s.kind = 5 := fun e => by have := g3 (.inl e); omega
    have e7 : ¬ s.kind = 7 := fun e => by have := g3 (.inr (.inl e)); omega
    have e8 : ¬ s.kind = 8 := fun e => by have := g3 (.inr (.inr e)); omega
    simp (disch := omega) only [go_sem, undef]
    repeat' (first
      | ((first
        | (with_reducible first
          | refine newQ H fun _ _ f H2 => ?_
          | refine wrQ0 H fun _ f H2 => ?_
          | refine wrQ1 H fun _ f H2 => ?_
          | refine wrQ2 H fun _ f H2 => ?_
          | refine wrQ3 H fun _ f H2 => ?_
          | refine wrQ4 H fun _ f H2 => ?_
          | refine wrQ5 H fun _ f H2 => ?_
          | refine callQ H (node_yes (h.frame H.fr) s.n q1 q2) fun _ f H2 => ?_)
        | ((with_reducible refine stwQ0 H ?hl ?h1 fun _ f H2 => ?_); (case hl => rfl); (case h1 => rfl))
        | ((with_reducible refine stwQ1 H ?hl ?h1 fun _ f H2 => ?_); (case hl => rfl); (case h1 => rfl))
        | ((with_reducible refine stwQ2 H ?hl ?h1 fun _ f H2 => ?_); (case hl => rfl); (case h1 => rfl))
        | ((with_reducible refine stwQ3 H ?hl ?h1 fun _ f H2 => ?_); (case hl => rfl); (case h1 => rfl))
        | ((with_reducible refine stwQ4 H ?hl ?h1 fun _ f H2 => ?_); (case hl => rfl); (case h1 => rfl))
        | ((with_reducible refine stwQ5 H ?hl ?h1 fun _ f H2 => ?_); (case hl => rfl); (case h1 => rfl))
        | ((with_reducible refine stQ0 H ?hl ?h1 fun _ f H2 => ?_); (case hl => exact Nat.le_of_ble_eq_true rfl); (case h1 => rfl); (simp only [go_sem] at H2))
        | ((with_reducible refine stQ1 H ?hl ?h1 fun _ f H2 => ?_); (case hl => exact Nat.le_of_ble_eq_true rfl); (case h1 => rfl); (simp only [go_sem] at H2))
        | ((with_reducible refine stQ2 H ?hl ?h1 fun _ f H2 => ?_); (case hl => exact Nat.le_of_ble_eq_true rfl); (case h1 => rfl); (simp only [go_sem] at H2))
        | ((with_reducible refine stQ3 H ?hl ?h1 fun _ f H2 => ?_); (case hl => exact Nat.le_of_ble_eq_true rfl); (case h1 => rfl); (simp only [go_sem] at H2))); clear f; clear H; have H := H2; clear H2; simp (disch := omega) only [go_sem, undef, H.cs, *, dec_f e1, dec_f e2, dec_f e3, dec_f e4, dec_f e5, dec_f e6, dec_f e7, dec_f e8, dec_f e9, Option.isNone_some])
      | ((with_reducible refine gQ_split (fun hq => ?_) (fun hq => ?_)) <;> (try simp only [Bool.not_true, Bool.not_false] at hq) <;> simp (disch := omega) only [go_sem, undef, H.cs, *, dec_f e1, dec_f e2, dec_f e3, dec_f e4, dec_f e5, dec_f e6, dec_f e7, dec_f e8, dec_f e9, Option.isNone_some])
      | ((with_reducible refine condB_split (fun hq => ?_) (fun hq => ?_)) <;> simp (disch := omega) only [go_sem, undef, H.cs, *, dec_f e1, dec_f e2, dec_f e3, dec_f e4, dec_f e5, dec_f e6, dec_f e7, dec_f e8, dec_f e9, Option.isNone_some]))
    exact ⟨rfl, H.fr⟩
end Go.Fw
