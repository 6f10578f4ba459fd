import Derived.Lib.AtoiAll
import Derived.Lib.ItoaMem
import Derived.Lib.ItoaLen
import Derived.Lib.Join
set_option linter.unusedVariables false
set_option linter.unusedSimpArgs false
/-! A shell's lines, in plain Lean. -/
namespace Go.Sh
open Go.Lib
abbrev Bs := List UInt8
def plainB (c : UInt8) : Bool := decide (32 < c.toNat ∧ c.toNat < 127 ∧ c.toNat ≠ 37)
def hexD (n : Nat) : UInt8 := if n < 10 then UInt8.ofNat (48 + n) else UInt8.ofNat (87 + n)
def enc1 (c : UInt8) : Bs := if plainB c then [c] else [37, hexD (c.toNat / 16), hexD (c.toNat % 16)]
/-- a text's word -/
def wordL (s : Bs) : Bs := 61 :: s.flatMap enc1
def hexV (c : UInt8) : Nat := if 48 ≤ c.toNat ∧ c.toNat ≤ 57 then c.toNat - 48 else if 97 ≤ c.toNat ∧ c.toNat ≤ 102 then c.toNat - 87 else 0
def textGo : Bs → Bs
  | [] => []
  | [c] => [c]
  | [c, d] => [c, d]
  | c :: h :: l :: r => if c.toNat = 37 then UInt8.ofNat (hexV h * 16 + hexV l) :: textGo r else c :: textGo (h :: l :: r)
def textL (s : Bs) : Bs := textGo (s.drop 1)
theorem textGo_cons {c : UInt8} (h : c.toNat ≠ 37) (t : Bs) : textGo (c :: t) = c :: textGo t := by
  match t with
  | [] => rfl
  | [_] => rfl
  | _ :: _ :: _ => simp only [textGo, if_neg h]
theorem hexD_lt {n : Nat} (h : n < 16) : (hexD n).toNat = if n < 10 then 48 + n else 87 + n := by
  unfold hexD
  split <;> simp <;> omega
theorem hexV_hexD {n : Nat} (h : n < 16) : hexV (hexD n) = n := by
  unfold hexV
  rw [hexD_lt h]
  by_cases h1 : n < 10
  · rw [if_pos h1, if_pos (by omega)]; omega
  · rw [if_neg h1, if_neg (by omega), if_pos (by omega)]; omega
theorem enc1_plain {c : UInt8} (h : plainB c = true) : enc1 c = [c] := by unfold enc1; rw [if_pos h]
theorem enc1_hex {c : UInt8} (h : ¬ plainB c = true) : enc1 c = [37, hexD (c.toNat / 16), hexD (c.toNat % 16)] := by unfold enc1; rw [if_neg h]
theorem textGo_enc : ∀ s : Bs, textGo (s.flatMap enc1) = s
  | [] => rfl
  | c :: s => by
    have ih := textGo_enc s
    rw [List.flatMap_cons]
    by_cases hp : plainB c = true
    · rw [enc1_plain hp]
      simp only [plainB, decide_eq_true_eq] at hp
      rw [List.singleton_append, textGo_cons hp.2.2, ih]
    · rw [enc1_hex hp]
      simp only [List.cons_append, List.nil_append, textGo]
      have hc := c.toNat_lt
      rw [if_pos (by decide), hexV_hexD (by omega), hexV_hexD (by omega), ih]
      congr 1
      have : c.toNat / 16 * 16 + c.toNat % 16 = c.toNat := by omega
      rw [this]; simp
theorem textL_wordL (s : Bs) : textL (wordL s) = s := textGo_enc s
/-! no blanks -/
def NoSp (s : Bs) : Prop := ∀ c ∈ s, c ≠ 32
theorem enc1_nosp (c : UInt8) : NoSp (enc1 c) := by
  unfold enc1 NoSp
  have hc := c.toNat_lt
  split
  · rename_i hp
    simp only [plainB, decide_eq_true_eq] at hp
    intro x hx
    rw [List.mem_singleton] at hx
    subst hx
    rintro rfl
    simp at hp
  · intro x hx
    have e1 := hexD_lt (n := c.toNat / 16) (by omega)
    have e2 := hexD_lt (n := c.toNat % 16) (by omega)
    simp only [List.mem_cons, List.not_mem_nil, or_false] at hx
    rcases hx with rfl | rfl | rfl
    · decide
    · rintro h; rw [h] at e1; simp at e1; split at e1 <;> omega
    · rintro h; rw [h] at e2; simp at e2; split at e2 <;> omega
theorem wordL_nosp (s : Bs) : NoSp (wordL s) := by
  intro c hc
  rcases List.mem_cons.1 hc with rfl | hc
  · decide
  · obtain ⟨d, _, hd⟩ := List.mem_flatMap.1 hc
    exact enc1_nosp d c hd
theorem wordL_len (s : Bs) : (wordL s).length ≤ 1 + 3 * s.length := by
  unfold wordL
  have : ∀ s : Bs, (s.flatMap enc1).length ≤ 3 * s.length := fun s => by
    induction s with
    | nil => simp
    | cons c s ih =>
      rw [List.flatMap_cons, List.length_append, List.length_cons]
      have : (enc1 c).length ≤ 3 := by unfold enc1; split <;> simp
      omega
  have := this s
  rw [List.length_cons]; omega
theorem dec_mem : ∀ (u : Nat) (c : UInt8), c ∈ decDigits u → 48 ≤ c.toNat ∧ c.toNat ≤ 57 := by
  intro u
  induction u using Nat.strongRecOn with
  | _ u ih =>
    intro c hc
    rw [decDigits] at hc
    split at hc
    · rw [List.mem_singleton] at hc; subst hc; simp; omega
    · rcases List.mem_append.1 hc with h | h
      · exact ih (u / 10) (by omega) c h
      · rw [List.mem_singleton] at h; subst h; simp; omega
theorem itoa_nosp (n : Int) : NoSp (itoa n) := by
  intro c hc
  have : c.toNat = 45 ∨ 48 ≤ c.toNat := by
    unfold itoa at hc
    split at hc
    · rcases List.mem_cons.1 hc with rfl | h
      · exact .inl rfl
      · exact .inr (dec_mem _ _ h).1
    · exact .inr (dec_mem _ _ hc).1
  rintro rfl
  simp at this
/-! numbers, and back -/
theorem parse_app : ∀ (l : Bs) (acc : Nat) (c : UInt8) (v : Nat), parseUint10 acc l = .ok v → parseUint10 acc (l ++ [c]) = parseUint10 v [c]
  | [], acc, c, v, h => by
    simp only [parseUint10] at h
    injection h with h
    subst h; rfl
  | d :: l, acc, c, v, h => by
    simp only [List.cons_append, parseUint10] at h ⊢
    split at h
    · rename_i h0
      split at h
      · cases h
      · rename_i h1
        split at h
        · cases h
        · rename_i h2
          rw [if_pos h0, if_neg h1, if_neg h2]
          exact parse_app l _ c v h
    · cases h
theorem parse_dec (u : Nat) (h : u < 18446744073709551616) : parseUint10 0 (decDigits u) = .ok u := by
  induction u using Nat.strongRecOn with
  | _ u ih =>
    rw [decDigits]
    split
    · rename_i hu
      have e : (UInt8.ofNat (48 + u)).toNat = 48 + u := by simp; omega
      simp only [parseUint10, e]
      rw [if_pos (by omega), if_neg (by omega), if_neg (by omega)]
      congr 1; omega
    · rename_i hu
      rw [parse_app _ _ _ _ (ih (u / 10) (by omega) (by omega))]
      have e : (UInt8.ofNat (48 + u % 10)).toNat = 48 + u % 10 := by simp; omega
      simp only [parseUint10, e]
      rw [if_pos (by omega), if_neg (by omega), if_neg (by omega)]
      congr 1; omega
theorem dec_ne (u : Nat) : decDigits u ≠ [] := by
  rw [decDigits]; split <;> simp
theorem atoi_itoa (n : Int) (h0 : -9223372036854775808 ≤ n) (h1 : n ≤ 9223372036854775807) : atoiAll (itoa n) = .ok n := by
  unfold itoa
  split
  · rename_i hn
    have hm : parseMag (decDigits n.natAbs) = .ok n.natAbs := by
      unfold parseMag
      rw [if_neg (dec_ne _)]
      exact parse_dec _ (by omega)
    have e : (45 : UInt8).toNat = 45 := rfl
    simp only [atoiAll, e, true_or, or_true, if_true, hm, not_true, false_and, if_false, true_and]
    rw [if_neg (by omega)]
    congr 1; omega
  · rename_i hn
    have hm : parseMag (decDigits n.toNat) = .ok n.toNat := by
      unfold parseMag
      rw [if_neg (dec_ne _)]
      exact parse_dec _ (by omega)
    cases hd : decDigits n.toNat with
    | nil => exact (dec_ne _ hd).elim
    | cons c r =>
      have hc := dec_mem n.toNat c (by rw [hd]; exact List.mem_cons_self ..)
      rw [hd] at hm
      have h45 : ¬ c.toNat = 45 := by omega
      have h43 : ¬ c.toNat = 43 := by omega
      simp only [atoiAll, h45, h43, or_self, if_false, hm, not_false_eq_true, true_and, false_and]
      rw [if_neg (by omega)]
      congr 1; omega
/-! words of a line -/
def splitS : Bs → List Bs
  | [] => [[]]
  | c :: r => if c = 32 then [] :: splitS r else match splitS r with | w :: ws => (c :: w) :: ws | [] => [[c]]
theorem splitS_nosp : ∀ {w : Bs}, NoSp w → splitS w = [w]
  | [], _ => rfl
  | c :: w, h => by
    have hc : c ≠ 32 := h c (List.mem_cons_self ..)
    simp only [splitS, if_neg hc, splitS_nosp (fun d hd => h d (List.mem_cons_of_mem _ hd))]
theorem splitS_app : ∀ {w : Bs}, NoSp w → ∀ r, splitS (w ++ 32 :: r) = w :: splitS r
  | [], _, r => by simp [splitS]
  | c :: w, h, r => by
    have hc : c ≠ 32 := h c (List.mem_cons_self ..)
    simp only [List.cons_append, splitS, if_neg hc, splitS_app (fun d hd => h d (List.mem_cons_of_mem _ hd)) r]
theorem split_join : ∀ (w : Bs) (ws : List Bs), NoSp w → (∀ x ∈ ws, NoSp x) → splitS (join (w :: ws) [32]) = w :: ws
  | w, [], h, _ => by rw [join_one]; exact splitS_nosp h
  | w, x :: ws, h, hs => by
    have ih := split_join x ws (hs x (List.mem_cons_self ..)) (fun y hy => hs y (List.mem_cons_of_mem _ hy))
    have : join (w :: x :: ws) [32] = w ++ 32 :: join (x :: ws) [32] := by
      rw [join_cons, join_cons]; simp [joinTail]
    rw [this, splitS_app h, ih]
end Go.Sh
/-! Steps and their lines, in plain Lean. -/
namespace Go.Sh
open Go.Lib
structure Stp where
  kind : Int
  n : Int
  count : Int
  client : Int
  ck : Int
  cc : Int
  cq : Int
  key : Bs
  fin : Bs
  old : Bs
  val : Bs
  picks : List Int
def kindsL : List (Bs × Int × Int) :=
  [([103, 101, 116], 1, 1), ([112, 117, 116], 1, 2), ([100, 101, 108], 1, 3), ([115, 119, 97, 112], 1, 4), ([114, 97, 110, 103, 101], 1, 5), ([103, 105, 118, 101], 2, 0), ([99, 111, 112, 121], 3, 0), ([108, 111, 115, 101], 4, 0),
   ([116, 105, 99, 107], 5, 0), ([116, 105, 109, 101], 6, 0), ([115, 116, 97, 114, 116], 9, 0), ([97, 114, 109], 7, 0), ([99, 114, 97, 115, 104], 8, 0)]
def fitsK (s : Stp) (k : Bs × Int × Int) : Bool := decide (k.2.1 = s.kind) && (decide (k.2.1 ≠ 1) || decide (k.2.2 = s.ck))
def nameOf (s : Stp) : Option Bs := (kindsL.find? (fitsK s)).map (·.1)
def numsL (s : Stp) : List Int := if s.kind = 1 then [s.client, s.n] else if s.kind = 7 then [s.n, s.count] else [s.n]
def txtsL (s : Stp) : List Bs := if s.ck = 2 then [s.key, s.val] else if s.ck = 4 then [s.key, s.old, s.val] else if s.ck = 5 then [s.key, s.fin] else [s.key]
def restL (s : Stp) : List Bs := (numsL s).map itoa ++ ((if s.kind = 1 then (txtsL s).map wordL else []) ++ (if s.kind = 8 then s.picks.map itoa else []))
def lineL (s : Stp) : Bs := match nameOf s with | none => [] | some nm => join (nm :: restL s) [32]
/-- what a line tells of a step -/
def toldL (s : Stp) : Stp :=
  if s.kind = 1 then ⟨1, s.n, 0, s.client, s.ck, 0, 0, s.key, if s.ck = 5 then s.fin else [], if s.ck = 4 then s.old else [], if s.ck = 2 ∨ s.ck = 4 then s.val else [], []⟩
  else ⟨s.kind, s.n, if s.kind = 7 then s.count else 0, 0, 0, 0, 0, [], [], [], [], if s.kind = 8 then s.picks else []⟩
/-! reading -/
def numE (s : Int) : NumEnd Int → Int
  | .ok v => v
  | .range => s
  | _ => 0
def numV (w : Bs) : Int := numE (atoiSat w) (atoiAll w)
def hd (l : List Bs) (f : Bs → Int) : Int := match l with | [] => 0 | w :: _ => f w
def ht (l : List Bs) : Bs := match l with | [] => [] | w :: _ => textL w
def kindOf (w : Bs) : Int × Int := match kindsL.find? (fun k => decide (k.1 = w)) with | some k => k.2 | none => (0, 0)
def readT (k : Int × Int) (a b c : Int) (r : List Bs) : Stp := ⟨k.1, a, b, c, k.2, 0, 0, ht r, if k.2 = 5 then ht (r.drop 1) else [], if k.2 = 4 then ht (r.drop 1) else [], if k.2 = 2 then ht (r.drop 1) else if k.2 = 4 then ht (r.drop 2) else [], []⟩
def readL (l : List Bs) : Stp :=
  let k := kindOf (l.headD [])
  let r := l.drop 1
  if k.1 = 1 then readT k (hd (r.drop 1) numV) 0 (hd r numV) (r.drop 2)
  else if k.1 = 7 then ⟨7, hd r numV, hd (r.drop 1) numV, 0, k.2, 0, 0, [], [], [], [], []⟩
  else ⟨k.1, hd r numV, 0, 0, k.2, 0, 0, [], [], [], [], if k.1 = 8 then (r.drop 1).map numV else []⟩
def I64 (n : Int) : Prop := -9223372036854775808 ≤ n ∧ n ≤ 9223372036854775807
theorem numV_itoa {n : Int} (h : I64 n) : numV (itoa n) = n := by
  unfold numV; rw [atoi_itoa n h.1 h.2]; try rfl
structure Stp.ok (s : Stp) : Prop where
  n : I64 s.n
  count : I64 s.count
  client : I64 s.client
  picks : ∀ x ∈ s.picks, I64 x
theorem fits_of {s : Stp} {nm : Bs} (h : nameOf s = some nm) : ∃ k ∈ kindsL, k.1 = nm ∧ k.2.1 = s.kind ∧ (s.kind = 1 → k.2.2 = s.ck) := by
  unfold nameOf at h
  obtain ⟨k, hk, rfl⟩ := Option.map_eq_some_iff.1 h
  have h1 := List.find?_some hk
  have h2 := List.mem_of_find?_eq_some hk
  simp only [fitsK, Bool.and_eq_true, Bool.or_eq_true, decide_eq_true_eq] at h1
  refine ⟨k, h2, rfl, h1.1, fun e => ?_⟩
  rcases h1.2 with h3 | h3
  · rw [h1.1] at h3; exact (h3 e).elim
  · exact h3
theorem kindOf_of {k : Bs × Int × Int} (h : k ∈ kindsL) : kindOf k.1 = k.2 := by
  simp only [kindsL, List.mem_cons, List.not_mem_nil, or_false] at h
  rcases h with rfl | rfl | rfl | rfl | rfl | rfl | rfl | rfl | rfl | rfl | rfl | rfl | rfl <;> rfl
theorem kinds_cmd {k : Bs × Int × Int} (h : k ∈ kindsL) : (k.2.1 = 1 ∧ 1 ≤ k.2.2 ∧ k.2.2 ≤ 5) ∨ (k.2.1 ≠ 1 ∧ k.2.2 = 0) := by
  simp only [kindsL, List.mem_cons, List.not_mem_nil, or_false] at h
  rcases h with rfl | rfl | rfl | rfl | rfl | rfl | rfl | rfl | rfl | rfl | rfl | rfl | rfl <;> decide
theorem map_num (l : List Int) (h : ∀ x ∈ l, I64 x) : (l.map itoa).map numV = l := by
  rw [List.map_map]
  conv => rhs; rw [← List.map_id l]
  exact List.map_congr_left fun x hx => numV_itoa (h x hx)
/-- P29.1: a step's line, read, tells what it told -/
theorem read_line {s : Stp} {nm : Bs} (h : nameOf s = some nm) (ok : s.ok) : readL (nm :: restL s) = toldL s := by
  obtain ⟨k, hk, rfl, h1, h2⟩ := fits_of h
  have e := kindOf_of hk
  have hc := kinds_cmd hk
  unfold readL
  simp only [List.headD_cons, e, List.drop_succ_cons, List.drop_zero]
  by_cases k1 : s.kind = 1
  · have hck := h2 k1
    have e1 : k.2.1 = 1 := by rw [h1]; exact k1
    have hc1 : 1 ≤ k.2.2 ∧ k.2.2 ≤ 5 := by rcases hc with h | h; exact h.2; exact (h.1 e1).elim
    rw [if_pos e1]
    unfold toldL
    rw [if_pos k1]
    have hr : restL s = itoa s.client :: itoa s.n :: (txtsL s).map wordL := by
      unfold restL numsL
      rw [if_pos k1, if_pos k1, if_neg (by omega)]; simp
    rw [hr]
    simp only [hd, List.drop_succ_cons, List.drop_zero, numV_itoa ok.client, numV_itoa ok.n, readT, e1, hck]
    unfold txtsL
    rw [hck] at hc1
    have hc2 : s.ck = 1 ∨ s.ck = 2 ∨ s.ck = 3 ∨ s.ck = 4 ∨ s.ck = 5 := by omega
    rcases hc2 with c | c | c | c | c <;> simp [c, ht, textL_wordL]
  · have e1 : ¬ k.2.1 = 1 := by rw [h1]; exact k1
    have hc0 : k.2.2 = 0 := by rcases hc with h | h; exact (e1 h.1).elim; exact h.2
    rw [if_neg e1]
    unfold toldL
    rw [if_neg k1]
    by_cases k7 : s.kind = 7
    · have e7 : k.2.1 = 7 := by rw [h1]; exact k7
      rw [if_pos e7]
      have hr : restL s = [itoa s.n, itoa s.count] := by
        unfold restL numsL
        rw [if_neg k1, if_pos k7, if_neg k1, if_neg (by omega)]; simp
      rw [hr]
      have k8 : ¬ s.kind = 8 := by omega
      simp [hd, numV_itoa ok.n, numV_itoa ok.count, hc0, k7]
    · have e7 : ¬ k.2.1 = 7 := by rw [h1]; exact k7
      rw [if_neg e7]
      have hr : restL s = itoa s.n :: (if s.kind = 8 then s.picks.map itoa else []) := by
        unfold restL numsL
        rw [if_neg k1, if_neg k7, if_neg k1]; simp
      rw [hr]
      simp only [hd, numV_itoa ok.n, hc0, h1, if_neg k7, List.drop_succ_cons, List.drop_zero]
      by_cases k8 : s.kind = 8
      · simp only [if_pos k8, map_num _ ok.picks]
      · simp only [if_neg k8]
theorem told_kind (s : Stp) : (toldL s).kind = s.kind := by
  unfold toldL; split
  · rename_i h; exact h.symm
  · rfl
theorem told_name (s : Stp) : nameOf (toldL s) = nameOf s := by
  unfold nameOf
  congr 1
  congr 1
  funext k
  unfold fitsK
  rw [told_kind]
  by_cases h : k.2.1 = s.kind
  · by_cases h1 : k.2.1 = 1
    · have hs : s.kind = 1 := by rw [← h]; exact h1
      have : (toldL s).ck = s.ck := by unfold toldL; rw [if_pos hs]
      rw [this]
    · simp [h1]
  · simp [h]
theorem told_rest (s : Stp) : restL (toldL s) = restL s := by
  by_cases k1 : s.kind = 1
  · have e : toldL s = ⟨1, s.n, 0, s.client, s.ck, 0, 0, s.key, if s.ck = 5 then s.fin else [], if s.ck = 4 then s.old else [], if s.ck = 2 ∨ s.ck = 4 then s.val else [], []⟩ := by unfold toldL; rw [if_pos k1]
    rw [e]
    simp only [restL, numsL, txtsL, k1, if_true]
    by_cases c2 : s.ck = 2
    · simp [c2]
    · by_cases c4 : s.ck = 4
      · simp [c4]
      · by_cases c5 : s.ck = 5
        · simp [c5]
        · simp [c2, c4, c5]
  · have e : toldL s = ⟨s.kind, s.n, if s.kind = 7 then s.count else 0, 0, 0, 0, 0, [], [], [], [], if s.kind = 8 then s.picks else []⟩ := by unfold toldL; rw [if_neg k1]
    rw [e]
    simp only [restL, numsL, if_neg k1]
    by_cases k7 : s.kind = 7
    · simp [k7]
    · by_cases k8 : s.kind = 8
      · simp [k8]
      · simp [k7, k8]
theorem told_line (s : Stp) : lineL (toldL s) = lineL s := by
  unfold lineL; rw [told_name, told_rest]
theorem name_nosp {s : Stp} {nm : Bs} (h : nameOf s = some nm) : NoSp nm ∧ nm.length ≤ 5 ∧ nm ≠ [] := by
  obtain ⟨k, hk, rfl, _⟩ := fits_of h
  simp only [kindsL, List.mem_cons, List.not_mem_nil, or_false] at hk
  rcases hk with rfl | rfl | rfl | rfl | rfl | rfl | rfl | rfl | rfl | rfl | rfl | rfl | rfl <;> (unfold NoSp; decide)
theorem rest_nosp (s : Stp) : ∀ w ∈ restL s, NoSp w := by
  intro w hw
  unfold restL at hw
  rcases List.mem_append.1 hw with h | h
  · obtain ⟨n, _, rfl⟩ := List.mem_map.1 h; exact itoa_nosp n
  · rcases List.mem_append.1 h with h | h
    · split at h
      · obtain ⟨n, _, rfl⟩ := List.mem_map.1 h; exact wordL_nosp n
      · cases h
    · split at h
      · obtain ⟨n, _, rfl⟩ := List.mem_map.1 h; exact itoa_nosp n
      · cases h
/-- the line, split at its blanks -/
theorem split_line {s : Stp} {nm : Bs} (h : nameOf s = some nm) : splitS (lineL s) = nm :: restL s := by
  unfold lineL
  rw [h]
  exact split_join nm (restL s) (name_nosp h).1 (rest_nosp s)
theorem line_back {s : Stp} {nm : Bs} (h : nameOf s = some nm) (ok : s.ok) : readL (splitS (lineL s)) = toldL s := by rw [split_line h]; exact read_line h ok
end Go.Sh
