import Derived.Test.YtbbiiodadoeflaaGreatDoorWb
set_option linter.unusedVariables false
set_option linter.unusedSimpArgs false
namespace Go.Fw
open Go.Proofs
variable {m m0 M : Mem} {S : List Nat} {L : List As}
variable {rb : Nat} {fv : Value} {rs : List Row} {D : Dk}
theorem Hq.rev4 {A B C E : As} (H : Hq m0 m S (A :: B :: C :: E :: L)) : Hq m0 m S (E :: C :: B :: A :: L) :=
  H.perm ((List.reverse_perm [A, B, C, E]).append_right L)
theorem two_rds {b : Nat} {x y : Value} {T : TypeId} (hb : m b = some (.cells [x, y].toArray T (0, 0))) : RdS 1 v1 m (.slice (some ⟨b, 0, none⟩) 2 2) [x, y] :=
  ⟨v1_len, _, _, rfl, by simp, .inr ⟨b, 0, rfl, fun i v hv => by rw [hb, cellAt_cells, Nat.zero_add, List.getElem?_toArray]; exact hv⟩⟩
theorem one_rds {b : Nat} {r : Row} {T : TypeId} (hb : m b = some (.cells (rowE r).toArray T (0, 0))) : RdS 3 rowE m (.slice (some ⟨b, 0, none⟩) 1 1) [r] :=
  ⟨rowE_len, _, _, rfl, by simp, .inr ⟨b, 0, rfl, fun i v hv => by rw [hb, cellAt_cells, Nat.zero_add, List.getElem?_toArray]; simpa using hv⟩⟩
theorem drA_app {w : Value} {r : Row} : ownA 87 3 w (rs.length + 1) (rs.flatMap rowE ++ [r].flatMap rowE) = drA w (rs ++ [r]) := by
  rw [drA, List.length_append, List.flatMap_append]; rfl
/-- new bytes of a file -/
theorem bs_put {t : TypeId} {i : Nat} {r r' : Row} {f' : Fl} {fl : List Fl} {w : Value} {l : Bs} (H : Hq m0 m S (byA t w l :: bsA rs fl :: L)) (h1 : r'.2.1 = w) (h2 : f'.b = l) (h3 : r'.1 = f'.name) (h4 : r'.2.2 = f'.kept) : Hq m0 m S (bsA (rs.set i r') (fl.set i f') :: L) := by
  have hby := H.at 0 rfl
  have hR : RowOf m r' f' := ⟨h3, h4, by rw [h1, h2]; exact byA_rd hby, by rw [h1]; exact fun x hx => hby.there x hx⟩
  have hsub : ∀ b, b ∈ (rs.set i r').flatMap (fun r => blkOf r.2.1) → b ∈ blkOf w ++ rs.flatMap fun r => blkOf r.2.1 := by
    intro b hb
    obtain ⟨r2, hr2, hx⟩ := List.mem_flatMap.1 hb
    rcases List.mem_or_eq_of_mem_set hr2 with h | h
    · exact List.mem_append_right _ (List.mem_flatMap.2 ⟨r2, h, hx⟩)
    · subst h
      rw [h1] at hx
      exact List.mem_append_left _ hx
  exact H.join.rep0 (A' := bsA (rs.set i r') (fl.set i f')) (F2_set (H.at 1 rfl) i hR) (Fr.refl _ _) (fun b hb => .inl (hsub b hb)) (fun b hb => .inl (hsub b hb))
/-- copied into a block of one's own -/
theorem cpyIn {P : Program} {x y : Value} {size b o n capn k ck : Nat} {y0 : Option Addr} {t : TypeId} {c news : List Value} {K : Value → Mem → Prop} {lk : Lk K} {l1 : Lk x} {l2 : Lk m}
    (H : Hq m0 m S (cellA b (.cells c.toArray t (0, 0)) :: L)) (hb : m b = some (.cells c.toArray t (0, 0))) (ex : x = .slice (some ⟨b, o, none⟩) n capn) (ey : y = .slice y0 k ck) (hnews : ldS m y0 (min k n * size) = some news) (h1 : ∀ v ∈ news, v.oneCell' = true) (hl : o + news.length ≤ c.length)
    (hK : ∀ M, Fr m M [b] → Hq m0 M S (cellA b (.cells (c.take o ++ news ++ c.drop (o + news.length)).toArray t (0, 0)) :: L) → K (.int .i64 (min k n : Nat)) M) : cpyQ P size x y m K lk l1 l2 := by
  subst ex ey
  show ∃ cells, ldS m y0 (min k n * size) = some cells ∧ ∃ m', stCells m ⟨b, o, none⟩ 0 cells = some m' ∧ K _ m'
  refine ⟨news, hnews, _, stCells_row (t := t) news 0 m c hb (by simpa using hl) h1, ?_⟩
  rw [Nat.add_zero]
  refine wrQ0 (l := {}) (l' := {}) (x := .cells (c.take o ++ news ++ c.drop (o + news.length)).toArray t (0, 0)) (J := fun M => K (.int .i64 (min k n : Nat)) M) H fun M f H => hK M f H
theorem appnNew {P : Program} {t : TypeId} {size bytes : Nat} {zero old : List Value} {a : Option Addr} {i k cap : Nat} {kk : Int} {y : Value} {K : Value → Mem → Prop} {lk : Lk K}
    (H : Hq m0 m S L) (ey : y = .int .i64 kk) (hkk : kk = (k : Nat)) (hold : ldS m a (i * size) = some old) (hcap : cap < i + k) (hb : (i + k) * bytes ≤ 140737488355328) (h62 : i + k ≤ 4611686018427387904)
    (hK : ∀ c b M, i + k ≤ c → Fr m M [] → Hq m0 M S (cellA b (.cells (old ++ (List.replicate k zero).flatten ++ (List.replicate (c - (i + k)) zero).flatten).toArray t (0, 0)) :: L) → K (.slice (some ⟨b, 0, none⟩) (i + k) c) M) : xsP P (.appn t size bytes zero) [.slice a i cap, y] m K lk := by
  subst ey hkk
  show 0 ≤ ((k : Nat) : Int) ∧ ((k : Nat) : Int) * (bytes : Int) ≤ 281474976710656 ∧ appP size bytes zero t m K a i cap (List.replicate ((k : Nat) : Int).toNat zero).flatten ((k : Nat) : Int).toNat
  rw [Int.toNat_natCast]
  have hkb : k * bytes ≤ 140737488355328 := Nat.le_trans (Nat.mul_le_mul_right _ (by omega)) hb
  refine ⟨by omega, by rw [← Int.natCast_mul]; omega, hb, h62, fun h => by omega, fun _ => ⟨old, hold, fun c b hc hbn => ?_⟩⟩
  exact newQ (l := {}) (l' := {}) (J := fun b M => K (.slice (some ⟨b, 0, none⟩) (i + k) c) M) H (fun b M f H => hK c b M hc f H) b hbn
theorem ins_cells (c r X : List Value) (o : Nat) (hr : r.length = 3) (h : o + 3 + X.length ≤ c.length) :
    (c.take o ++ r ++ c.drop (o + r.length)).take (o + 3) ++ X ++ (c.take o ++ r ++ c.drop (o + r.length)).drop (o + 3 + X.length) = c.take o ++ r ++ X ++ c.drop (o + 3 + X.length) := by
  have ho : (c.take o ++ r).length = o + 3 := by rw [List.length_append, List.length_take, hr]; omega
  rw [hr, List.take_left' ho, List.drop_append, List.drop_eq_nil_of_le (by omega), List.nil_append, ho, List.drop_drop]
  congr 2; omega
theorem ins_cells2 (c r X : List Value) (o : Nat) (hr : r.length = 3) (h : o + 3 + X.length ≤ c.length) :
    (c.take (o + 3) ++ X ++ c.drop (o + 3 + X.length)).take o ++ r ++ (c.take (o + 3) ++ X ++ c.drop (o + 3 + X.length)).drop (o + r.length) = c.take o ++ r ++ X ++ c.drop (o + 3 + X.length) := by
  have ho : (c.take (o + 3)).length = o + 3 := by rw [List.length_take]; omega
  rw [hr, List.append_assoc (c.take (o + 3)), List.drop_left' ho, List.take_append_of_le_length (by omega), List.take_take, Nat.min_eq_left (by omega)]
  simp only [List.append_assoc]
theorem rd_ovl (s : Nat) (x y : Value) : rd (.ovl s) [x, y] m = ovQ m s x y := rfl
def insF {α : Type} (l : List α) (i : Nat) (x : α) : List α := l.take i ++ x :: l.drop i
theorem insF_end {α : Type} (l : List α) (x : α) : insF l l.length x = l ++ [x] := by simp [insF]
theorem insF_len {α : Type} (l : List α) (i : Nat) (x : α) (h : i ≤ l.length) : (insF l i x).length = l.length + 1 := by simp [insF]; omega
theorem insF_cells (rs : List Row) (i : Nat) (r : Row) (tail T : List Value) (h : i ≤ rs.length) : (rs.flatMap rowE ++ tail).take (i * 3) ++ rowE r ++ (rs.drop i).flatMap rowE ++ T = (insF rs i r).flatMap rowE ++ T := by
  have hfl : (rs.flatMap rowE).length = rs.length * 3 := fm_len rowE_len _
  rw [List.take_append_of_le_length (by omega), ← flat_take rowE_len, insF, List.flatMap_append, List.flatMap_cons, List.append_assoc (List.flatMap rowE (List.take i rs))]
theorem F2_ins {α β : Type} {R : α → β → Prop} {l : List α} {r : List β} (h : F2 R l r) (i : Nat) {x : α} {y : β} (hx : R x y) : F2 R (insF l i x) (insF r i y) := by
  induction h generalizing i with
  | nil => simp only [insF, List.take_nil, List.drop_nil]; exact .cons hx .nil
  | cons h1 h2 ih =>
    cases i with
    | zero => exact .cons hx (.cons h1 h2)
    | succ i => exact .cons h1 (ih i)
theorem bs_ins {fl : List Fl} {i : Nat} {r : Row} {f : Fl} (H : Hq m0 m S (bsA rs fl :: L)) (h1 : r.2.1 = .slice none 0 0) (h2 : f.b = []) (h3 : r.1 = f.name) (h4 : r.2.2 = f.kept) : Hq m0 m S (bsA (insF rs i r) (insF fl i f) :: L) := by
  have hR : RowOf m r f := ⟨h3, h4, by rw [h1, h2]; exact bytes_nil, by rw [h1]; simp [blkOf]⟩
  have e : ∀ b, b ∈ (insF rs i r).flatMap (fun r => blkOf r.2.1) → b ∈ rs.flatMap fun r => blkOf r.2.1 := fun b hb => by
    rw [insF, List.flatMap_append, List.flatMap_cons, h1] at hb
    rw [← List.take_append_drop i rs, List.flatMap_append]
    simpa [blkOf] using hb
  exact H.rep0 (A' := bsA (insF rs i r) (insF fl i f)) (F2_ins (H.at 0 rfl) i hR) (Fr.refl _ _) (fun b hb => .inl (e b hb)) (fun b hb => .inl (e b hb))
set_option maxHeartbeats 4000000 in
theorem insert_s (h : (drA fv rs).p m) {b0 : Nat} {T : TypeId} {r : Row} (hb0 : m b0 = some (.cells (rowE r).toArray T (0, 0))) (hne : b0 ∉ blkOf fv) (h1 : r.2.1.oneCell' = true) (hone : ∀ v ∈ rs.flatMap rowE, v.oneCell' = true) (i : Nat) (hi : i ≤ rs.length) (hn : rs.length ≤ 1000000) : CM Tryz.prog n_slices_Insert_disk_file_disk_file [fv, .int .i64 (i : Nat), .slice (some ⟨b0, 0, none⟩) 1 1] m (drA fv rs) fun u A => A = drA u (insF rs i r) := by
  refine slices_Insert_disk_file_disk_file_go (by simp [Tryz.f33]) ?_
  have H := Hq.one h
  have hw := one_rds hb0
  have hr1 : ∀ v ∈ rowE r, v.oneCell' = true := fun v hv => by
    simp only [rowE, List.mem_cons, List.not_mem_nil, or_false] at hv
    rcases hv with rfl | rfl | rfl
    · rfl
    · exact h1
    · rfl
  have hrds := Own.rds (k := 3) (enc := rowE) (by decide) rowE_len h
  rcases Nat.lt_or_eq_of_le hi with hlt | rfl
  · refine Own.rowK h (by omega) fun b cap tail ev hb hl => ?_
    subst ev
    have hnb : b0 ≠ b := fun e => hne (by simp [blkOf, e])
    have hfl : (rs.flatMap rowE).length = rs.length * 3 := fm_len rowE_len _
    have hfd : ((rs.drop i).flatMap rowE).length = (rs.length - i) * 3 := by rw [fm_len rowE_len]; simp
    have hcl : cap * 3 = rs.length * 3 + tail.length := by rw [← hl, List.length_append, hfl]
    have hcut : ∀ n c b' : Nat, i ≤ n → n ≤ c → i < c → cutS 3 (some ⟨b', 0, none⟩) c (i : Nat) (n : Nat) = some (.slice (some ⟨b', i * 3, none⟩) (n - i) (c - i)) := fun n c b' h1 h2 h3 => by
      unfold cutS
      rw [if_pos (by omega), Int.toNat_natCast, Int.toNat_natCast, if_neg (by omega)]
      simp [add_mk]
    have hcut1 : ∀ n c b' : Nat, i + 1 ≤ n → n ≤ c → i + 1 < c → cutS 3 (some ⟨b', 0, none⟩) c ((i : Nat) + ((1 : Nat) : Int)) (n : Nat) = some (.slice (some ⟨b', (i + 1) * 3, none⟩) (n - (i + 1)) (c - (i + 1))) := fun n c b' h1 h2 h3 => by
      unfold cutS
      rw [show ((i : Nat) : Int) + ((1 : Nat) : Int) = ((i + 1 : Nat) : Int) from rfl, if_pos (by omega), Int.toNat_natCast, Int.toNat_natCast, if_neg (by omega)]
      simp [add_mk]
    have hcut0 : cutS 3 (some ⟨b, 0, none⟩) cap 0 (i : Nat) = some (.slice (some ⟨b, 0, none⟩) i cap) := by
      unfold cutS
      rw [if_pos (by omega)]
      simp [add_mk]
    have hnd : (rs.drop i).length = rs.length - i := by simp
    have hXone : ∀ v ∈ (rs.drop i).flatMap rowE, v.oneCell' = true := fun v hv => hone v (by
      obtain ⟨r, hr, hx⟩ := List.mem_flatMap.1 hv
      exact List.mem_flatMap.2 ⟨r, List.mem_of_mem_drop hr, hx⟩)
    have hldX : ∀ M, RdS 3 rowE M (.slice (some ⟨b, 0, none⟩) rs.length cap) rs → ldS M (some ⟨b, i * 3, none⟩) ((rs.length - i) * 3) = some ((rs.drop i).flatMap rowE) := fun M hrM => by
      refine Exists.elim (hrM.cut (by decide) i rs.length (by omega) (Nat.le_refl _)) fun a' hh => Exists.elim hh fun c' hcr => ?_
      have hcb := hcr.1
      have hrb := hcr.2.1
      rw [hcut rs.length cap b (by omega) (by omega) (by omega)] at hcb
      have e : (some ⟨b, i * 3, none⟩ : Option Addr) = a' := by injection hcb with hcb; injection hcb
      subst e
      rw [List.take_length, ← hnd] at hrb
      have := ldS_of hrb
      rw [hnd] at this
      exact this
    have hcut2 : rs.length + 1 ≤ cap → cutS 3 (some ⟨b, 0, none⟩) cap 0 ((rs.length : Nat) + ((1 : Nat) : Int)) = some (.slice (some ⟨b, 0, none⟩) (rs.length + 1) cap) := fun hh => by
      unfold cutS
      rw [show ((rs.length : Nat) : Int) + ((1 : Nat) : Int) = ((rs.length + 1 : Nat) : Int) from rfl, if_pos (by omega), Int.toNat_natCast]
      simp [add_mk]
    have hz1 : ((1 : Nat) : Int) = 1 := rfl
    by_cases hcap : rs.length + 1 > cap
    · simp (disch := omega) only [go_sem, undef, rd_slc10, hcut rs.length cap b (by omega) (by omega) (by omega), dec_f (show ¬ ((i : Nat) : Int) = (rs.length : Nat) by omega), dec_t (show ((rs.length : Nat) : Int) + 1 > (cap : Nat) by omega), rd_slc01, hcut0]
      have e1 : i + (rs.length + 1 - i) = rs.length + 1 := by omega
      refine appnNew (k := rs.length + 1 - i) H rfl (by omega) (ldS_cell hb (n := i * 3) (by rw [List.length_append, hfl]; omega)) (by omega) (by omega) (by omega) fun c b1 M hc f H => ?_
      rw [e1] at H hc ⊢
      have hzl : ((List.replicate (rs.length + 1 - i) [Value.string ⟨#[]⟩, .slice none 0 0, .int .i64 0]).flatten).length = (rs.length + 1 - i) * 3 := by simp
      have hzl2 : ((List.replicate (c - (rs.length + 1)) [Value.string ⟨#[]⟩, .slice none 0 0, .int .i64 0]).flatten).length = (c - (rs.length + 1)) * 3 := by simp
      generalize (List.replicate (rs.length + 1 - i) [Value.string ⟨#[]⟩, .slice none 0 0, .int .i64 0]).flatten = z1 at H hzl
      generalize (List.replicate (c - (rs.length + 1)) [Value.string ⟨#[]⟩, .slice none 0 0, .int .i64 0]).flatten = z2 at H hzl2
      have htl : ((rs.flatMap rowE ++ tail).take (i * 3)).length = i * 3 := by rw [List.length_take, List.length_append, hfl]; omega
      have hC : (List.take (i * 3) (rs.flatMap rowE ++ tail) ++ z1 ++ z2).length = c * 3 := by simp only [List.length_append, htl, hzl, hzl2]; omega
      have hCt : (List.take (i * 3) (rs.flatMap rowE ++ tail) ++ z1 ++ z2).take (i * 3) = (rs.flatMap rowE ++ tail).take (i * 3) := by rw [List.append_assoc]; exact List.take_left' htl
      generalize List.take (i * 3) (rs.flatMap rowE ++ tail) ++ z1 ++ z2 = C0 at H hC hCt
      simp (disch := omega) only [go_sem, undef, rd_slc10, hcut (rs.length + 1) c b1 (by omega) (by omega) (by omega)]
      have hb0 := f.get hb0 (by simp)
      refine cpyIn (n := rs.length + 1 - i) (k := 1) (size := 3) H H.cs.1 rfl rfl (news := rowE r) (by rw [Nat.min_eq_left (by omega)]; exact ldS_cell hb0 (n := 1 * 3) (by simp [rowE])) hr1 (by rw [hC, rowE_len]; omega) fun M f2 H => ?_
      simp (disch := omega) only [go_sem, undef, rd_slc10, hcut1 (rs.length + 1) c b1 (by omega) (by omega) (by omega), hcut rs.length cap b (by omega) (by omega) (by omega)]
      have hrM := Own.rds (k := 3) (enc := rowE) (by decide) rowE_len (H.at 1 rfl)
      refine cpyIn (n := rs.length + 1 - (i + 1)) (k := rs.length - i) (size := 3) H H.cs.1 rfl rfl (news := (rs.drop i).flatMap rowE) (by rw [Nat.min_eq_left (by omega)]; exact hldX M hrM) hXone (by simp only [List.length_append, List.length_take, List.length_drop, hC, hfd, rowE_len]; omega) fun M f3 H => ?_
      simp (disch := omega) only [go_sem, undef]
      rw [show (i + 1) * 3 = i * 3 + 3 from by omega, ins_cells C0 (rowE r) _ (i * 3) rfl (by rw [hC, hfd]; omega), hCt, insF_cells rs i r tail _ (by omega)] at H
      have hil := insF_len rs i r (by omega)
      have hif : ((insF rs i r).flatMap rowE).length = (rs.length + 1) * 3 := by rw [fm_len rowE_len, hil]
      have H := Hq.ofCell (size := 3) (n := rs.length + 1) (cap := c) H hif (by rw [List.length_append, hif, List.length_drop, hC, hfd]; omega)
      rw [← hil] at H ⊢
      have H := H.perm (List.Perm.swap ..) |>.tail
      exact ⟨_, rfl, H.hs.1, H.fr, fun b hb => H.done.2.2 b hb, H.done.2.2⟩
    · have hcut2 := hcut2 (by omega)
      simp (disch := omega) only [go_sem, undef, rd_slc10, hcut rs.length cap b (by omega) (by omega) (by omega), dec_f (show ¬ ((i : Nat) : Int) = (rs.length : Nat) by omega), dec_f (show ¬ ((rs.length : Nat) : Int) + 1 > (cap : Nat) by omega), rd_slc01, hcut2, hcut1 (rs.length + 1) cap b (by omega) (by omega) (by omega)]
      have hov : rd (.ovl 3) [Value.slice (some ⟨b0, 0, none⟩) 1 1, .slice (some ⟨b, (i + 1) * 3, none⟩) (rs.length + 1 - (i + 1)) (cap - (i + 1))] m = some (.bool false) := by
        rw [rd_ovl]
        unfold ovQ
        simp only [plainB, hb0, hb]
        rw [if_neg (by omega), if_neg hnb]; rfl
      have H := Hq.toCell H hb
      have hXl : i * 3 + 3 + ((rs.drop i).flatMap rowE).length ≤ (rs.flatMap rowE ++ tail).length := by rw [hl, hfd]; omega
      simp (disch := omega) only [go_sem, undef, hov, rd_slc10, hcut (rs.length + 1) cap b (by omega) (by omega) (by omega), hcut1 (rs.length + 1) cap b (by omega) (by omega) (by omega)]
      refine cpyIn (n := rs.length + 1 - (i + 1)) (k := rs.length + 1 - i) (size := 3) H hb rfl rfl (news := (rs.drop i).flatMap rowE) (by rw [Nat.min_eq_right (by omega), show rs.length + 1 - (i + 1) = rs.length - i from by omega]; exact hldX m hrds) hXone (by rw [show (i + 1) * 3 = i * 3 + 3 from by omega]; exact hXl) fun M f H => ?_
      simp (disch := omega) only [go_sem, undef, rd_slc10, hcut (rs.length + 1) cap b (by omega) (by omega) (by omega)]
      have hb0 : M b0 = some (.cells (rowE r).toArray T (0, 0)) := by rw [f b0 (by rw [hb0]; simp) (by simpa using hnb)]; exact hb0
      refine cpyIn (n := rs.length + 1 - i) (k := 1) (size := 3) H H.cs.1 rfl rfl (news := rowE r) (by rw [Nat.min_eq_left (by omega)]; exact ldS_cell hb0 (n := 1 * 3) (by simp [rowE])) hr1 (by simp only [List.length_append, List.length_take, List.length_drop, hfl, hfd, rowE_len]; omega) fun M f3 H => ?_
      simp (disch := omega) only [go_sem, undef]
      rw [show (i + 1) * 3 = i * 3 + 3 from by omega, ins_cells2 _ (rowE r) _ (i * 3) rfl hXl, insF_cells rs i r tail _ (by omega)] at H
      have hil := insF_len rs i r (by omega)
      have hif : ((insF rs i r).flatMap rowE).length = (rs.length + 1) * 3 := by rw [fm_len rowE_len, hil]
      have H := Hq.ofCell (size := 3) (n := rs.length + 1) (cap := cap) H hif (by rw [List.length_append, hif, List.length_drop, hl, hfd]; omega)
      rw [← hil] at H ⊢
      exact ⟨_, rfl, H.hs.1, H.fr, fun b hb => H.done.2.2 b hb, H.done.2.2⟩
  · refine Own.formK h fun a2 c2 ev => ?_
    subst ev
    have hcut : ∃ z, cutS 3 a2 c2 (rs.length : Nat) (rs.length : Nat) = some z := by
      obtain ⟨_, _, h, _⟩ := hrds.cut (by decide) rs.length rs.length (Nat.le_refl _) (Nat.le_refl _)
      exact ⟨_, h⟩
    obtain ⟨z, hcut⟩ := hcut
    have hlr : ([r] : List Row).length = 1 := rfl
    simp (disch := omega) only [go_sem, undef, rd_slc10, hcut, hlr]
    refine appQ0 H (k := 1) rfl (ldS_of (l := [r]) hw) rfl (by simpa [rowE] using ⟨rfl, h1, rfl⟩) rfl (by omega) (by omega) fun w M f H => ?_
    simp (disch := omega) only [go_sem, undef]
    rw [drA_app, ← insF_end] at H
    exact ⟨_, rfl, H.hs.1, H.fr, fun b hb => H.done.2.2 b hb, H.done.2.2⟩
/-- what Append leaves: the file is there, or comes last -/
def apdF (nm p : Bs) (D : Dk) : Dk × Nat :=
  if D.off then (D, 10)
  else if (D.quota : Int) - (tot D.fl : Nat) < (p.length : Nat) then (D, 7)
  else if (powF D).2 ≠ 0 then powF D
  else ({ (powF D).1 with fl := if (findF nm D.fl 0).2 then D.fl.modify (findF nm D.fl 0).1 (fun f => { f with b := f.b ++ p }) else insF D.fl (findF nm D.fl 0).1 ⟨nm, p, 0⟩ }, 0)
theorem rows_one {m : Mem} {rs : List Row} {fl : List Fl} (h : F2 (RowOf m) rs fl) : ∀ v ∈ rs.flatMap rowE, v.oneCell' = true := by
  intro v hv
  obtain ⟨r, hr, hv⟩ := List.mem_flatMap.1 hv
  have h2 : F2 (fun x y => True ∧ x.2.1.oneCell' = true) rs fl := F2_imp h fun x _ y hy => ⟨trivial, one_of hy.2.2.1⟩
  have := F2_mem (Q := fun x => x.2.1.oneCell' = true) h2 r hr
  rcases List.mem_cons.1 hv with rfl | hv
  · rfl
  rcases List.mem_cons.1 hv with rfl | hv
  · exact this
  rcases List.mem_cons.1 hv with rfl | hv
  · rfl
  cases hv
theorem findF_le (nm : Bs) : ∀ (l : List Fl) (i : Nat), (findF nm l i).1 ≤ i + l.length
  | [], i => by simp [findF]
  | x :: r, i => by
    have := findF_le nm r (i + 1)
    unfold findF
    split
    · rw [List.length_cons]; omega
    · simp
set_option maxHeartbeats 8000000 in
theorem append_s (h : (dkA rb fv rs D).p m) (nm p : Bs) {pv : Value} (hpv : RdB m pv p) (hpn : ∀ b ∈ blkOf pv, b ∉ (dkA rb fv rs D).wp ∧ m b ≠ none) (hpl : p.length ≤ 500000000)
    (hnm : 0 < nm.length ∧ nm.length ≤ 24 ∧ ∀ x ∈ nm, 33 ≤ x.toNat ∧ x.toNat ≤ 126)
    (hn : D.fl.length ≤ 100000) (hl : D.left ≤ 9223372036854775807) (hT : tot D.fl ≤ 500000000) (hq : D.quota ≤ 500000000) :
    CM Tryz.prog n_disk_Disk_Append [lpD rb, .string (zb nm), pv] m (dkA rb fv rs D) (DkR rb (apdF nm p D).1 (.int .i64 ((apdF nm p D).2 : Nat))) := by
  have H := Hq.one h
  obtain ⟨a, c, rfl⟩ := hpv.form
  have hb := dk_cell h
  have hok := findF_ok nm D.fl 0
  have hle := findF_le nm D.fl 0
  have hf : ∀ (M : Mem) (D' : Dk), D'.fl = D.fl → (dkA rb fv rs D').p M → MC Tryz.prog n_disk_Disk_find [lpD rb, .string (zb nm)] M fun u M' => u = .tuple #[.int .i64 ((findF nm D.fl 0).1 : Nat), .bool (findF nm D.fl 0).2] ∧ Fr M M' [] := fun M D' hD h => by
    have := find_s h nm (by rw [hD]; omega)
    rw [hD] at this
    exact this
  have hpwr := fun M (h : (dkA rb fv rs D).p M) => power_s h hl
  have hpf := powF_fl D
  unfold apdF
  generalize findF nm D.fl 0 = q at *
  obtain ⟨i, ok⟩ := q
  generalize powF D = pd at *
  obtain ⟨D1, e1⟩ := pd
  by_cases ho : D.off = true
  · rw [if_pos ho]
    refine disk_Disk_Append_go (by simp [Tryz.f33]) ?_
    simp (disch := omega) only [go_sem, undef, hb, dkC, ho]
    exact cm_done H
  rw [if_neg ho]
  rw [Bool.not_eq_true] at ho
  by_cases hroom : (D.quota : Int) - (tot D.fl : Nat) < (p.length : Nat)
  · rw [if_pos hroom]
    refine disk_Disk_Append_go (by simp [Tryz.f33]) ?_
    simp (disch := omega) only [go_sem, undef, hb, dkC, ho]
    refine callQ H (may_s nm hnm.1 hnm.2.1 hnm.2.2) fun M f H => ?_
    simp (disch := omega) only [go_sem, undef]
    refine callQ H (room_s (H.at 0 rfl) (by omega) (by omega) (by omega)) fun M f2 H => ?_
    simp (disch := omega) only [go_sem, undef, dec_t (show ((p.length : Nat) : Int) > (D.quota : Int) - (tot D.fl : Nat) by omega)]
    exact cm_done H
  rw [if_neg hroom]
  by_cases he1 : e1 = 0
  rotate_left
  · rw [if_pos he1]
    refine disk_Disk_Append_go (by simp [Tryz.f33]) ?_
    simp (disch := omega) only [go_sem, undef, hb, dkC, ho]
    refine callQ H (may_s nm hnm.1 hnm.2.1 hnm.2.2) fun M f H => ?_
    simp (disch := omega) only [go_sem, undef]
    refine callQ H (room_s (H.at 0 rfl) (by omega) (by omega) (by omega)) fun M f2 H => ?_
    simp (disch := omega) only [go_sem, undef, dec_f (show ¬ ((p.length : Nat) : Int) > (D.quota : Int) - (tot D.fl : Nat) by omega)]
    refine callS0 (dkA rb fv rs D1) H (hpwr _ (H.at 0 rfl)) (by simp [dkA, starA, bsA]) (by simp [dkA, starA, bsA]) fun M f3 H => ?_
    simp (disch := omega) only [go_sem, undef, dec_t (show ((e1 : Nat) : Int) ≠ 0 by omega)]
    exact cm_done H
  subst he1
  rw [if_neg (by simp)]
  have hpf : D1.fl = D.fl := hpf
  refine disk_Disk_Append_go (by simp [Tryz.f33]) ?_
  simp (disch := omega) only [go_sem, undef, hb, dkC, ho]
  refine callQ H (may_s nm hnm.1 hnm.2.1 hnm.2.2) fun M f H => ?_
  simp (disch := omega) only [go_sem, undef]
  refine callQ H (room_s (H.at 0 rfl) (by omega) (by omega) (by omega)) fun M f2 H => ?_
  simp (disch := omega) only [go_sem, undef, dec_f (show ¬ ((p.length : Nat) : Int) > (D.quota : Int) - (tot D.fl : Nat) by omega)]
  refine callS0 (dkA rb fv rs D1) H (hpwr _ (H.at 0 rfl)) (by simp [dkA, starA, bsA]) (by simp [dkA, starA, bsA]) fun M f3 H => ?_
  simp (disch := omega) only [go_sem, undef]
  refine callQ H (hf _ _ hpf (H.at 0 rfl)) fun M f4 H => ?_
  have hpv0 := hpv
  have hpv : RdB M (.slice a p.length c) p := hpv.st fun b hb => H.fr b (hpn b hb).2 (hpn b hb).1
  clear f f2 f3 f4
  cases ok with
  | true =>
    obtain ⟨_, y, hfi, _⟩ := hok rfl
    rw [Nat.sub_zero] at hfi
    have hfi : D.fl[i]? = some y := hfi
    simp (disch := omega) only [go_sem, undef]
    · skip
      have hp := H.at 0 rfl
      have hb := dk_cell hp
      refine F2_at (i := i) (dk_row hp) (by rw [dk_len hp, hpf]; exact (List.getElem?_eq_some_iff.1 hfi).1) fun r y' hr1 hy' hR => ?_
      rw [hpf, hfi] at hy'
      cases hy'
      have hil := (List.getElem?_eq_some_iff.1 hr1).1
      refine Own.rowK ((H.open3).at 1 rfl) (by omega) fun b cap tail efv hbb hll => ?_
      subst efv
      have hE := RdS.elO (dk_rds hp) rfl hr1 (by decide)
      have hc := hE.cell 1 _ rfl
      refine Exists.elim hR.2.2.1.form fun a3 hh => Exists.elim hh fun c3 ev => ?_
      rw [ev] at hc
      have hRb := hR.2.2.1
      rw [ev] at hRb
      have hbl : y.b.length ≤ 500000000 := by
        have h1 := tot_take D.fl i y hfi
        have h2 := tot_le D.fl (i + 1)
        omega
      simp (disch := omega) only [go_sem, undef, hb, dkC, rd_ixs, hc]
      refine newQ H fun b2 M f2 H => ?_
      have hb := f2.get hb (by simp)
      simp (disch := omega) only [go_sem, undef, hb, dkC]
      refine callN H (concat_s (two_rds H.cs.1) (F2_two (hRb.frame f2) (hpv.frame f2)) (by simp) (by simp; omega)) fun u M A' eA f3 H => ?_
      subst eA
      have hb := f3.get hb (by simp)
      have eF : [y.b, p].flatten = y.b ++ p := by simp
      rw [eF] at H
      refine Own.formK (H.at 0 rfl) fun a4 c4 e4 => ?_
      subst e4
      rw [List.length_append] at H
      simp (disch := omega) only [go_sem, undef, hb, dkC, rd_ixs]
      have H := Hq.open3 ((H.drop 1).perm (List.Perm.swap ..))
      refine putFile (r' := (r.1, .slice a4 (y.b.length + p.length) c4, r.2.2)) H.rot3 hr1 (by decide) rfl fun M f H => ?_
      have H := bs_put (i := i) (r := r) (r' := (r.1, .slice a4 (y.b.length + p.length) c4, r.2.2)) (f' := { y with b := y.b ++ p }) H.rev4 rfl rfl hR.1 hR.2.1
      have e2 : D1.fl.set i { y with b := y.b ++ p } = D.fl.modify i fun f => { f with b := f.b ++ p } := by
        rw [hpf, modify_set hfi]
      rw [e2] at H
      have H := Hq.close3 (D := { D1 with fl := D.fl.modify i fun f => { f with b := f.b ++ p } }) H.rot3'.rot3'
      simp (disch := omega) only [go_sem, undef]
      exact cm_done H
  | false =>
    have hle : i ≤ D.fl.length := by simpa using hle
    have hlen := dk_len h
    have hil : i ≤ rs.length := by omega
    have hb := dk_cell (H.at 0 rfl)
    simp (disch := omega) only [go_sem, undef, hb, dkC]
    refine newQ H fun b0 M f0 H => ?_
    have hb := f0.get hb (by simp)
    have hw := H.cs.1
    have hdj : Apart (cellA b0 (.cells (rowE (nm, .slice none 0 0, 0)).toArray 87 (0, 0))) (dkA rb fv rs D1) := (List.pairwise_cons.1 H.dj).1 _ (List.mem_cons_self ..)
    have hnb0 : b0 ∉ blkOf fv := fun hx => hdj.2 b0 (by simp [dkA, starA, hx]) (by simp)
    have H := Hq.open3 (H.perm (List.Perm.swap ..))
    simp (disch := omega) only [go_sem, undef, hb, dkC]
    refine callA 1 H (insert_s (H.at 1 rfl) (r := (nm, .slice none 0 0, 0)) hw hnb0 rfl (rows_one (H.at 2 rfl)) i hil (by omega)) rfl fun u M A' eA f1 H => ?_
    subst eA
    simp only [List.set_cons_succ, List.set_cons_zero] at H
    refine Own.formK (H.at 1 rfl) fun a5 c5 e5 => ?_
    subst e5
    have e6 := insF_len rs i (nm, .slice none 0 0, 0) hil
    rw [e6] at H
    have hb := H.cs.1
    simp (disch := omega) only [go_sem, undef, hb, dkC, e6]
    refine wrQ0 H fun M f2 H => ?_
    have H := bs_ins (i := i) (r := ((nm, .slice none 0 0, 0) : Row)) (f := ⟨nm, [], 0⟩) (H.drop 3).rot3' rfl rfl rfl rfl
    rw [hpf] at H
    have H := Hq.kd (l := dkC (.slice a5 (rs.length + 1) c5) D1) (D := { D1 with fl := insF D.fl i ⟨nm, [], 0⟩ }) { D1 with fl := insF D.fl i ⟨nm, [], 0⟩ } H.rot3'.rot3' rfl rfl
    have hpv : RdB M (.slice a p.length c) p := hpv0.st fun b hb => H.fr b (hpn b hb).2 (hpn b hb).1
    have hfi : (insF D.fl i (⟨nm, [], 0⟩ : Fl))[i]? = some ⟨nm, [], 0⟩ := by
      rw [insF, List.getElem?_append_right (by rw [List.length_take]; omega), List.length_take, Nat.min_eq_left hle, Nat.sub_self]; rfl
    have hp := H.at 0 rfl
    have hb := dk_cell hp
    refine F2_at (i := i) (dk_row hp) (by rw [e6]; omega) fun r y' hr1 hy' hR => ?_
    rw [hfi] at hy'
    cases hy'
    refine Own.rowK ((H.open3).at 1 rfl) (by rw [e6]; omega) fun b cap tail efv hbb hll => ?_
    rw [e6] at efv
    cases efv
    have hE := RdS.elO (dk_rds hp) (by rw [e6]) hr1 (by decide)
    have hc := hE.cell 1 _ rfl
    refine Exists.elim hR.2.2.1.form fun a3 hh => Exists.elim hh fun c3 ev => ?_
    rw [ev] at hc
    have hRb := hR.2.2.1
    rw [ev] at hRb
    have hil2 : i < rs.length + 1 := by omega
    simp (disch := omega) only [go_sem, undef, hb, dkC, rd_ixs, hc]
    refine newQ H fun b2 M f2 H => ?_
    have hb := f2.get hb (by simp)
    simp (disch := omega) only [go_sem, undef, hb, dkC]
    refine callN H (concat_s (ls := [[], p]) (two_rds H.cs.1) (F2_two (hRb.frame f2) (hpv.frame f2)) (by simp) (by simp; omega)) fun u M A' eA f3 H => ?_
    subst eA
    have hb := f3.get hb (by simp)
    have eF : [([] : Bs), p].flatten = p := by simp
    rw [eF] at H
    refine Own.formK (H.at 0 rfl) fun a4 c4 e4 => ?_
    subst e4
    simp (disch := omega) only [go_sem, undef, hb, dkC, rd_ixs]
    have H := Hq.open3 ((H.drop 1).perm (List.Perm.swap ..))
    refine putFile (r' := (r.1, .slice a4 p.length c4, r.2.2)) H.rot3 hr1 (by decide) rfl fun M f H => ?_
    have H := bs_put (i := i) (r := r) (r' := (r.1, .slice a4 p.length c4, r.2.2)) (f' := ⟨nm, p, 0⟩) H.rev4 rfl rfl hR.1 hR.2.1
    have e2 : (insF D.fl i (⟨nm, [], 0⟩ : Fl)).set i ⟨nm, p, 0⟩ = insF D.fl i ⟨nm, p, 0⟩ := by
      rw [insF, insF, List.set_append_right _ _ (by rw [List.length_take]; omega), List.length_take, Nat.min_eq_left hle, Nat.sub_self]; rfl
    rw [e2] at H
    have H := Hq.close3 (D := { D1 with fl := insF D.fl i ⟨nm, p, 0⟩ }) H.rot3'.rot3'
    simp (disch := omega) only [go_sem, undef]
    exact cm_done H
end Go.Fw
namespace Go.Fw
open Go.Proofs
variable {m m0 M : Mem} {S : List Nat} {L : List As}
variable {rb : Nat} {fv : Value} {rs : List Row} {D : Dk}
/-- appended where there is room: the same block -/
theorem appIn {P : Program} {t : TypeId} {size bytes : Nat} {zero : List Value} {y : Value} {K : Value → Mem → Prop} {lk : Lk K} {b n k cap : Nat} {l1 : Lk (Value.slice (some ⟨b, 0, none⟩) n cap)} {l2 : Lk m} {c2 : Nat} {y0 : Option Addr} {news c : List Value}
    (H : Hq m0 m S (cellA b (.cells c.toArray t (0, 0)) :: L)) (hb : m b = some (.cells c.toArray t (0, 0))) (hy : y = .slice y0 k c2) (hnews : ldS m y0 (k * size) = some news) (hk : news.length = k * size) (h1 : ∀ v ∈ news, v.oneCell' = true)
    (hroom : n + k ≤ cap) (hl : (n + k) * size ≤ c.length) (hbb : (n + k) * bytes ≤ 140737488355328) (h62 : n + k ≤ 4611686018427387904)
    (hK : ∀ M, Fr m M [b] → Hq m0 M S (cellA b (.cells (c.take (n * size) ++ news ++ c.drop (n * size + news.length)).toArray t (0, 0)) :: L) → K (.slice (some ⟨b, 0, none⟩) (n + k) cap) M) : appQ P t size bytes zero (.slice (some ⟨b, 0, none⟩) n cap) y m K lk l1 l2 := by
  subst hy
  refine ⟨news, hnews, hbb, h62, fun _ => ⟨_, stCells_row (t := t) news (n * size) m c hb (by rw [hk, Nat.zero_add, ← Nat.add_mul]; exact hl) h1, ?_⟩, fun h => by omega⟩
  rw [Nat.zero_add]
  refine wrQ0 (l := {}) (l' := {}) (x := .cells (c.take (n * size) ++ news ++ c.drop (n * size + news.length)).toArray t (0, 0)) (J := fun M => K (.slice (some ⟨b, 0, none⟩) (n + k) cap) M) H fun M f H => hK M f H
theorem clrIn {P : Program} {t : TypeId} {zero : List Value} {K : Value → Mem → Prop} {lk : Lk K} {b o n cap : Nat} {c : List Value}
    (H : Hq m0 m S (cellA b (.cells c.toArray t (0, 0)) :: L)) (hb : m b = some (.cells c.toArray t (0, 0))) (h1 : ∀ v ∈ (List.replicate n zero).flatten, v.oneCell' = true) (hl : o + (List.replicate n zero).flatten.length ≤ c.length)
    (hK : ∀ M, Fr m M [b] → Hq m0 M S (cellA b (.cells (c.take o ++ (List.replicate n zero).flatten ++ c.drop (o + (List.replicate n zero).flatten.length)).toArray t (0, 0)) :: L) → K (.tuple #[]) M) : xsP P (.clr zero) [.slice (some ⟨b, o, none⟩) n cap] m K lk := by
  show ∃ m', stCells m ⟨b, o, none⟩ 0 (List.replicate n zero).flatten = some m' ∧ K (.tuple #[]) m'
  refine ⟨_, stCells_row (t := t) _ 0 m c hb (by simpa using hl) h1, ?_⟩
  rw [Nat.add_zero]
  refine wrQ0 (l := {}) (l' := {}) (x := .cells (c.take o ++ (List.replicate n zero).flatten ++ c.drop (o + (List.replicate n zero).flatten.length)).toArray t (0, 0)) (J := fun M => K (.tuple #[]) M) H fun M f H => hK M f H
set_option maxHeartbeats 4000000 in
theorem delete_s (h : (drA fv rs).p m) (h1 : ∀ v ∈ rs.flatMap rowE, v.oneCell' = true) (i : Nat) (hi : i < rs.length) (hn : rs.length ≤ 1000000) : CM Tryz.prog n_slices_Delete_disk_file_disk_file [fv, .int .i64 (i : Nat), .int .i64 ((i + 1 : Nat) : Int)] m (drA fv rs) fun u A => A = drA u (rs.eraseIdx i) := by
  refine slices_Delete_disk_file_disk_file_go (by simp [Tryz.f33]) ?_
  have H := Hq.one h
  refine Own.rowK h (by omega) fun b cap tail ev hb hl => ?_
  subst ev
  have hr := Own.rds (k := 3) (enc := rowE) (by decide) rowE_len h
  have hcap : rs.length ≤ cap := by
    rw [List.length_append, fm_len rowE_len] at hl; omega
  have h3 : ∃ z, ∀ M, rd (.slc3 3 true) [.slice (some ⟨b, 0, none⟩) rs.length cap, .int .i64 (i : Nat), .int .i64 ((i + 1 : Nat) : Int), .int .i64 (rs.length : Nat)] M = some z := by
    have hz : ∃ z, cut3 3 (some ⟨b, 0, none⟩) cap (i : Nat) ((i + 1 : Nat) : Int) (rs.length : Nat) = some z := by
      unfold cut3
      rw [if_pos (by omega)]
      exact ⟨_, rfl⟩
    exact ⟨hz.choose, fun M => hz.choose_spec⟩
  obtain ⟨z, h3⟩ := h3
  have hca : cutS 3 (some ⟨b, 0, none⟩) cap 0 (i : Nat) = some (.slice (some ⟨b, 0, none⟩) i cap) := by
    unfold cutS
    rw [if_pos (by omega)]
    simp [add_mk]
  obtain ⟨a', c', hcb, hrb, _⟩ := hr.cut (by decide) (i + 1) rs.length (by omega) (Nat.le_refl _)
  rw [List.take_length] at hrb
  have hdl : (rs.drop (i + 1)).length = rs.length - (i + 1) := by simp
  rw [← hdl] at hcb hrb
  have hold := ldS_of hrb
  have hfl : (rs.flatMap rowE).length = rs.length * 3 := fm_len rowE_len _
  have hfd : ((rs.drop (i + 1)).flatMap rowE).length = (rs.drop (i + 1)).length * 3 := fm_len rowE_len _
  simp (disch := omega) only [go_sem, undef, h3, dec_f (show ¬ ((i : Nat) : Int) = ((i + 1 : Nat) : Int) by omega), rd_slc01, rd_slc10, hca, hcb]
  have hcap2 : cap * 3 = rs.length * 3 + tail.length := by rw [← hl, List.length_append, hfl]
  refine appIn (Hq.toCell H hb) hb rfl hold hfd (fun v hv => h1 v (by
    obtain ⟨r, hr, hx⟩ := List.mem_flatMap.1 hv
    exact List.mem_flatMap.2 ⟨r, List.mem_of_mem_drop hr, hx⟩)) (by omega) (by rw [List.length_append, hfl]; omega) (by omega) (by omega) fun M f H => ?_
  have hk : i + (rs.drop (i + 1)).length = rs.length - 1 := by omega
  have hcc : cutS 3 (some ⟨b, 0, none⟩) cap ((rs.length - 1 : Nat) : Int) (rs.length : Nat) = some (.slice (some ⟨b, (rs.length - 1) * 3, none⟩) 1 (cap - (rs.length - 1))) := by
    unfold cutS
    rw [if_pos (by omega), Int.toNat_natCast, Int.toNat_natCast, if_neg (by omega), show rs.length - (rs.length - 1) = 1 from by omega]
    simp [add_mk]
  rw [hk]
  have hcell : (rs.flatMap rowE ++ tail).take (i * 3) ++ (rs.drop (i + 1)).flatMap rowE ++ (rs.flatMap rowE ++ tail).drop (i * 3 + ((rs.drop (i + 1)).flatMap rowE).length) = (rs.eraseIdx i).flatMap rowE ++ (rs.flatMap rowE ++ tail).drop ((rs.length - 1) * 3) := by
    have e1 : (rs.flatMap rowE ++ tail).take (i * 3) = (rs.take i).flatMap rowE := by
      rw [List.take_append_of_le_length (by omega), flat_take rowE_len]
    rw [e1, hfd, List.eraseIdx_eq_take_drop_succ, List.flatMap_append, ← Nat.add_mul, hk]
  rw [hcell] at H
  have hel : (rs.eraseIdx i).length = rs.length - 1 := List.length_eraseIdx_of_lt hi
  have hef : ((rs.eraseIdx i).flatMap rowE).length = (rs.length - 1) * 3 := by rw [fm_len rowE_len, hel]
  generalize hT : (rs.flatMap rowE ++ tail).drop ((rs.length - 1) * 3) = T2 at H
  have hTl : T2.length = cap * 3 - (rs.length - 1) * 3 := by rw [← hT, List.length_drop, hl]
  simp (disch := omega) only [go_sem, undef, rd_slc11, hcc]
  refine clrIn H H.cs.1 (by decide) (by rw [List.length_append, hef]; simp; omega) fun M f2 H => ?_
  simp (disch := omega) only [go_sem, undef]
  rw [← hef, List.take_left] at H
  rw [List.append_assoc] at H
  have H := Hq.ofCell (size := 3) (n := rs.length - 1) (cap := cap) H hef (by simp only [List.length_append, List.length_drop, hef, hTl, List.length_flatten]; simp; omega)
  rw [← hel] at H ⊢
  exact ⟨_, rfl, H.hs.1, H.fr, fun b hb => H.done.2.2 b hb, H.done.2.2⟩
end Go.Fw
namespace Go.Fw
open Go.Proofs
variable {m m0 M : Mem} {S : List Nat} {L : List As}
variable {rb : Nat} {fv : Value} {rs : List Row} {D : Dk}
theorem F2_erase {α β : Type} {R : α → β → Prop} {l : List α} {r : List β} (h : F2 R l r) (i : Nat) : F2 R (l.eraseIdx i) (r.eraseIdx i) := by
  induction h generalizing i with
  | nil => exact .nil
  | cons h1 h2 ih =>
    cases i with
    | zero => exact h2
    | succ i => exact .cons h1 (ih i)
theorem bs_erase {i : Nat} {fl : List Fl} (H : Hq m0 m S (bsA rs fl :: L)) : Hq m0 m S (bsA (rs.eraseIdx i) (fl.eraseIdx i) :: L) := by
  have hsub : ∀ b, b ∈ (rs.eraseIdx i).flatMap (fun r => blkOf r.2.1) → b ∈ rs.flatMap fun r => blkOf r.2.1 := by
    intro b hb
    obtain ⟨r, hr, hx⟩ := List.mem_flatMap.1 hb
    exact List.mem_flatMap.2 ⟨r, (List.eraseIdx_sublist ..).subset hr, hx⟩
  exact H.rep0 (A' := bsA (rs.eraseIdx i) (fl.eraseIdx i)) (F2_erase (H.at 0 rfl) i) (Fr.refl _ _) (fun b hb => .inl (hsub b hb)) (fun b hb => .inl (hsub b hb))
def rmF (nm : Bs) (D : Dk) : Dk × Nat :=
  if (knownF nm D).2 ≠ 0 then (D, (knownF nm D).2) else if (powF D).2 ≠ 0 then powF D else ({ (powF D).1 with fl := D.fl.eraseIdx (knownF nm D).1 }, 0)
set_option maxHeartbeats 8000000 in
theorem remove_s (h : (dkA rb fv rs D).p m) (nm : Bs) (hn : D.fl.length ≤ 100000) (hl : D.left ≤ 9223372036854775807) : CM Tryz.prog n_disk_Disk_Remove [lpD rb, .string (zb nm)] m (dkA rb fv rs D) (DkR rb (rmF nm D).1 (.int .i64 ((rmF nm D).2 : Nat))) := by
  have H := Hq.one h
  have hk := known_s h nm (by omega)
  have hat := known_at nm D
  have hps := fun M (h : (dkA rb fv rs D).p M) => power_s h hl
  have hpf := powF_fl D
  unfold rmF
  generalize knownF nm D = q at *
  obtain ⟨i, e⟩ := q
  generalize powF D = pd at *
  obtain ⟨D1, e1⟩ := pd
  by_cases he : e = 0
  · subst he
    rw [if_neg (by simp)]
    by_cases he1 : e1 = 0
    · subst he1
      rw [if_neg (by simp)]
      obtain ⟨y, hy, hyn⟩ := hat rfl
      have hy : D.fl[i]? = some y := hy
      have hpf : D1.fl = D.fl := hpf
      have hi := (List.getElem?_eq_some_iff.1 hy).1
      refine disk_Disk_Remove_go (by simp [Tryz.f33]) ?_
      simp (disch := omega) only [go_sem, undef]
      refine callQ H hk fun M f H => ?_
      simp (disch := omega) only [go_sem, undef]
      refine callS0 (dkA rb fv rs D1) H (hps _ (H.at 0 rfl)) (by simp [dkA, starA, bsA]) (by simp [dkA, starA, bsA]) fun M f H => ?_
      have hp := H.at 0 rfl
      have hb := dk_cell hp
      have hlen := dk_len hp
      rw [hpf] at hlen
      have H := H.open3
      simp (disch := omega) only [go_sem, undef, hb, dkC]
      refine callA 1 H (delete_s (H.at 1 rfl) (rows_one (H.at 2 rfl)) i (by omega) (by omega)) rfl fun u M A' eA f1 H => ?_
      subst eA
      simp only [List.set_cons_succ, List.set_cons_zero] at H
      refine Own.formK (H.at 1 rfl) fun a5 c5 e5 => ?_
      subst e5
      have hb := H.cs.1
      have hel : (rs.eraseIdx i).length = rs.length - 1 := List.length_eraseIdx_of_lt (by omega)
      rw [hel] at H
      simp (disch := omega) only [go_sem, undef, hb, dkC, hel]
      refine wrQ0 H fun M f2 H => ?_
      have H := bs_erase (i := i) H.rot3'
      rw [hpf] at H
      have H := Hq.kd (l := dkC (.slice a5 (rs.length - 1) c5) D1) (D := { D1 with fl := D.fl.eraseIdx i }) { D1 with fl := D.fl.eraseIdx i } H.rot3'.rot3' rfl rfl
      simp (disch := omega) only [go_sem, undef]
      exact cm_done H
    · rw [if_pos he1]
      refine disk_Disk_Remove_go (by simp [Tryz.f33]) ?_
      simp (disch := omega) only [go_sem, undef]
      refine callQ H hk fun M f H => ?_
      simp (disch := omega) only [go_sem, undef]
      refine callS0 (dkA rb fv rs D1) H (hps _ (H.at 0 rfl)) (by simp [dkA, starA, bsA]) (by simp [dkA, starA, bsA]) fun M f H => ?_
      simp (disch := omega) only [go_sem, undef, dec_f (show ¬ ((e1 : Nat) : Int) = 0 by omega)]
      exact cm_done H
  · rw [if_pos he]
    refine disk_Disk_Remove_go (by simp [Tryz.f33]) ?_
    simp (disch := omega) only [go_sem, undef]
    refine callQ H hk fun M f H => ?_
    simp (disch := omega) only [go_sem, undef, dec_f (show ¬ ((e : Nat) : Int) = 0 by omega)]
    exact cm_done H
end Go.Fw
namespace Go.Fw
open Go.Proofs
variable {m m0 M : Mem} {S : List Nat} {L : List As}
theorem frs_snoc (l : List Bs) (p : Bs) : frs (l ++ [p]) = frs l ++ frB p := by simp [frs]
theorem frs_len (l : List Bs) : (frs l).length = l.flatten.length + 6 * l.length := by
  induction l with
  | nil => rfl
  | cons x r ih =>
    have : (frs (x :: r)).length = (frB x).length + (frs r).length := by simp [frs]
    rw [this, frB_len, ih, List.flatten_cons, List.length_append, List.length_cons]; omega
set_option maxHeartbeats 4000000 in
/-- all records may stand: their frames come behind -/
theorem frames_s {v0 lv : Value} {l0 : Bs} {vs : List Value} {ls : List Bs} (h0 : RdB m v0 l0) (h0n : ∀ b ∈ blkOf v0, m b ≠ none) (hv : RdS 1 v1 m lv vs) (hF : F2 (fun v l => RdB m v l) vs ls) (hok : ∀ p ∈ ls, okR p) (hl : vs.length ≤ 1000000) (hl0 : l0.length ≤ 1000000) (hT : ls.flatten.length ≤ 100000000) :
    MC Tryz.prog n_wal_frames [v0, lv] m fun u M => (∃ w, u = .tuple #[w, .bool true] ∧ RdB M w (l0 ++ frs ls) ∧ ∀ b ∈ blkOf w, M b ≠ none ∧ (b ∈ blkOf v0 ∨ m b = none)) ∧ Fr m M [] := by
  refine wal_frames_go (by simp [Tryz.f33]) ?_
  have hvl := F2_len hF
  obtain ⟨a, c, rfl⟩ := hv.form
  simp (disch := omega) only [go_sem, undef]
  refine loopQ_intro (fun k E m' => ∃ j w, j ≤ vs.length ∧ k = vs.length - j ∧ E = [(0, w), (8, .slice a vs.length c), (9, .int .i64 (vs.length : Nat)), (10, .int .i64 (j : Nat))] ∧ RdB m' w (l0 ++ frs (ls.take j)) ∧ (∀ b ∈ blkOf w, m' b ≠ none ∧ (b ∈ blkOf v0 ∨ m b = none)) ∧ Fr m m' []) vs.length rfl ⟨0, v0, by omega, by omega, rfl, by simpa [frs] using h0, fun b hb => ⟨h0n b hb, .inl hb⟩, Fr.refl _ _⟩ ?_
  rintro k E M1 ⟨j, w, hj, rfl, rfl, hw, hwb, f⟩
  have H : Hq m M1 [] [] := (Hq.refl m []).keep f
  simp (disch := omega) only [go_sem, undef]
  refine condB_dec (fun hlt => ?_) (fun hlt => ?_)
  · have hlt : j < vs.length := by omega
    refine F2_at hF hlt fun r y hr1 hy hR => ?_
    refine RdS.elK (hv.frame f) hlt (by decide) fun bx o r' hr' hix hE => ?_
    rw [hr1] at hr'
    cases hr'
    have hyo := hok y (List.mem_of_getElem? hy)
    have hyp := hyo.1
    have hyq := hyo.2
    have hR := hR.frame f
    refine Exists.elim hR.form fun a3 hh => Exists.elim hh fun c3 ev => ?_
    subst ev
    have ht0 := flat_le ls j
    have hfl := frs_len (ls.take j)
    have htl : (ls.take j).length ≤ 1000000 := by rw [List.length_take]; omega
    have hsn : frs (ls.take (j + 1)) = frs (ls.take j) ++ frB y := by rw [List.take_add_one, hy, Option.toList_some, frs_snoc]
    have hfo : frO y = frB y := if_pos hyo
    have hlen : (l0 ++ frs (ls.take j)).length ≤ 549755813888 := by rw [List.length_append, hfl]; omega
    simp (disch := omega) only [go_sem, undef, hix, hE.ld0, dec_f (show ¬ ((y.length : Nat) : Int) = 0 by omega), dec_f (show ¬ ((y.length : Nat) : Int) > 16384 by omega)]
    refine callN H (frame_Put_s hw hR hlen (by omega)) fun u M A' eA f2 H => ?_
    subst eA
    rw [hfo, List.append_assoc, ← hsn] at H
    simp (disch := omega) only [go_sem, undef]
    refine handN_intro (vs.length - (j + 1)) (by omega) ⟨j + 1, u, by omega, rfl, rfl, byA_rd (H.at 0 rfl), fun b hb => ⟨(H.at 0 rfl).there b hb, .inr ((H.done.2.2 b hb).resolve_left (by simp))⟩, H.fr⟩
  · have e : j = vs.length := by omega
    subst e
    rw [hvl, List.take_length] at hw
    simp (disch := omega) only [go_sem, undef]
    exact ⟨⟨_, rfl, hw, hwb⟩, f⟩
end Go.Fw
namespace Go.Fw
open Go.Proofs
variable {m m0 M : Mem} {S : List Nat} {L : List As}
variable {rb wb : Nat} {fv : Value} {rs : List Row} {D : Dk}
/-! the log: a block of four cells, and its disk -/
structure Wl where
  g : Nat
  k : Nat
  down : Bool
abbrev T_wal : TypeId := 97
def wlC (rb : Nat) (W : Wl) : List Value := [lpD rb, .int .i64 (W.g : Nat), .int .i64 (W.k : Nat), .bool W.down]
abbrev wcA (wb rb : Nat) (W : Wl) : As := cellA wb (.cells (wlC rb W).toArray T_wal (0, 0))
def wlA (wb rb : Nat) (fv : Value) (rs : List Row) (W : Wl) (D : Dk) : As := starA (wcA wb rb W) (dkA rb fv rs D)
theorem where_s {W : Wl} (h : m wb = some (.cells (wlC rb W).toArray T_wal (0, 0))) : MC Tryz.prog n_wal_Wal_Where [lpD wb] m fun u M => u = .tuple #[.int .i64 (W.g : Nat), .int .i64 (W.k : Nat)] ∧ Fr m M [] := by
  refine wal_Wal_Where_go (by simp [Tryz.f33]) ?_
  simp (disch := omega) only [go_sem, undef, h, wlC]
  exact ⟨rfl, Fr.refl _ _⟩
/-- a log comes out of a log -/
def WlR (wb rb : Nat) (W' : Wl) (D' : Dk) (V u : Value) (A : As) : Prop := u = V ∧ ∃ fv rs, A = wlA wb rb fv rs W' D'
theorem wl_fw {W : Wl} : (wlA wb rb fv rs W D).fp = (wlA wb rb fv rs W D).wp := by simp [wlA, dkA, starA, bsA]
theorem wl_done {W W' : Wl} {fv' : Value} {rs' : List Row} {D' : Dk} {V : Value} (H : Hq m M (wlA wb rb fv rs W D).wp [wlA wb rb fv' rs' W' D']) :
    ∃ A', WlR wb rb W' D' V V A' ∧ A'.p M ∧ Fr m M (wlA wb rb fv rs W D).wp ∧ (∀ b ∈ A'.fp, b ∈ (wlA wb rb fv rs W D).fp ∨ m b = none) ∧ ∀ b ∈ A'.wp, b ∈ (wlA wb rb fv rs W D).wp ∨ m b = none :=
  ⟨_, ⟨rfl, _, _, rfl⟩, H.hs.1, H.fr, fun b hb => by rw [wl_fw]; rw [wl_fw] at hb; exact H.done.2.2 b hb, H.done.2.2⟩
theorem tot_modify (l : List Fl) (i : Nat) (p : Bs) : tot (l.modify i fun f => { f with b := f.b ++ p }) ≤ tot l + p.length := by
  induction l generalizing i with
  | nil => simp [tot]
  | cons x r ih =>
    cases i with
    | zero => simp [tot]; omega
    | succ i =>
      have := ih i
      simp only [tot, List.modify_succ_cons, List.map_cons, List.sum_cons] at *
      omega
theorem tot_ins (l : List Fl) (i : Nat) (x : Fl) : tot (insF l i x) = tot l + x.b.length := by
  have := tot_app (l.take i) (l.drop i)
  rw [List.take_append_drop] at this
  rw [insF, tot_app, this]
  simp [tot]; omega
theorem powF_le (D : Dk) : (powF D).1.left ≤ D.left ∧ (powF D).1.quota = D.quota ∧ ((powF D).2 = 0 ∨ (powF D).2 = 10) := by
  unfold powF
  split
  · split
    · exact ⟨Nat.le_refl _, rfl, .inr rfl⟩
    · exact ⟨Nat.sub_le _ _, rfl, .inl rfl⟩
  · exact ⟨Nat.le_refl _, rfl, .inl rfl⟩
theorem apd_ok (nm p : Bs) (D : Dk) : (apdF nm p D).1.fl.length ≤ D.fl.length + 1 ∧ tot (apdF nm p D).1.fl ≤ tot D.fl + p.length ∧ (apdF nm p D).1.left ≤ D.left ∧ (apdF nm p D).1.quota = D.quota := by
  have h1 := powF_le D
  have h2 := powF_fl D
  unfold apdF
  split
  · exact ⟨by simp, by simp, by simp, rfl⟩
  split
  · exact ⟨by simp, by simp, by simp, rfl⟩
  split
  · rw [h2]; exact ⟨by simp, by simp, h1.1, h1.2.1⟩
  · refine ⟨?_, ?_, h1.1, h1.2.1⟩
    · simp only
      split
      · simp
      · rw [insF_len _ _ _ (by simpa using findF_le nm D.fl 0)]; omega
    · simp only
      split
      · exact tot_modify _ _ _
      · rw [tot_ins]; exact Nat.le_refl _
/-- what write leaves -/
def wrF (nm p : Bs) (W : Wl) (D : Dk) : Wl × Dk × Nat :=
  if (apdF nm p D).2 = 7 then (W, (apdF nm p D).1, 7)
  else if (apdF nm p D).2 = 0 then ({ W with down := (syncF nm (apdF nm p D).1).2 ≠ 0 }, syncF nm (apdF nm p D).1)
  else ({ W with down := true }, apdF nm p D)
set_option maxHeartbeats 8000000 in
theorem write_s {W : Wl} (h : (wlA wb rb fv rs W D).p m) (g k : Nat) (hg : g < 100) (hk : k < 100) (p : Bs) {pv : Value} (hpv : RdB m pv p) (hpn : ∀ b ∈ blkOf pv, b ∉ (wlA wb rb fv rs W D).wp ∧ m b ≠ none) (hpl : p.length ≤ 200000000)
    (hn : D.fl.length ≤ 90000) (hl : D.left ≤ 9223372036854775807) (hT : tot D.fl ≤ 200000000) (hq : D.quota ≤ 500000000) :
    CM Tryz.prog n_wal_Wal_write [lpD wb, .agg #[.int .i64 (g : Int), .int .i64 (k : Int)], pv] m (wlA wb rb fv rs W D) (WlR wb rb (wrF (nmB g k) p W D).1 (wrF (nmB g k) p W D).2.1 (.int .i64 ((wrF (nmB g k) p W D).2.2 : Nat))) := by
  have H := (Hq.one h).split
  have hab := apd_ok (nmB g k) p D
  have happ := fun M fv rs (h : (dkA rb fv rs D).p M) (pv : Value) (hpv : RdB M pv p) (hpn) => append_s h (nmB g k) p hpv hpn (by omega) (nm_may g k hg hk) (by omega) hl (by omega) hq
  unfold wrF
  generalize apdF (nmB g k) p D = ra at *
  obtain ⟨D1, e1⟩ := ra
  obtain ⟨hn1, hT1, hl1, _⟩ := hab
  have hn1 : D1.fl.length ≤ D.fl.length + 1 := hn1
  have hT1 : tot D1.fl ≤ tot D.fl + p.length := hT1
  have hl1 : D1.left ≤ D.left := hl1
  have hsy := fun M fv rs (h : (dkA rb fv rs D1).p M) => sync_s h (nmB g k) (by omega) (by omega) (by omega)
  generalize syncF (nmB g k) D1 = rsy at *
  obtain ⟨D2, e2⟩ := rsy
  refine wal_Wal_write_go (by simp [Tryz.f33]) ?_
  obtain ⟨a, c, rfl⟩ := hpv.form
  simp (disch := omega) only [go_sem, undef]
  refine newQ H fun b0 M f0 H => ?_
  have hw := H.cs.2.1
  simp (disch := omega) only [go_sem, undef, H.cs, hw, wlC]
  refine callQ H (name_s g k hg hk) fun M f H => ?_
  have hw := H.cs.2.1
  simp (disch := omega) only [go_sem, undef, H.cs, hw, wlC]
  have hpv2 : RdB M (.slice a p.length c) p := hpv.st fun b hb => H.fr b (hpn b hb).2 (hpn b hb).1
  refine callA 2 H (happ M fv rs (H.at 2 rfl) _ hpv2 fun b hb => ⟨fun hx => (hpn b hb).1 (List.mem_append_right _ hx), ?_⟩) rfl fun u M A' hR f H => ?_
  · rw [H.fr b (hpn b hb).2 (hpn b hb).1]; exact (hpn b hb).2
  obtain ⟨eu, fv1, rs1, eA⟩ := hR
  subst eu eA
  simp only [List.set_cons_succ, List.set_cons_zero] at H
  by_cases he0 : e1 = 0
  · have he1 : e1 = 0 := he0
    subst he1
    rw [if_neg (by simp), if_pos rfl]
    have hw := H.cs.2.1
    simp (disch := omega) only [go_sem, undef, H.cs, hw, wlC]
    refine callQ H (name_s g k hg hk) fun M f H => ?_
    have hw := H.cs.2.1
    simp (disch := omega) only [go_sem, undef, H.cs, hw, wlC]
    refine callA 2 H (hsy M fv1 rs1 (H.at 2 rfl)) rfl fun u M A' hR f H => ?_
    obtain ⟨eu, fv2, rs2, eA⟩ := hR
    subst eu eA
    simp only [List.set_cons_succ, List.set_cons_zero] at H
    have hw := H.cs.2.1
    simp (disch := omega) only [go_sem, undef, H.cs, hw, wlC]
    refine wrQ1 H fun M f H => ?_
    have eb : (!decide (((e2 : Nat) : Int) = 0)) = decide (e2 ≠ 0) := by
      by_cases h0 : e2 = 0
      · subst h0; rfl
      · rw [decide_eq_false (by omega : ¬ ((e2 : Nat) : Int) = 0), decide_eq_true h0]; rfl
    rw [eb] at H
    simp (disch := omega) only [go_sem, undef]
    exact wl_done (W' := { W with down := e2 ≠ 0 }) (Hq.join (A := wcA wb rb { W with down := e2 ≠ 0 }) H.tail)
  by_cases he1 : e1 = 7
  · subst he1
    rw [if_pos rfl]
    simp (disch := omega) only [go_sem, undef]
    exact wl_done (Hq.join H.tail)
  · rw [if_neg he1, if_neg he0]
    have hw := H.cs.2.1
    simp (disch := omega) only [go_sem, undef, H.cs, hw, wlC, dec_f (show ¬ ((e1 : Nat) : Int) = 7 by omega), dec_f (show ¬ ((e1 : Nat) : Int) = 0 by omega), dec_t (show ((e1 : Nat) : Int) ≠ 0 by omega)]
    refine wrQ1 H fun M f H => ?_
    simp (disch := omega) only [go_sem, undef]
    exact wl_done (W' := { W with down := true }) (Hq.join (A := wcA wb rb { W with down := true }) H.tail)
end Go.Fw
namespace Go.Fw
open Go.Proofs
variable {m m0 M : Mem} {S : List Nat} {L : List As}
theorem F2_append {α β : Type} {R : α → β → Prop} {l l' : List α} {r r' : List β} (h : F2 R l r) (h' : F2 R l' r') : F2 R (l ++ l') (r ++ r') := by
  induction h with
  | nil => exact h'
  | cons h1 _ ih => exact .cons h1 ih
/-- rows of bytes come behind rows of bytes -/
theorem app_br2 {P : Program} {T : TypeId} {w y : Value} {vs vs2 : List Value} {ls ls2 : List (List UInt8)} {K : Value → Mem → Prop} {lk : Lk K} {l1 : Lk w} {l2 : Lk m}
    (H : Hq m0 m S (brA T y vs2 ls2 :: brA T w vs ls :: L)) (hn : vs.length + vs2.length < 1000000000)
    (hK : ∀ w' M, Hq m0 M S (brA T w' (vs ++ vs2) (ls ++ ls2) :: L) → K w' M) : appQ P T 1 24 [.slice none 0 0] w y m K lk l1 l2 := by
  have hbr := H.at 1 rfl
  have hb2 := H.at 0 rfl
  have hap : Apart (brA T y vs2 ls2) (brA T w vs ls) := (List.pairwise_cons.1 H.dj).1 _ (List.mem_cons_self ..)
  refine Own.formK hb2.1 fun a c e => ?_
  have hold : ldS m a (vs2.length * 1) = some (vs2.flatMap v1) := ldS_of (by rw [← e]; exact brA_rds hb2)
  refine app_own (k := vs2.length) (news := vs2.flatMap v1) hbr.1 e hold (fm_len v1_len _) (fun v hv => ?_) rfl (by omega) (by omega) fun w' M ho f hblk => hK w' M ?_
  · obtain ⟨x, hx, hv⟩ := List.mem_flatMap.1 hv
    have hvx : v = x := by simpa [v1] using hv
    subst hvx
    have h2 : F2 (fun x y => True ∧ x.oneCell' = true) vs2 ls2 := F2_imp hb2.2.1 fun x _ y hy => ⟨trivial, one_of hy.1⟩
    exact F2_mem (Q := fun x => x.oneCell' = true) h2 v hx
  have hne : ∀ x ∈ vs, ∀ b ∈ blkOf x, m b ≠ none := fun x hx b hb => (brA T w vs ls).th hbr b (List.mem_append_right _ (List.mem_flatMap.2 ⟨x, hx, hb⟩))
  have hne2 : ∀ x ∈ vs2, ∀ b ∈ blkOf x, m b ≠ none := fun x hx b hb => (brA T y vs2 ls2).th hb2 b (List.mem_append_right _ (List.mem_flatMap.2 ⟨x, hx, hb⟩))
  have hd2 : ∀ x ∈ vs2, ∀ b ∈ blkOf x, b ∉ blkOf w := fun x hx b hb h => hap.1 b (List.mem_append_right _ (List.mem_flatMap.2 ⟨x, hx, hb⟩)) (List.mem_append_left _ h)
  refine H.join.rep0 (A' := brA T w' (vs ++ vs2) (ls ++ ls2)) ⟨?_, ?_, ?_⟩ (f.sub fun x hx => List.mem_append_right _ (List.mem_append_left _ hx)) ?_ ?_
  · rw [List.length_append, List.flatMap_append]; exact ho
  · refine F2_append (F2_imp hbr.2.1 fun x hx y hxy => ?_) (F2_imp hb2.2.1 fun x hx y hxy => ?_)
    · have hm : ∀ b ∈ blkOf x, M b = m b := fun b hb => f b (hne x hx b hb) (hbr.2.2 x hx b hb)
      exact ⟨hxy.1.st hm, fun b hb => by rw [hm b hb]; exact hxy.2 b hb⟩
    · have hm : ∀ b ∈ blkOf x, M b = m b := fun b hb => f b (hne2 x hx b hb) (hd2 x hx b hb)
      exact ⟨hxy.1.st hm, fun b hb => by rw [hm b hb]; exact hxy.2 b hb⟩
  · intro x hx b hb hw
    rcases List.mem_append.1 hx with hx | hx
    · rcases hblk b hw with h | h
      · exact hbr.2.2 x hx b hb h
      · exact hne x hx b hb h
    · rcases hblk b hw with h | h
      · exact hd2 x hx b hb h
      · exact hne2 x hx b hb h
  all_goals
    intro b hb
    rcases List.mem_append.1 hb with hb | hb
    · rcases hblk b hb with h | h
      · exact .inl (List.mem_append_right _ (List.mem_append_left _ h))
      · exact .inr h
    · rw [List.flatMap_append] at hb
      rcases List.mem_append.1 hb with hb | hb
      · exact .inl (List.mem_append_right _ (List.mem_append_right _ hb))
      · exact .inl (List.mem_append_left _ (List.mem_append_right _ hb))
end Go.Fw
namespace Go.Fw
open Go.Proofs
variable {m m0 M : Mem} {S : List Nat} {L : List As}
variable {rb wb : Nat} {fv : Value} {rs : List Row} {D : Dk}
/-! what a generation's segments hold -/
def segN (fl : List Fl) (g : Nat) : Nat → Nat → List Bs → Nat → Nat → Option (List Bs × Nat × Nat)
  | 0, _, all, lk, size => some (all, lk, size)
  | f + 1, k, all, lk, size => match lookF (nmB g k) fl with
    | none => some (all, lk, size)
    | some x => if k = 1 ∧ (scanF x.b).1 = [] then none
      else if (scanF x.b).2 < x.b.length then some (all ++ (scanF x.b).1, k, (scanF x.b).2)
      else segN fl g f (k + 1) (all ++ (scanF x.b).1) k (scanF x.b).2
def plC (g lk : Nat) : Nat × Nat := if lk = 0 then (0, 0) else (g, lk)
/-- does a generation's first record fit what follows -/
def hdrOk (all : List Bs) : Bool :=
  match all with
  | [] => false
  | b :: r => decide ((((⟨0, 0⟩ : RS).num b).2.fin b).wr = 0 ∧ 0 ≤ ((⟨0, 0⟩ : RS).num b).1 ∧ ((⟨0, 0⟩ : RS).num b).1 ≤ r.length)
/-- wal.read -/
def readG (fl : List Fl) (g : Nat) : List Bs × (Nat × Nat) × Nat × Bool :=
  match segN fl g 99 1 [] 0 0 with
  | none => ([], (0, 0), 0, false)
  | some (all, lk, size) => if hdrOk all then (all.tail, plC g lk, size, true) else ([], plC g lk, size, false)
/-- rows of bytes that are only read from now on -/
def rbA (w : Value) (vs : List Value) (ls : List Bs) : As where
  fp := blkOf w ++ vs.flatMap blkOf
  wp := blkOf w ++ vs.flatMap blkOf
  sub _ h := h
  p m := (RdS 1 v1 m w vs ∧ ∀ b ∈ blkOf w, m b ≠ none) ∧ F2 (fun v l => RdB m v l ∧ ∀ b ∈ blkOf v, m b ≠ none) vs ls
  st h e := ⟨⟨h.1.1.st fun b hb => e b (List.mem_append_left _ hb), fun b hb => by rw [e b (List.mem_append_left _ hb)]; exact h.1.2 b hb⟩,
    F2_imp h.2 fun v hv l hl => ⟨hl.1.st fun b hb => e b (List.mem_append_right _ (List.mem_flatMap.2 ⟨v, hv, hb⟩)), fun b hb => by rw [e b (List.mem_append_right _ (List.mem_flatMap.2 ⟨v, hv, hb⟩))]; exact hl.2 b hb⟩⟩
  th {m} h b hb := by
    rcases List.mem_append.1 hb with hb | hb
    · exact h.1.2 b hb
    · obtain ⟨v, hv, hb2⟩ := List.mem_flatMap.1 hb
      exact F2_mem (Q := fun v => ∀ b ∈ blkOf v, m b ≠ none) h.2 v hv b hb2
theorem rb_nil : (rbA (.slice none 0 0) [] []).p m := ⟨⟨RdS.nil v1_len m, by simp [blkOf]⟩, .nil⟩
end Go.Fw
namespace Go.Fw
open Go.Proofs
variable {m m0 M : Mem} {S : List Nat} {L : List As}
variable {rb wb : Nat} {fv : Value} {rs : List Row} {D : Dk}
theorem lookF_tot {nm : Bs} {l : List Fl} {x : Fl} (h : lookF nm l = some x) : x.b.length ≤ tot l := by
  unfold lookF at h
  split at h
  · have h1 := tot_take l _ x h
    have h2 := tot_le l ((findF nm l 0).1 + 1)
    omega
  · cases h
theorem scanF_le (b : Bs) : (scanF b).1.length ≤ b.length ∧ (scanF b).2 ≤ b.length := scanN_le _ _
def plV (p : Nat × Nat) : Value := .agg #[.int .i64 (p.1 : Nat), .int .i64 (p.2 : Nat)]
/-- what read answers -/
def RdR (r : List Bs × (Nat × Nat) × Nat × Bool) (u : Value) (A : As) : Prop := ∃ w vs, u = .tuple #[w, plV r.2.1, .int .i64 (r.2.2.1 : Nat), .bool r.2.2.2] ∧ A = rbA w vs r.1
abbrev rdTail : NC := .seq (.seq wal_read_r11 (.cond (.slot 56) (.seq wal_read_r12 .ret) .skip)) (.seq wal_read_r13 (.seq wal_read_r14 (.seq (.seq wal_read_r15 (.cond (.slot 78) (.seq wal_read_r16 .ret) .skip)) (.seq wal_read_r17 .ret))))
theorem read_code : wal_read_c = .seq wal_read_r0 (.seq wal_read_r1 (.seq (.seq wal_read_r2 (.block 0 (.loop [0, 1, 5, 6, 8, 9] wal_read_l0))) rdTail)) := rfl
def plP (g lk : Nat) : List Value := pc (((plC g lk).1 : Nat), ((plC g lk).2 : Nat))
def finR (g : Nat) (all : List Bs) (lk size : Nat) : List Bs × (Nat × Nat) × Nat × Bool := if hdrOk all then (all.tail, plC g lk, size, true) else ([], plC g lk, size, false)
set_option maxHeartbeats 8000000 in
theorem rd_tail {E : Env} {b0 g lk size : Nat} {w : Value} {vs : List Value} {all : List Bs} (hxl : ∀ p ∈ all, p.length ≤ 16384) (hal : all.length ≤ 1000000000) (e5 : E.get 5 = lpD b0) (e6 : E.get 6 = .int .i64 (size : Nat)) (e8 : E.get 8 = w) (h5 : E.has 5 = true) (h6 : E.has 6 = true) (h8 : E.has 8 = true)
    (H : Hq m M [] [brA 37 w vs all, cellA b0 (.cells (plP g lk).toArray 95 (0, 0))]) :
    wpN Tryz.prog rdTail (retP [RV.slot 4, RV.cells 5 2, RV.slot 6, RV.slot 7] fun v M => ∃ A', RdR (finR g all lk size) v A' ∧ A'.p M ∧ Fr m M [] ∧ ∀ (b : Nat), b ∈ A'.fp → m b = none) E M := by
  have hbr := H.at 0 rfl
  have hlen := brA_len hbr
  refine Own.formK hbr.1 fun a c ew => ?_
  subst ew
  have hw := H.cs.1
  cases all with
  | nil =>
    have hvs : vs.length = 0 := hlen
    simp (disch := omega) only [go_sem, undef, e5, e6, e8, h5, h6, h8, hvs, hw, plP]
    refine stwQ1 H rfl rfl fun M f H => ?_
    have hw := H.cs.1
    simp (disch := omega) only [go_sem, undef, hw]
    exact ⟨rbA (.slice none 0 0) [] [], ⟨.slice none 0 0, [], rfl, rfl⟩, rb_nil, H.fr, by simp [rbA, blkOf]⟩
  | cons x r =>
    have hvs : vs.length = r.length + 1 := hlen
    have hRS := brA_rds hbr
    obtain ⟨v, vr, rfl⟩ : ∃ v vr, vs = v :: vr := by
      cases vs with
      | nil => simp at hvs
      | cons v vr => exact ⟨v, vr, rfl⟩
    have hx := brA_at hbr (i := 0) rfl rfl
    refine RdS.elK hRS (i := 0) (by simp) (by decide) fun bx o r' hr' hix hE => ?_
    have hr' : v = r' := by simpa using hr'
    subst hr'
    have hvs : (v :: vr).length = r.length + 1 := hlen
    refine Exists.elim hx.form fun a3 hh => Exists.elim hh fun c3 ev => ?_
    subst ev
    have hix : ∀ (kd : IntKind) (M : Mem), rd (.ixs 1) [.slice a (vr.length + 1) c, .int kd 0] M = some (.pointer (some ⟨bx, o, none⟩)) := hix
    simp (disch := omega) only [go_sem, undef, e5, e6, e8, h5, h6, h8, hw, plP, hix, hE.ld0]
    have hxl := hxl x (List.mem_cons_self ..)
    refine callN H (pack_Read_s hx (by omega)) fun u M A' hR f H => ?_
    obtain ⟨rb2, a5, c5, rfl, rfl⟩ := hR
    simp (disch := omega) only [go_sem, undef]
    refine callS0 _ H (pack_Num_s (H.at 0 rfl)) rfl rfl fun M f H => ?_
    simp (disch := omega) only [go_sem, undef]
    refine callS0 _ H (pack_End_s (H.at 0 rfl)) rfl rfl fun M f H => ?_
    have H := H.tail
    have hw := H.cs.1
    have hdr : hdrOk (x :: r) = decide ((((⟨0, 0⟩ : RS).num x).2.fin x).wr = 0 ∧ 0 ≤ ((⟨0, 0⟩ : RS).num x).1 ∧ ((⟨0, 0⟩ : RS).num x).1 ≤ r.length) := rfl
    have hvr : vr.length = r.length := by simpa using hvs
    have hal : r.length ≤ 1000000000 := by
      have := hal
      simp at this; omega
    generalize (((⟨0, 0⟩ : RS).num x).2.fin x).wr = e at hdr ⊢
    generalize ((⟨0, 0⟩ : RS).num x).1 = N at hdr ⊢
    by_cases hcase : e = 0 ∧ 0 ≤ N ∧ N ≤ r.length
    · have hfin : finR g (x :: r) lk size = (r, plC g lk, size, true) := by rw [finR, hdr, decide_eq_true hcase]; rfl
      obtain ⟨he, hN, hM⟩ := hcase
      refine Exists.elim ((brA_rds (H.at 0 rfl)).cut (by decide) 1 (vr.length + 1) (by omega) (by simp)) fun a6 hh => Exists.elim hh fun c6 hcr => ?_
      have hcut := hcr.1
      clear hh hcr
      rw [show ((1 : Nat) : Int) = 1 from rfl] at hcut
      simp (disch := omega) only [go_sem, undef, plP, hw, dec_f (show ¬ e ≠ 0 by omega), dec_f (show ¬ N < 0 by omega), dec_f (show ¬ N > ((vr.length : Nat) : Int) + 1 - 1 by omega), rd_slc10, hcut]
      refine stwQ1 H rfl rfl fun M f H => ?_
      have hw := H.cs.1
      simp (disch := omega) only [go_sem, undef, hw]
      have hb2 := H.at 0 rfl
      refine Exists.elim ((brA_rds hb2).cut (by decide) 1 (vr.length + 1) (by omega) (by simp)) fun a7 hh => Exists.elim hh fun c7 hcr => ?_
      have hcut2 := hcr.1
      rw [show ((1 : Nat) : Int) = 1 from rfl, hcut] at hcut2
      cases hcut2
      have hRS2 := hcr.2.1
      have hblk := hcr.2.2
      have e9 : ∀ v : Value, List.drop 1 (List.take (vr.length + 1) (v :: vr)) = vr := fun v => by simp
      rw [e9] at hRS2
      have hsub : ∀ b ∈ (rbA (.slice a6 (vr.length + 1 - 1) c6) vr r).fp, b ∈ (brA 37 (.slice a (vr.length + 1) c) (.slice a3 x.length c3 :: vr) (x :: r)).wp := by
        intro b hb
        rcases List.mem_append.1 hb with hb | hb
        · rw [hblk] at hb
          refine List.mem_append_left _ ?_
          cases a <;> exact hb
        · exact List.mem_append_right _ (by rw [List.flatMap_cons]; exact List.mem_append_right _ hb)
      have hF2 : F2 (fun v l => RdB M v l ∧ ∀ b ∈ blkOf v, M b ≠ none) vr r := by
        have := hb2.2.1
        cases this with
        | cons _ h2 => exact h2
      refine post_intro ⟨rbA (.slice a6 (vr.length + 1 - 1) c6) vr r, ⟨_, _, by rw [hfin] <;> rfl, by rw [hfin]⟩, ⟨⟨hRS2, fun b hb => (brA 37 _ _ _).th hb2 b ((brA 37 _ _ _).sub b (hsub b (List.mem_append_left _ hb)))⟩, hF2⟩, H.fr, fun b hb => (H.done.2.2 b (hsub b hb)).resolve_left (by simp)⟩
    have hfin : finR g (x :: r) lk size = ([], plC g lk, size, false) := by rw [finR, hdr, decide_eq_false hcase]; rfl
    by_cases he : e = 0
    · by_cases hN : 0 ≤ N
      · have hM : ¬ N ≤ r.length := fun h => hcase ⟨he, hN, h⟩
        simp (disch := omega) only [go_sem, undef, plP, hw, dec_f (show ¬ e ≠ 0 by omega), dec_f (show ¬ N < 0 by omega), dec_t (show N > ((vr.length : Nat) : Int) + 1 - 1 by omega)]
        refine stwQ1 H rfl rfl fun M f H => ?_
        have hw := H.cs.1
        simp (disch := omega) only [go_sem, undef, hw]
        exact ⟨rbA (.slice none 0 0) [] [], ⟨.slice none 0 0, [], by rw [hfin] <;> rfl, by rw [hfin]⟩, rb_nil, H.fr, by simp [rbA, blkOf]⟩
      · skip
        simp (disch := omega) only [go_sem, undef, plP, hw, dec_f (show ¬ e ≠ 0 by omega), dec_t (show N < 0 by omega)]
        refine stwQ1 H rfl rfl fun M f H => ?_
        have hw := H.cs.1
        simp (disch := omega) only [go_sem, undef, hw]
        exact ⟨rbA (.slice none 0 0) [] [], ⟨.slice none 0 0, [], by rw [hfin] <;> rfl, by rw [hfin]⟩, rb_nil, H.fr, by simp [rbA, blkOf]⟩
    · skip
      simp (disch := omega) only [go_sem, undef, plP, hw, dec_t (show e ≠ 0 by omega)]
      refine stwQ1 H rfl rfl fun M f H => ?_
      have hw := H.cs.1
      simp (disch := omega) only [go_sem, undef, hw]
      exact ⟨rbA (.slice none 0 0) [] [], ⟨.slice none 0 0, [], by rw [hfin] <;> rfl, by rw [hfin]⟩, rb_nil, H.fr, by simp [rbA, blkOf]⟩
theorem scanN_ok : ∀ f b, ∀ p ∈ (scanN f b).1, p.length ≤ 16384
  | 0, b, p, h => by simp [scanN] at h
  | f + 1, b, p, h => by
    unfold scanN at h
    cases hq : nextF b with
    | none => rw [hq] at h; simp at h
    | some q =>
      obtain ⟨y, n⟩ := q
      rw [hq] at h
      rcases List.mem_cons.1 h with rfl | h
      · exact (nextF_len hq).2
      · exact scanN_ok f _ p h
theorem scanF_ok (b : Bs) : ∀ p ∈ (scanF b).1, p.length ≤ 16384 := scanN_ok _ _
set_option maxHeartbeats 8000000 in
theorem wal_read_s (h : (dkA rb fv rs D).p m) (g : Nat) (hg : g < 100) (h99 : lookF (nmB g 99) D.fl = none) (hn : D.fl.length ≤ 90000) (hT : tot D.fl ≤ 5000000) :
    CN Tryz.prog n_wal_read [lpD rb, .int .i64 (g : Nat)] m (RdR (readG D.fl g)) := by
  refine wal_read_go (by simp [Tryz.f33]) ?_
  rw [read_code]
  generalize hC : rdTail = C
  obtain ⟨X, hX⟩ : ∃ X, X = segN D.fl g 99 1 [] 0 0 := ⟨_, rfl⟩
  have H := Hq.refl m []
  simp (disch := omega) only [go_sem, undef]
  refine newQ H fun b0 M f H => ?_
  have H := H.nilBr 37
  simp (disch := omega) only [go_sem, undef]
  refine loopQ_intro (fun n E m' => ∃ k w vs all lk size, 1 ≤ k ∧ k ≤ 99 ∧ n = 100 - k ∧ lk + 1 = k ∧ E = [(0, lpD rb), (1, .int .i64 (g : Nat)), (5, lpD b0), (6, .int .i64 (size : Nat)), (8, w), (9, .int .i64 (k : Nat))] ∧ X = segN D.fl g (100 - k) k all lk size ∧ all.length ≤ (k - 1) * tot D.fl ∧ (∀ p ∈ all, p.length ≤ 16384) ∧ (lk = 0 → size = 0) ∧ Hq m m' [] [brA 37 w vs all, cellA b0 (.cells (plP g lk).toArray 95 (0, 0))]) 99 rfl ⟨1, .slice none 0 0, [], [], 0, 0, by omega, by omega, by omega, by omega, rfl, hX, by simp, by simp, fun _ => rfl, H⟩ ?_
  clear H f
  rintro n E M1 ⟨k, w, vs, all, lk, size, hk1, hk2, rfl, hlk, rfl, hs, hal, hxl, hsz, H⟩
  have hd := (dkA rb fv rs D).fr0 h H.fr
  simp (disch := omega) only [go_sem, undef]
  refine callQ H (name_s g k hg (by omega)) fun M f H => ?_
  have hd := (dkA rb fv rs D).fr0 h H.fr
  simp (disch := omega) only [go_sem, undef]
  refine callN H (read_s hd (nmB g k) (by omega) (by omega)) fun u M A' hR f H => ?_
  obtain ⟨w2, rfl, rfl⟩ := hR
  have hbt : (rdB (lookF (nmB g k) D.fl)).length ≤ tot D.fl := by
    cases hlk : lookF (nmB g k) D.fl with
    | none => simp [rdB]
    | some x => exact lookF_tot hlk
  rw [show 100 - k = (99 - k) + 1 from by omega, segN] at hs
  cases hlook : lookF (nmB g k) D.fl with
  | none =>
    rw [hlook] at hs H
    have hs : X = some (all, lk, size) := hs
    have hnn : (none : Option Fl).isSome = false := rfl
    simp (disch := omega) only [go_sem, undef, hnn]
    subst hC
    have e1 : readG D.fl g = finR g all lk size := by unfold readG; rw [← hX, hs]; rfl
    rw [e1]
    exact rd_tail hxl (Nat.le_trans hal (Nat.le_trans (Nat.mul_le_mul (show k - 1 ≤ 98 by omega) hT) (by decide))) rfl rfl rfl rfl rfl rfl H.tail
  | some x =>
    rw [hlook] at hs H hbt
    rw [show rdB (some x) = x.b from rfl] at H
    have hk99 : k ≠ 99 := fun e => by subst e; rw [h99] at hlook; cases hlook
    have hsome : (some x).isSome = true := rfl
    have hsl := scanF_le x.b
    have hso := scanF_ok x.b
    have hbt : x.b.length ≤ tot D.fl := hbt
    refine Own.formK (H.at 0 rfl) fun a2 c2 e2 => ?_
    subst e2
    have hbb : RdB M (.slice a2 x.b.length c2) x.b := byA_rd (H.at 0 rfl)
    simp (disch := omega) only [go_sem, undef, hsome]
    refine callN H (frame_Scan_s hbb (by omega)) fun u M A' hR f H => ?_
    obtain ⟨w3, vs3, rfl, rfl⟩ := hR
    have hv3 := brA_len (H.at 0 rfl)
    have hva := brA_len (H.at 2 rfl)
    refine Own.formK (H.at 0 rfl).1 fun a3 c3 e3 => ?_
    subst e3
    have hw := H.cs.1
    by_cases hfirst : k = 1 ∧ (scanF x.b).1 = []
    · have hsn : X = none := by rw [hs]; simp only [if_pos hfirst]
      clear hs
      obtain ⟨rfl, h0⟩ := hfirst
      have h30 : vs3.length = 0 := by rw [hv3, h0]; rfl
      have hl0 : lk = 0 := by omega
      subst hl0
      rw [hsz rfl]
      simp (disch := omega) only [go_sem, undef, h30, hw, plP, show ((1 : Nat) : Int) = 1 from rfl, show ((0 : Nat) : Int) = 0 from rfl]
      refine stwQ3 H rfl rfl fun M f H => ?_
      have hw := H.cs.1
      simp (disch := omega) only [go_sem, undef, hw]
      have hfin : readG D.fl g = ([], (0, 0), 0, false) := by unfold readG; rw [← hX, hsn]
      exact ⟨rbA (.slice none 0 0) [] [], ⟨.slice none 0 0, [], by rw [hfin] <;> rfl, by rw [hfin]⟩, rb_nil, H.fr, by simp [rbA, blkOf]⟩
    · have hs : X = if (scanF x.b).2 < x.b.length then some (all ++ (scanF x.b).1, k, (scanF x.b).2) else segN D.fl g (99 - k) (k + 1) (all ++ (scanF x.b).1) k (scanF x.b).2 := by rw [hs]; simp only [if_neg hfirst]
      have hcond : ¬ (k = 1 ∧ vs3.length = 0) := fun h => hfirst ⟨h.1, List.eq_nil_of_length_eq_zero (by rw [← hv3]; exact h.2)⟩
      have H := H.perm (List.Perm.cons _ (List.Perm.swap ..))
      have hbound : all.length ≤ 490000000 := Nat.le_trans hal (Nat.le_trans (Nat.mul_le_mul (show k - 1 ≤ 98 by omega) hT) (by decide))
      by_cases hk1 : k = 1
      · subst hk1
        have hne : ¬ vs3.length = 0 := fun h => hcond ⟨rfl, h⟩
        simp (disch := omega) only [go_sem, undef, dec_f (show ¬ ((vs3.length : Nat) : Int) = 0 by omega), dec_t (show ((1 : Nat) : Int) = 1 from rfl)]
        refine app_br2 H (by omega) fun w' M H => ?_
        simp (disch := omega) only [go_sem, undef]
        refine stwQ2 H rfl rfl fun M f H => ?_
        have H := (H.perm (List.Perm.cons _ (List.Perm.swap ..))).rot3'.tail
        have hpl : plP g 1 = pc ((g : Nat), (1 : Nat)) := by
          unfold plP plC
          rw [if_neg (by omega)]
        rw [← hpl] at H
        simp (disch := omega) only [go_sem, undef]
        refine condB_dec (fun hlt => ?_) (fun hlt => ?_)
        · have hlt : (scanF x.b).2 < x.b.length := by omega
          rw [if_pos hlt] at hs
          simp (disch := omega) only [go_sem, undef]
          subst hC
          have e1 : readG D.fl g = finR g (all ++ (scanF x.b).1) 1 (scanF x.b).2 := by unfold readG; rw [← hX, hs]; rfl
          rw [e1]
          exact rd_tail (fun p hp => (List.mem_append.1 hp).elim (hxl p) (hso p)) (by rw [List.length_append]; omega) rfl rfl rfl rfl rfl rfl H
        · have hlt : ¬ (scanF x.b).2 < x.b.length := by omega
          rw [if_neg hlt] at hs
          simp (disch := omega) only [go_sem, undef]
          exact handN_intro (100 - (1 + 1)) (by omega) ⟨1 + 1, w', _, all ++ (scanF x.b).1, 1, (scanF x.b).2, by omega, by omega, rfl, rfl, rfl, by rw [hs, show 100 - (1 + 1) = 99 - 1 from by omega], by rw [List.length_append, Nat.add_sub_cancel]; exact (Nat.le_trans (Nat.add_le_add hal (Nat.le_trans hsl.1 hbt)) (by rw [show 1 * tot D.fl = (1 - 1 + 1) * tot D.fl from by rw [Nat.sub_add_cancel (by omega)], Nat.add_mul, Nat.one_mul]; exact Nat.le_refl _)), fun p hp => (List.mem_append.1 hp).elim (hxl p) (hso p), fun h => by omega, H⟩
      · simp (disch := omega) only [go_sem, undef, dec_f (show ¬ ((k : Nat) : Int) = 1 by omega)]
        refine app_br2 H (by omega) fun w' M H => ?_
        simp (disch := omega) only [go_sem, undef]
        refine stwQ2 H rfl rfl fun M f H => ?_
        have H := (H.perm (List.Perm.cons _ (List.Perm.swap ..))).rot3'.tail
        have hpl : plP g k = pc ((g : Nat), (k : Nat)) := by
          unfold plP plC
          rw [if_neg (by omega)]
        rw [← hpl] at H
        simp (disch := omega) only [go_sem, undef]
        refine condB_dec (fun hlt => ?_) (fun hlt => ?_)
        · have hlt : (scanF x.b).2 < x.b.length := by omega
          rw [if_pos hlt] at hs
          simp (disch := omega) only [go_sem, undef]
          subst hC
          have e1 : readG D.fl g = finR g (all ++ (scanF x.b).1) k (scanF x.b).2 := by unfold readG; rw [← hX, hs]; rfl
          rw [e1]
          exact rd_tail (fun p hp => (List.mem_append.1 hp).elim (hxl p) (hso p)) (by rw [List.length_append]; omega) rfl rfl rfl rfl rfl rfl H
        · have hlt : ¬ (scanF x.b).2 < x.b.length := by omega
          rw [if_neg hlt] at hs
          simp (disch := omega) only [go_sem, undef]
          exact handN_intro (100 - (k + 1)) (by omega) ⟨k + 1, w', _, all ++ (scanF x.b).1, k, (scanF x.b).2, by omega, by omega, rfl, rfl, rfl, by rw [hs, show 100 - (k + 1) = 99 - k from by omega], by rw [List.length_append, Nat.add_sub_cancel]; exact (Nat.le_trans (Nat.add_le_add hal (Nat.le_trans hsl.1 hbt)) (by rw [show k * tot D.fl = (k - 1 + 1) * tot D.fl from by rw [Nat.sub_add_cancel (by omega)], Nat.add_mul, Nat.one_mul]; exact Nat.le_refl _)), fun p hp => (List.mem_append.1 hp).elim (hxl p) (hso p), fun h => by omega, H⟩
end Go.Fw
