/-
  Package order, in plain words: the bytes of entries and of ledgers, taken apart.
-/
import Derived.Test.YteflnnlihblpgaaDoorOrPut
import Derived.Test.YteflnnlihblpgaaDoorOwRead
namespace Go.Proofs.YteflnnlihblpgaaDoor.Wr
theorem rdF_inv : ∀ (f : Nat) (l : List Nat) (n i x k : Nat), (∀ c ∈ l, c < 256) → rdF f l n i = some (x, k) → ∃ y, x = n + y * 128 ^ i ∧ k = i + (num y).length ∧ l.take (num y).length = num y ∧ (y ≠ 0 ∨ i = 0) := by
  intro f
  induction f with
  | zero => intro l n i x k _ h; rw [rdF] at h; cases h
  | succ f ih =>
    intro l n i x k hl h
    cases l with
    | nil => rw [rdF] at h; cases h
    | cons c l =>
      have hc := hl c (by simp)
      rw [rdF] at h
      split at h
      · rename_i h1
        split at h
        · rename_i h2
          simp only [Option.some.injEq, Prod.mk.injEq] at h
          exact ⟨c, h.1.symm, by rw [num_small h1, ← h.2]; rfl, by rw [num_small h1]; rfl, h2⟩
        · cases h
      · rename_i h1
        obtain ⟨y, e1, e2, e3, e4⟩ := ih l _ (i + 1) x k (fun y hy => hl y (by simp [hy])) h
        have hy0 : y ≠ 0 := by omega
        have b1 : ¬ (c - 128 + 128 * y) < 128 := by omega
        have b2 : (c - 128 + 128 * y) % 128 = c - 128 := by omega
        have b3 : (c - 128 + 128 * y) / 128 = y := by omega
        have b4 : c - 128 + 128 = c := by omega
        refine ⟨c - 128 + 128 * y, ?_, ?_, ?_, .inl (by omega)⟩
        · rw [e1, Nat.pow_succ]
          generalize 128 ^ i = P
          generalize c - 128 = d
          rw [Nat.add_mul, Nat.add_assoc]
          congr 2
          rw [← Nat.mul_assoc, Nat.mul_comm, Nat.mul_assoc]
        · rw [num_big b1, b3, e2, List.length_cons]; omega
        · rw [num_big b1, b2, b3, b4, List.length_cons, List.take_succ_cons, e3]
theorem rd_inv {l : List Nat} {x k : Nat} (hl : ∀ c ∈ l, c < 256) (h : rd l = some (x, k)) : k = (num x).length ∧ l = num x ++ l.drop k := by
  obtain ⟨y, e1, e2, e3, _⟩ := rdF_inv 9 l 0 0 x k hl h
  obtain rfl : x = y := by simpa using e1
  rw [Nat.zero_add] at e2
  refine ⟨e2, ?_⟩
  subst e2
  conv => lhs; rw [← List.take_append_drop (num x).length l, e3]
end Go.Proofs.YteflnnlihblpgaaDoor.Wr
namespace Go.Proofs.YteflnnlihblpgaaDoor
set_option linter.unusedVariables false
/-- Numbers that a writer takes. -/
def OkN (l : List Int) : Prop := ∀ x ∈ l, 0 ≤ x ∧ x ≤ 9223372036854775807
theorem OkN.tail {x : Int} {l : List Int} (h : OkN (x :: l)) : OkN l := fun y hy => h y (List.mem_cons_of_mem _ hy)
theorem putN_cons (x : Int) (l : List Int) : putN (x :: l) = Wr.num x.toNat ++ putN l := rfl
theorem putN_byte (l : List Int) : ∀ x ∈ putN l, x < 256 := by
  intro x hx
  obtain ⟨y, _, hy⟩ := List.mem_flatMap.1 hx
  exact Wr.num_byte _ x hy
theorem En.put_byte (e : En) : ∀ x ∈ e.put, x < 256 := putN_byte _
/-- Numbers of one and the same beginning are the same, as far as both go. -/
theorem putN_split : ∀ (l m : List Int) (r : List Nat), OkN l → OkN m → l.length ≤ m.length → putN m = putN l ++ r → m.take l.length = l ∧ r = putN (m.drop l.length)
  | [], m, r, _, _, _, h => ⟨rfl, h.symm⟩
  | x :: l, [], r, _, _, hl, _ => by simp at hl
  | x :: l, y :: m, r, h1, h2, hl, h => by
    have b1 := h1 x (by simp)
    have b2 := h2 y (by simp)
    rw [putN_cons, putN_cons, List.append_assoc] at h
    have e1 := Wr.rd_num y.toNat (putN m) (by omega)
    rw [h, Wr.rd_num x.toNat (putN l ++ r) (by omega)] at e1
    simp only [Option.some.injEq, Prod.mk.injEq] at e1
    obtain rfl : x = y := by omega
    have h := List.append_cancel_left h
    obtain ⟨q1, q2⟩ := putN_split l m r h1.tail h2.tail (by simpa using hl) h
    exact ⟨by rw [List.length_cons, List.take_succ_cons, q1], by rw [List.length_cons, List.drop_succ_cons]; exact q2⟩
theorem nums_ok {e : En} (h : e.form = true) : OkN e.nums := fun x hx => by have := (form_fits h).1 x hx; omega
theorem nums_len (e : En) : e.nums.length = 10 + 4 * e.ts.length := by
  unfold En.nums
  have : ∀ ts : List Tk, (ts.flatMap Tk.ns).length = 4 * ts.length := fun ts => by
    induction ts with
    | nil => rfl
    | cons t ts ih =>
      show (t.ns ++ ts.flatMap Tk.ns).length = _
      rw [List.length_append, ih, List.length_cons]
      show 4 + _ = _
      omega
  rw [List.length_append, this]
  rfl
/-- Bytes that begin with numbers, against an entry's. -/
theorem put_begin {e : En} (h : e.form = true) {ns : List Int} {r : List Nat} (hn : OkN ns) (hl : ns.length ≤ e.nums.length) (hp : e.put = putN ns ++ r) : e.nums.take ns.length = ns ∧ r = putN (e.nums.drop ns.length) :=
  putN_split ns e.nums r hn (nums_ok h) hl hp
/-- A number more of an entry's is read. -/
theorem put_next {e : En} (h : e.form = true) {ns : List Int} {r : List Nat} (hn : OkN ns) (hl : ns.length < e.nums.length) (hp : e.put = putN ns ++ r) : ∃ x k, Wr.rd r = some (x, k) ∧ x ≤ 1099511627776 := by
  obtain ⟨_, h2⟩ := put_begin h hn (by omega) hp
  have h3 : e.nums.drop ns.length = e.nums[ns.length] :: e.nums.drop (ns.length + 1) := List.drop_eq_getElem_cons hl
  have h4 := (form_fits h).1 _ (List.getElem_mem hl)
  rw [h3, putN_cons] at h2
  exact ⟨_, _, by rw [h2]; exact Wr.rd_num _ _ (by omega), by omega⟩
/-- The tasks of numbers, four and four. -/
def tksOf : List Int → List Tk
  | c :: p :: d :: s :: l => ⟨c, p, d, s⟩ :: tksOf l
  | _ => []
theorem tksOf_ns : ∀ (k : Nat) (l : List Int), l.length = 4 * k → (tksOf l).length = k ∧ (tksOf l).flatMap Tk.ns = l
  | 0, l, h => by
    have : l = [] := List.eq_nil_of_length_eq_zero (by omega)
    subst this
    exact ⟨rfl, rfl⟩
  | k + 1, c :: p :: d :: s :: l, h => by
    obtain ⟨h1, h2⟩ := tksOf_ns k l (by simp at h; omega)
    refine ⟨by simp [tksOf, h1], ?_⟩
    show Tk.ns ⟨c, p, d, s⟩ ++ (tksOf l).flatMap Tk.ns = _
    rw [h2]
    rfl
  | k + 1, [], h => by simp at h
  | k + 1, [_], h => by simp at h; omega
  | k + 1, [_, _], h => by simp at h; omega
  | k + 1, [_, _, _], h => by simp at h; omega
theorem tksOf_of : ∀ ts : List Tk, tksOf (ts.flatMap Tk.ns) = ts
  | [] => rfl
  | t :: ts => by
    show tksOf (t.C :: t.P :: t.D :: t.S :: ts.flatMap Tk.ns) = _
    rw [tksOf, tksOf_of ts]
/-- The entry of numbers. -/
def enOf (l : List Int) : En := ⟨l.getD 0 0, l.getD 1 0, l.getD 2 0, l.getD 4 0, l.getD 5 0, l.getD 6 0, l.getD 7 0, l.getD 8 0, l.getD 3 0, tksOf (l.drop 10)⟩
theorem enOf_nums {l : List Int} {k : Nat} (h : l.length = 10 + 4 * k) (h9 : l.getD 9 0 = (k : Int)) : (enOf l).nums = l ∧ (enOf l).ts.length = k := by
  obtain ⟨h1, h2⟩ := tksOf_ns k (l.drop 10) (by rw [List.length_drop]; omega)
  refine ⟨?_, h1⟩
  obtain ⟨a0, l, rfl⟩ := List.exists_cons_of_length_pos (l := l) (by omega)
  obtain ⟨a1, l, rfl⟩ := List.exists_cons_of_length_pos (l := l) (by simp only [List.length_cons] at h; omega)
  obtain ⟨a2, l, rfl⟩ := List.exists_cons_of_length_pos (l := l) (by simp only [List.length_cons] at h; omega)
  obtain ⟨a3, l, rfl⟩ := List.exists_cons_of_length_pos (l := l) (by simp only [List.length_cons] at h; omega)
  obtain ⟨a4, l, rfl⟩ := List.exists_cons_of_length_pos (l := l) (by simp only [List.length_cons] at h; omega)
  obtain ⟨a5, l, rfl⟩ := List.exists_cons_of_length_pos (l := l) (by simp only [List.length_cons] at h; omega)
  obtain ⟨a6, l, rfl⟩ := List.exists_cons_of_length_pos (l := l) (by simp only [List.length_cons] at h; omega)
  obtain ⟨a7, l, rfl⟩ := List.exists_cons_of_length_pos (l := l) (by simp only [List.length_cons] at h; omega)
  obtain ⟨a8, l, rfl⟩ := List.exists_cons_of_length_pos (l := l) (by simp only [List.length_cons] at h; omega)
  obtain ⟨a9, m, rfl⟩ := List.exists_cons_of_length_pos (l := l) (by simp only [List.length_cons] at h; omega)
  have h1' : (tksOf m).length = k := h1
  have h2' : (tksOf m).flatMap Tk.ns = m := h2
  have h9' : a9 = (k : Int) := h9
  show [a0, a1, a2, a3, a4, a5, a6, a7, a8, ((tksOf m).length : Int)] ++ (tksOf m).flatMap Tk.ns = _
  rw [h1', h2', h9']
  rfl
theorem enOf_of (e : En) : enOf e.nums = e := by
  show (⟨e.cl, e.nu, e.kd, e.id, e.sk, e.sq, e.st, e.pol, e.at_, tksOf (e.ts.flatMap Tk.ns)⟩ : En) = e
  rw [tksOf_of]
theorem nums_inj {e d : En} (h : e.nums = d.nums) : e = d := by rw [← enOf_of e, h, enOf_of]
/-- Unlike entries have unlike bytes. -/
theorem put_inj {e d : En} (he : e.form = true) (hd : d.form = true) (h : e.put = d.put) : e = d := by
  rcases Nat.le_total e.nums.length d.nums.length with hl | hl
  · obtain ⟨h1, h2⟩ := put_begin hd (nums_ok he) hl (r := []) (by rw [← h]; simp [En.put])
    have h3 : d.nums.drop e.nums.length = [] := by
      cases hh : d.nums.drop e.nums.length with
      | nil => rfl
      | cons x l =>
        rw [hh, putN_cons] at h2
        have := Wr.num_pos x.toNat
        have h4 := congrArg List.length h2
        simp only [List.length_append, List.length_nil] at h4
        omega
    rw [List.drop_eq_nil_iff] at h3
    rw [List.take_of_length_le h3] at h1
    exact nums_inj h1.symm
  · obtain ⟨h1, h2⟩ := put_begin he (nums_ok hd) hl (r := []) (by rw [h]; simp [En.put])
    have h3 : e.nums.drop d.nums.length = [] := by
      cases hh : e.nums.drop d.nums.length with
      | nil => rfl
      | cons x l =>
        rw [hh, putN_cons] at h2
        have := Wr.num_pos x.toNat
        have h4 := congrArg List.length h2
        simp only [List.length_append, List.length_nil] at h4
        omega
    rw [List.drop_eq_nil_iff] at h3
    rw [List.take_of_length_le h3] at h1
    exact nums_inj h1
theorem put_len {e : En} (h : e.form = true) : e.put.length ≤ 378 := by
  have h1 := putN_len e.nums (fun x hx => by have := nums_ok h x hx; omega)
  have h2 := nums_len e
  have h3 := (form_fits h).2
  unfold En.put
  omega
/-- A ledger's bytes. -/
def putL (l : List En) : List Nat := Wr.num l.length ++ l.flatMap fun e => Wr.num e.put.length ++ e.put
end Go.Proofs.YteflnnlihblpgaaDoor
