/-
  Package order: Put of an entry that is not in form; the document's Put; walked.
-/
import Derived.Test.YteflnnlihblpgaaDoorMgNetPutsProof5
import Derived.Handy
import Derived.Deep.Cut
namespace Go.Proofs.YteflnnlihblpgaaDoor.Wr
theorem rdF_inv : ∀ (f : Nat) (l : List Nat) (n i x k : Nat), (∀ c ∈ l, c < 256) → rdF f l n i = some (x, k) → ∃ y, x = n + y * 128 ^ i ∧ k = i + (num y).length ∧ l.take (num y).length = num y ∧ (y ≠ 0 ∨ i = 0) := by
  intro f
  induction f with
  | zero => intro l n i x k _ h; rw [rdF] at h; cases h
  | succ f ih =>
    intro l n i x k hl h
    cases l with
    | nil => rw [rdF] at h; cases h
    | cons c l =>
      have hc := hl c (by simp)
      rw [rdF] at h
      split at h
      · rename_i h1
        split at h
        · rename_i h2
          simp only [Option.some.injEq, Prod.mk.injEq] at h
          exact ⟨c, h.1.symm, by rw [num_small h1, ← h.2]; rfl, by rw [num_small h1]; rfl, h2⟩
        · cases h
      · rename_i h1
        obtain ⟨y, e1, e2, e3, e4⟩ := ih l _ (i + 1) x k (fun y hy => hl y (by simp [hy])) h
        have hy0 : y ≠ 0 := by omega
        have b1 : ¬ (c - 128 + 128 * y) < 128 := by omega
        have b2 : (c - 128 + 128 * y) % 128 = c - 128 := by omega
        have b3 : (c - 128 + 128 * y) / 128 = y := by omega
        have b4 : c - 128 + 128 = c := by omega
        refine ⟨c - 128 + 128 * y, ?_, ?_, ?_, .inl (by omega)⟩
        · rw [e1, Nat.pow_succ]
          generalize 128 ^ i = P
          generalize c - 128 = d
          rw [Nat.add_mul, Nat.add_assoc]
          congr 2
          rw [← Nat.mul_assoc, Nat.mul_comm, Nat.mul_assoc]
        · rw [num_big b1, b3, e2, List.length_cons]; omega
        · rw [num_big b1, b2, b3, b4, List.length_cons, List.take_succ_cons, e3]
theorem rd_inv {l : List Nat} {x k : Nat} (hl : ∀ c ∈ l, c < 256) (h : rd l = some (x, k)) : k = (num x).length ∧ l = num x ++ l.drop k := by
  obtain ⟨y, e1, e2, e3, _⟩ := rdF_inv 9 l 0 0 x k hl h
  obtain rfl : x = y := by simpa using e1
  rw [Nat.zero_add] at e2
  refine ⟨e2, ?_⟩
  subst e2
  conv => lhs; rw [← List.take_append_drop (num x).length l, e3]
end Go.Proofs.YteflnnlihblpgaaDoor.Wr
namespace Go.Proofs.YteflnnlihblpgaaDoor
set_option linter.unusedVariables false
/-- Numbers that a writer takes. -/
def OkN (l : List Int) : Prop := ∀ x ∈ l, 0 ≤ x ∧ x ≤ 9223372036854775807
theorem OkN.tail {x : Int} {l : List Int} (h : OkN (x :: l)) : OkN l := fun y hy => h y (List.mem_cons_of_mem _ hy)
theorem putN_cons (x : Int) (l : List Int) : putN (x :: l) = Wr.num x.toNat ++ putN l := rfl
theorem putN_byte (l : List Int) : ∀ x ∈ putN l, x < 256 := by
  intro x hx
  obtain ⟨y, _, hy⟩ := List.mem_flatMap.1 hx
  exact Wr.num_byte _ x hy
theorem En.put_byte (e : En) : ∀ x ∈ e.put, x < 256 := putN_byte _
/-- Numbers of one and the same beginning are the same, as far as both go. -/
theorem putN_split : ∀ (l m : List Int) (r : List Nat), OkN l → OkN m → l.length ≤ m.length → putN m = putN l ++ r → m.take l.length = l ∧ r = putN (m.drop l.length)
  | [], m, r, _, _, _, h => ⟨rfl, h.symm⟩
  | x :: l, [], r, _, _, hl, _ => by simp at hl
  | x :: l, y :: m, r, h1, h2, hl, h => by
    have b1 := h1 x (by simp)
    have b2 := h2 y (by simp)
    rw [putN_cons, putN_cons, List.append_assoc] at h
    have e1 := Wr.rd_num y.toNat (putN m) (by omega)
    rw [h, Wr.rd_num x.toNat (putN l ++ r) (by omega)] at e1
    simp only [Option.some.injEq, Prod.mk.injEq] at e1
    obtain rfl : x = y := by omega
    have h := List.append_cancel_left h
    obtain ⟨q1, q2⟩ := putN_split l m r h1.tail h2.tail (by simpa using hl) h
    exact ⟨by rw [List.length_cons, List.take_succ_cons, q1], by rw [List.length_cons, List.drop_succ_cons]; exact q2⟩
theorem nums_ok {e : En} (h : e.form = true) : OkN e.nums := fun x hx => by have := (form_fits h).1 x hx; omega
theorem nums_len (e : En) : e.nums.length = 10 + 4 * e.ts.length := by
  unfold En.nums
  have : ∀ ts : List Tk, (ts.flatMap Tk.ns).length = 4 * ts.length := fun ts => by
    induction ts with
    | nil => rfl
    | cons t ts ih =>
      show (t.ns ++ ts.flatMap Tk.ns).length = _
      rw [List.length_append, ih, List.length_cons]
      show 4 + _ = _
      omega
  rw [List.length_append, this]
  rfl
/-- Bytes that begin with numbers, against an entry's. -/
theorem put_begin {e : En} (h : e.form = true) {ns : List Int} {r : List Nat} (hn : OkN ns) (hl : ns.length ≤ e.nums.length) (hp : e.put = putN ns ++ r) : e.nums.take ns.length = ns ∧ r = putN (e.nums.drop ns.length) :=
  putN_split ns e.nums r hn (nums_ok h) hl hp
/-- A number more of an entry's is read. -/
theorem put_next {e : En} (h : e.form = true) {ns : List Int} {r : List Nat} (hn : OkN ns) (hl : ns.length < e.nums.length) (hp : e.put = putN ns ++ r) : ∃ x k, Wr.rd r = some (x, k) ∧ x ≤ 1099511627776 := by
  obtain ⟨_, h2⟩ := put_begin h hn (by omega) hp
  have h3 : e.nums.drop ns.length = e.nums[ns.length] :: e.nums.drop (ns.length + 1) := List.drop_eq_getElem_cons hl
  have h4 := (form_fits h).1 _ (List.getElem_mem hl)
  rw [h3, putN_cons] at h2
  exact ⟨_, _, by rw [h2]; exact Wr.rd_num _ _ (by omega), by omega⟩
/-- The tasks of numbers, four and four. -/
def tksOf : List Int → List Tk
  | c :: p :: d :: s :: l => ⟨c, p, d, s⟩ :: tksOf l
  | _ => []
theorem tksOf_ns : ∀ (k : Nat) (l : List Int), l.length = 4 * k → (tksOf l).length = k ∧ (tksOf l).flatMap Tk.ns = l
  | 0, l, h => by
    have : l = [] := List.eq_nil_of_length_eq_zero (by omega)
    subst this
    exact ⟨rfl, rfl⟩
  | k + 1, c :: p :: d :: s :: l, h => by
    obtain ⟨h1, h2⟩ := tksOf_ns k l (by simp at h; omega)
    refine ⟨by simp [tksOf, h1], ?_⟩
    show Tk.ns ⟨c, p, d, s⟩ ++ (tksOf l).flatMap Tk.ns = _
    rw [h2]
    rfl
  | k + 1, [], h => by simp at h
  | k + 1, [_], h => by simp at h; omega
  | k + 1, [_, _], h => by simp at h; omega
  | k + 1, [_, _, _], h => by simp at h; omega
theorem tksOf_of : ∀ ts : List Tk, tksOf (ts.flatMap Tk.ns) = ts
  | [] => rfl
  | t :: ts => by
    show tksOf (t.C :: t.P :: t.D :: t.S :: ts.flatMap Tk.ns) = _
    rw [tksOf, tksOf_of ts]
/-- The entry of numbers. -/
def enOf (l : List Int) : En := ⟨l.getD 0 0, l.getD 1 0, l.getD 2 0, l.getD 4 0, l.getD 5 0, l.getD 6 0, l.getD 7 0, l.getD 8 0, l.getD 3 0, tksOf (l.drop 10)⟩
theorem enOf_nums {l : List Int} {k : Nat} (h : l.length = 10 + 4 * k) (h9 : l.getD 9 0 = (k : Int)) : (enOf l).nums = l ∧ (enOf l).ts.length = k := by
  obtain ⟨h1, h2⟩ := tksOf_ns k (l.drop 10) (by rw [List.length_drop]; omega)
  refine ⟨?_, h1⟩
  obtain ⟨a0, l, rfl⟩ := List.exists_cons_of_length_pos (l := l) (by omega)
  obtain ⟨a1, l, rfl⟩ := List.exists_cons_of_length_pos (l := l) (by simp only [List.length_cons] at h; omega)
  obtain ⟨a2, l, rfl⟩ := List.exists_cons_of_length_pos (l := l) (by simp only [List.length_cons] at h; omega)
  obtain ⟨a3, l, rfl⟩ := List.exists_cons_of_length_pos (l := l) (by simp only [List.length_cons] at h; omega)
  obtain ⟨a4, l, rfl⟩ := List.exists_cons_of_length_pos (l := l) (by simp only [List.length_cons] at h; omega)
  obtain ⟨a5, l, rfl⟩ := List.exists_cons_of_length_pos (l := l) (by simp only [List.length_cons] at h; omega)
  obtain ⟨a6, l, rfl⟩ := List.exists_cons_of_length_pos (l := l) (by simp only [List.length_cons] at h; omega)
  obtain ⟨a7, l, rfl⟩ := List.exists_cons_of_length_pos (l := l) (by simp only [List.length_cons] at h; omega)
  obtain ⟨a8, l, rfl⟩ := List.exists_cons_of_length_pos (l := l) (by simp only [List.length_cons] at h; omega)
  obtain ⟨a9, m, rfl⟩ := List.exists_cons_of_length_pos (l := l) (by simp only [List.length_cons] at h; omega)
  have h1' : (tksOf m).length = k := h1
  have h2' : (tksOf m).flatMap Tk.ns = m := h2
  have h9' : a9 = (k : Int) := h9
  show [a0, a1, a2, a3, a4, a5, a6, a7, a8, ((tksOf m).length : Int)] ++ (tksOf m).flatMap Tk.ns = _
  rw [h1', h2', h9']
  rfl
theorem enOf_of (e : En) : enOf e.nums = e := by
  show (⟨e.cl, e.nu, e.kd, e.id, e.sk, e.sq, e.st, e.pol, e.at_, tksOf (e.ts.flatMap Tk.ns)⟩ : En) = e
  rw [tksOf_of]
theorem nums_inj {e d : En} (h : e.nums = d.nums) : e = d := by rw [← enOf_of e, h, enOf_of]
/-- Unlike entries have unlike bytes. -/
theorem put_inj {e d : En} (he : e.form = true) (hd : d.form = true) (h : e.put = d.put) : e = d := by
  rcases Nat.le_total e.nums.length d.nums.length with hl | hl
  · obtain ⟨h1, h2⟩ := put_begin hd (nums_ok he) hl (r := []) (by rw [← h]; simp [En.put])
    have h3 : d.nums.drop e.nums.length = [] := by
      cases hh : d.nums.drop e.nums.length with
      | nil => rfl
      | cons x l =>
        rw [hh, putN_cons] at h2
        have := Wr.num_pos x.toNat
        have h4 := congrArg List.length h2
        simp only [List.length_append, List.length_nil] at h4
        omega
    rw [List.drop_eq_nil_iff] at h3
    rw [List.take_of_length_le h3] at h1
    exact nums_inj h1.symm
  · obtain ⟨h1, h2⟩ := put_begin he (nums_ok hd) hl (r := []) (by rw [h]; simp [En.put])
    have h3 : e.nums.drop d.nums.length = [] := by
      cases hh : e.nums.drop d.nums.length with
      | nil => rfl
      | cons x l =>
        rw [hh, putN_cons] at h2
        have := Wr.num_pos x.toNat
        have h4 := congrArg List.length h2
        simp only [List.length_append, List.length_nil] at h4
        omega
    rw [List.drop_eq_nil_iff] at h3
    rw [List.take_of_length_le h3] at h1
    exact nums_inj h1
theorem put_len {e : En} (h : e.form = true) : e.put.length ≤ 378 := by
  have h1 := putN_len e.nums (fun x hx => by have := nums_ok h x hx; omega)
  have h2 := nums_len e
  have h3 := (form_fits h).2
  unfold En.put
  omega
/-- A ledger's bytes. -/
def putL (l : List En) : List Nat := Wr.num l.length ++ l.flatMap fun e => Wr.num e.put.length ++ e.put
end Go.Proofs.YteflnnlihblpgaaDoor
namespace Go.Proofs.YteflnnlihblpgaaDoor
set_option linter.unusedVariables false
structure Part (l : List Nat) (at_ : Nat) (ns : List Int) : Prop where
  eq : l = putN ns ++ l.drop at_
  len : at_ = (putN ns).length
  ok : ∀ x ∈ ns, 0 ≤ x ∧ x ≤ 1099511627776
section
variable {l : List Nat} {at_ : Nat} {ns : List Int}
theorem Part.nil : Part l 0 [] := ⟨by simp [putN], rfl, by simp⟩
theorem Part.okN (h : Part l at_ ns) : OkN ns := fun x hx => by have := h.ok x hx; omega
theorem Part.next (h : Part l at_ ns) (hb : ∀ c ∈ l, c < 256) {x k : Nat} (hr : Wr.rd (l.drop at_) = some (x, k)) (hx : x ≤ 1099511627776) : Part l (at_ + k) (ns ++ [(x : Int)]) := by
  obtain ⟨h1, h2⟩ := Wr.rd_inv (fun c hc => hb c (List.mem_of_mem_drop hc)) hr
  rw [List.drop_drop] at h2
  refine ⟨?_, ?_, fun y hy => ?_⟩
  · rw [putN_app, putN_one, Int.toNat_natCast, List.append_assoc, ← h2]; exact h.eq
  · rw [putN_app, putN_one, Int.toNat_natCast, List.length_append, ← h1, ← h.len]
  · rcases List.mem_append.1 hy with hy | hy
    · exact h.ok y hy
    · have := List.mem_singleton.1 hy; omega
theorem Part.no_next (h : Part l at_ ns) (hno : ∀ x k, Wr.rd (l.drop at_) = some (x, k) → (1099511627776 : Int) < (x : Int)) {e : En} (he : e.form = true) (hl : ns.length < e.nums.length) : l ≠ e.put := fun hle => by
  obtain ⟨x, k, h1, h2⟩ := put_next he h.okN hl (r := l.drop at_) (by rw [← hle]; exact h.eq)
  have := hno x k h1
  omega
theorem nums_head (e : En) : e.nums.take 10 = e.head := by
  unfold En.nums
  exact List.take_left' rfl
theorem nums_nine (e : En) : e.nums.getD 9 0 = (e.ts.length : Int) := rfl
theorem Part.take10 (h : Part l at_ ns) (hn : 10 ≤ ns.length) {e : En} (he : e.form = true) (hle : l = e.put) : e.nums.take 10 = ns.take 10 := by
  have h1 : putN ns = putN (ns.take 10) ++ putN (ns.drop 10) := by rw [← putN_app, List.take_append_drop]
  have h2 := put_begin he (ns := ns.take 10) (r := putN (ns.drop 10) ++ l.drop at_) (fun x hx => h.okN x (List.mem_of_mem_take hx)) (by rw [List.length_take, nums_len]; omega) (by rw [← List.append_assoc, ← h1, ← hle]; exact h.eq)
  rw [List.length_take, Nat.min_eq_left hn] at h2
  exact h2.1
theorem getD_take {m : List Int} {i k : Nat} (h : i < k) : (m.take k).getD i 0 = m.getD i 0 := by
  simp [List.getD, h]
theorem Part.nine (h : Part l at_ ns) (hn : 10 ≤ ns.length) {e : En} (he : e.form = true) (hle : l = e.put) : ns.getD 9 0 = (e.ts.length : Int) := by
  have h1 := congrArg (fun m : List Int => m.getD 9 0) (h.take10 hn he hle)
  rw [getD_take (by omega), getD_take (by omega), nums_nine] at h1
  exact h1.symm
theorem Part.no_big (h : Part l at_ ns) (hn : 10 ≤ ns.length) (h9 : 8 < ns.getD 9 0) {e : En} (he : e.form = true) : l ≠ e.put := fun hle => by
  have h1 := h.nine hn he hle
  have h2 := (form_fits he).2
  omega
/-- All numbers have been read: it is this entry, or none. -/
theorem Part.only (h : Part l at_ ns) {k : Nat} (hn : ns.length = 10 + 4 * k) (h9 : ns.getD 9 0 = (k : Int)) {e : En} (he : e.form = true) (hle : l = e.put) : e = enOf ns := by
  have h1 := h.nine (by omega) he hle
  have h2 := nums_len e
  obtain ⟨h3, h4⟩ := put_begin he h.okN (by omega) (r := l.drop at_) (by rw [← hle]; exact h.eq)
  rw [List.take_of_length_le (by omega)] at h3
  rw [← enOf_of e, h3]
theorem Part.none_of (h : Part l at_ ns) {k : Nat} (hn : ns.length = 10 + 4 * k) (h9 : ns.getD 9 0 = (k : Int)) (hno : at_ < l.length ∨ (enOf ns).form = false) {e : En} (he : e.form = true) : l ≠ e.put := fun hle => by
  have h1 := h.only hn h9 he hle
  rcases hno with hlt | hf
  · have h2 := (enOf_nums hn h9).1
    have h3 : l.length = at_ := by rw [hle, h1]; unfold En.put; rw [h2]; exact h.len.symm
    omega
  · rw [h1, hf] at he; cases he
theorem Part.done (h : Part l at_ ns) {k : Nat} (hn : ns.length = 10 + 4 * k) (h9 : ns.getD 9 0 = (k : Int)) (hat : l.length ≤ at_) : l = (enOf ns).put := by
  have h1 := h.eq
  rw [List.drop_eq_nil_of_le hat, List.append_nil] at h1
  unfold En.put
  rw [(enOf_nums hn h9).1]
  exact h1
end
end Go.Proofs.YteflnnlihblpgaaDoor
namespace Go.Proofs.YteflnnlihblpgaaDoor
set_option maxRecDepth 100000
open Go.RowKit
set_option linter.unusedVariables false
theorem Own.other {w : World} {b1 b2 n c m d z1 z2 : Nat} {e1 e2 : TypeId} {A B : Option Addr} {xs ys : List Value} (h : Own w b1 e1 z1 A n c xs) (k : Own w b2 e2 z2 B m d ys) (hne : e1 ≠ e2) : ∀ a, B = some a → A.map (·.block) ≠ some a.block := by
  intro a ha hA
  rcases h.2 with ⟨h1, _⟩ | ⟨g, cap, cur, h1, _, hg, _⟩
  · injection h1 with h1
    subst h1
    cases hA
  · injection h1 with h1
    subst h1
    rcases k.2 with ⟨k1, _⟩ | ⟨g', cap', cur', k1, _, kg, _⟩
    · injection k1 with k1
      rw [ha] at k1
      cases k1
    · injection k1 with k1
      rw [ha] at k1
      injection k1 with k1
      subst k1
      simp only [Option.map_some, Option.some.injEq] at hA
      subst hA
      rw [hg] at kg
      simp only [Option.some.injEq, Obj.cells.injEq] at kg
      exact hne kg.2.1
section
variable {w w' : World} {base m d : Nat} {B : Option Addr} {ss : List EnS}
/-- Behind an append to a ledger's row each entry's tasks lie as they lay. -/
theorem OLed.grown (h : OLed w base B m d ss) (hg : Grows w w' B) : ∀ s ∈ ss, s.Lies w' ∧ s.Mine base w' := fun s hs => by
  obtain ⟨h1, h2⟩ := h.all s hs
  have h3 : Own w' base 47 4 s.A s.n s.c (trows s.e.ts).flatten := (Fr.grows hg).own h2 (fun a ha e => h.own.other h2 (by decide) a ha e)
  exact ⟨⟨h3.rd, h1.le, h1.cap⟩, h3⟩
/-- An entry more. -/
theorem OLed.snoc (h : OLed w base B m d ss) (hg : Grows w w' B) {x : EnS} (hx : x.Lies w) (hm : x.Mine base w) {B' : Option Addr} {d' : Nat} (ho : Own w' base 29 10 B' (m + 1) d' ((erows ss).flatten ++ x.vals)) : OLed w' base B' (m + 1) d' (ss ++ [x]) := by
  refine ⟨by rw [erows_app]; simpa [erows] using ho, fun s hs => ?_⟩
  rcases List.mem_append.1 hs with hs | hs
  · exact h.grown hg s hs
  · obtain rfl := List.mem_singleton.1 hs
    have h3 : Own w' base 47 4 s.A s.n s.c (trows s.e.ts).flatten := (Fr.grows hg).own hm (fun a ha e => h.own.other hm (by decide) a ha e)
    exact ⟨⟨h3.rd, hx.le, hx.cap⟩, h3⟩
end
/-- A ledger's entries more. -/
theorem OLed.app {w w' : World} {base m d k : Nat} {B : Option Addr} {ss tt : List EnS} (h : OLed w base B m d ss) (hg : Grows w w' B) (h2 : ∀ x ∈ tt, x.Lies w ∧ x.Mine base w) {B' : Option Addr} {d' : Nat} (ho : Own w' base 29 10 B' (m + k) d' ((erows ss).flatten ++ (erows tt).flatten)) : OLed w' base B' (m + k) d' (ss ++ tt) := by
  refine ⟨by rw [erows_app]; exact ho, fun s hs => ?_⟩
  rcases List.mem_append.1 hs with hs | hs
  · exact h.grown hg s hs
  · obtain ⟨h3, h4⟩ := h2 s hs
    have h5 : Own w' base 47 4 s.A s.n s.c (trows s.e.ts).flatten := (Fr.grows hg).own h4 (fun a ha e => h.own.other h4 (by decide) a ha e)
    exact ⟨⟨h5.rd, h3.le, h3.cap⟩, h5⟩
/-- An entry laid into a block of its own. -/
theorem rd_entry (x : EnS) (w : World) : Rd (w.alloc (.cells #[.int .i64 x.e.cl, .int .i64 x.e.nu, .int .i64 x.e.kd, .int .i64 x.e.id, .int .i64 x.e.sk, .int .i64 x.e.sq, .int .i64 x.e.st, .int .i64 x.e.pol, .slice x.A x.n x.c, .int .i64 x.e.at_] 29)) 10 (some ⟨w.heap.size, 0, none⟩) 1 x.vals :=
  ⟨rfl, fun _ => ⟨_, rfl, by rw [World.size_alloc]; exact Nat.lt_succ_self _, World.news_of_block (heap_alloc_new w _)⟩⟩
set_option maxHeartbeats 800000 in
theorem clonet_any (s : EnS) (w : World) (hs : s.Lies w) : Calls Tryd.prog 76 #[.slice s.A s.n s.c] w fun e w' => ∃ A' c', e = .returned (.slice A' s.n c') ∧ Own w' w.heap.size 47 4 A' s.n c' (trows s.e.ts).flatten ∧ Ext w w' := by
  have hr := hs.rd
  have hle := hs.le
  obtain ⟨e, A, n, c⟩ := s
  dsimp only at hr hle ⊢
  have HR := Lib.hid hr
  cases A with
  | none =>
    obtain rfl : n = 0 := by
      rcases Nat.eq_zero_or_pos n with h | h
      · exact h
      · obtain ⟨_, h, _⟩ := hr.2 h; cases h
    have hx : (trows e.ts).flatten = [] := List.eq_nil_of_length_eq_zero (by have := hr.1; omega)
    have HX := Lib.hid hx
    have hq := fun (w : World) (a : Option Addr) (n c : Nat) => Lib.run_eql_slice_nil (P := Tryd.prog) w 25 47 a n c 0 0 Tryd.underlying25
    clear hr hx hs
    go_enter Tryd.func76, Tryd.ntmps76
    go_wp2_with fail
    go_returns
    exact ⟨none, 0, rfl, by rw [HX.out]; exact Own.nil_, Ext.refl w⟩
  | some ad =>
    have hq := fun (w : World) (a : Option Addr) (n c : Nat) => Lib.run_eql_slice_nil (P := Tryd.prog) w 25 47 a n c 0 0 Tryd.underlying25
    have o0 : Own (w.alloc (.cells #[] 47)) w.heap.size 47 4 (some ⟨w.heap.size, 0, none⟩) 0 0 [] := World.ownsRow_lit (size := 4) _ #[] 0 (Nat.le_refl _) (by simp [maxLen]) rfl
    have x0 := (Ext.refl w).alloc (.cells #[] 47)
    clear hr hs
    go_enter Tryd.func76, Tryd.ntmps76
    go_wp2_with (at_builtin; refine held ?_)
    refine Held.go (wp_app (m := n) (news := (trows e.ts).flatten) eltTk o0 (HR.out.ext x0) (trows_one _) (by omega) (.inr ⟨by omega, by omega⟩) x0.size _ _ rfl rfl rfl rfl ?_)
    intro A2 c2 w2 o2 g2 _ _
    have x2 := o0.fr_ext x0 (Nat.le_refl _) (Fr.grows g2)
    rw [List.nil_append, Nat.zero_add] at o2
    have HF := Lib.hid (And.intro o2 x2)
    clear o2 g2 x2 o0 x0
    go_wp2_with fail
    go_returns
    exact ⟨A2, c2, rfl, HF.out.1, HF.out.2⟩
set_option maxHeartbeats 3200000 in
theorem rcopy_any (A : Option Addr) (n c : Nat) (ss : List EnS) (w : World) (hs : Led w A n ss) (hn : n ≤ 1500000000000) : Calls Tryd.prog 13 #[.slice A n c] w fun e w' => ∃ B d tt, e = .returned (.slice B n d) ∧ ents tt = ents ss ∧ OLed w' w.heap.size B n d tt ∧ Ext w w' := by
  have hsl := hs.len
  have HR := Lib.hid hs
  clear hs
  have o0 : OLed (w.alloc (.cells #[] 29)) w.heap.size (some ⟨w.heap.size, 0, none⟩) 0 0 [] := ⟨World.ownsRow_lit (size := 10) _ #[] 0 (Nat.le_refl _) (by simp [maxLen]) rfl, by simp⟩
  have x0 := (Ext.refl w).alloc (.cells #[] 29)
  have H0 := Lib.hid (And.intro o0 x0)
  clear o0 x0
  go_enter Tryd.func13, Tryd.ntmps13
  go_upto_region 3 with (fail)
  go_loopw [3, 9] (fun v3 v9 wr => ∃ (k : Nat) (B : Option Addr) (d : Nat), v9 = .int .i64 (k : Int) ∧ v3 = .slice B k d ∧ k ≤ n ∧ Hid (∃ tt, ents tt = (ents ss).take k ∧ OLed wr w.heap.size B k d tt ∧ Ext w wr)) (fun _ v9 _ => n - (intOf v9).toNat)
  case atStart => exact ⟨0, _, 0, rfl, rfl, by omega, [], rfl, H0.out.1, H0.out.2⟩
  case round =>
    obtain ⟨k, B, d, rfl, rfl, hk, HI⟩ := hrel
    obtain ⟨tt, ht, ho, hx⟩ := HI.out
    have HO := Lib.hid (And.intro ht (And.intro ho hx))
    clear ht ho hx HI
    by_cases hlt : k < n
    · obtain ⟨x, hx⟩ : ∃ x, ss[k]? = some x := ⟨ss[k]'(by omega), List.getElem?_eq_getElem _⟩
      obtain ⟨k10, hk10⟩ : ∃ k10, k * 10 = k10 := ⟨_, rfl⟩
      obtain ⟨ad, rfl, y0, y1, y2, y3, y4, y5, y6, y7, y8, y9⟩ := (HR.out.ext HO.out.2.2).entry hx hk10
      have k0 : (0 : Int) ≤ k := by omega
      have k1 : (k : Int) < n := by omega
      have HX := Lib.hid hx
      have X5 := (Ext.refl wr).alloc (.cells #[.int .i64 x.e.cl, .int .i64 x.e.nu, .int .i64 x.e.kd, .int .i64 x.e.id, .int .i64 x.e.sk, .int .i64 x.e.sq, .int .i64 x.e.st, .int .i64 x.e.pol, .slice x.A x.n x.c, .int .i64 x.e.at_] 29)
      have H5 := Lib.hid (And.intro (heap_alloc_new wr (.cells #[.int .i64 x.e.cl, .int .i64 x.e.nu, .int .i64 x.e.kd, .int .i64 x.e.id, .int .i64 x.e.sk, .int .i64 x.e.sq, .int .i64 x.e.st, .int .i64 x.e.pol, .slice x.A x.n x.c, .int .i64 x.e.at_] 29)) (And.intro X5 (And.intro (HO.out.2.2.trans X5) HO.out.2.2.size)))
      have HL := Lib.hid ((HR.out.all x (List.mem_of_getElem? hx)).ext (HO.out.2.2.trans X5))
      have HOW := Lib.hid (HO.out.2.1.ext X5)
      clear hx X5
      go_upto_region 5 with (fail)
      generalize wr.alloc (.cells #[.int .i64 x.e.cl, .int .i64 x.e.nu, .int .i64 x.e.kd, .int .i64 x.e.id, .int .i64 x.e.sk, .int .i64 x.e.sq, .int .i64 x.e.st, .int .i64 x.e.pol, .slice x.A x.n x.c, .int .i64 x.e.at_] 29) = V5 at *
      generalize htbe : wr.heap.size = tb at *
      have HTB := Lib.hid htbe
      clear htbe
      clear y0 y1 y2 y3 y4 y5 y6 y7 y8 y9
      have c8 : V5.cell? ⟨tb, 8, none⟩ = some (.slice x.A x.n x.c) := block_cell H5.out.1 8
      have hle := HL.out.le
      have hcap := HL.out.cap
      have o1 : Own (V5.alloc (.cells #[] 47)) V5.heap.size 47 4 (some ⟨V5.heap.size, 0, none⟩) 0 0 [] := World.ownsRow_lit (size := 4) _ #[] 0 (Nat.le_refl _) (by simp [maxLen]) rfl
      have x1 := (Ext.refl V5).alloc (.cells #[] 47)
      have c8' := (x1.cell (p := ⟨tb, 8, none⟩) (block_lt H5.out.1)).trans c8
      have hne : V5.heap.size ≠ tb := by have := block_lt H5.out.1; omega
      go_wp2_with (at_builtin; refine held ?_)
      refine Held.go (wp_app (m := x.n) (news := (trows x.e.ts).flatten) eltTk o1 (HL.out.rd.ext x1) (trows_one _) (by omega) (.inr ⟨by omega, by omega⟩) x1.size _ _ rfl rfl rfl rfl ?_)
      intro A2 c2 w2 o2 g2 _ _
      have x2 := o1.fr_ext x1 (Nat.le_refl _) (Fr.grows g2)
      rw [List.nil_append] at o2
      have hN : 0 + x.n = x.n := Nat.zero_add _
      rw [hN] at o2
      rw [hN]
      clear hN c8' hne
      have b2 := (x2.block tb (block_lt H5.out.1)).trans H5.out.1
      have f8 : w2.frozen? ⟨tb, 8, none⟩ = false := block_fz b2 8
      have d8 : w2.cell? ⟨tb, 8, none⟩ = some (.slice x.A x.n x.c) := block_cell b2 8
      have hcc := o2.cap_le
      have htb : tb < V5.heap.size := block_lt H5.out.1
      have F8 := Fr.store w2 ⟨tb, 8, none⟩ (.slice A2 x.n c2)
      have b8 : (w2.setCell ⟨tb, 8, none⟩ (.slice A2 x.n c2)).heap[tb]? = some (.cells #[.int .i64 x.e.cl, .int .i64 x.e.nu, .int .i64 x.e.kd, .int .i64 x.e.id, .int .i64 x.e.sk, .int .i64 x.e.sq, .int .i64 x.e.st, .int .i64 x.e.pol, .slice A2 x.n c2, .int .i64 x.e.at_] 29 (0, 0)) := heap_setCell_same w2 tb 8 _ _ _ b2
      have o8 : Own (w2.setCell ⟨tb, 8, none⟩ (.slice A2 x.n c2)) w.heap.size 47 4 A2 x.n c2 (trows x.e.ts).flatten := (F8.own o2 (fun a ha e => by
        have h1 := o2.base_le a.block (by rw [ha]; rfl)
        have h2 : a.block = tb := e
        omega)).base_mono (by have := H5.out.2.2.1.size; omega)
      have x8 : Ext w (w2.setCell ⟨tb, 8, none⟩ (.slice A2 x.n c2)) := Fr.ext (H5.out.2.2.1.trans x2) F8 (fun i e => by have := H5.out.2.2.2; have e : i = tb := e; omega)
      have w8 : OLed (w2.setCell ⟨tb, 8, none⟩ (.slice A2 x.n c2)) w.heap.size B k d tt := (HO.out.2.1).ext (Fr.ext (H5.out.2.1.trans x2) F8 (fun i e => by have e : i = tb := e; have := HTB.out; omega))
      have H8 := Lib.hid (And.intro b8 (And.intro o8 (And.intro x8 w8)))
      clear b8 o8 x8 w8 F8 o2 x2 c8 b2 o1 x1 g2
      go_upto_region 6 with (fail)
      clear f8 d8
      generalize w2.setCell ⟨tb, 8, none⟩ (.slice A2 x.n c2) = V8 at *
      have e0 : V8.cell? ⟨tb, 0, none⟩ = some (.int .i64 x.e.cl) := block_cell (H8.out.1) 0
      have e1 : V8.cell? ⟨tb, 1, none⟩ = some (.int .i64 x.e.nu) := block_cell (H8.out.1) 1
      have e2 : V8.cell? ⟨tb, 2, none⟩ = some (.int .i64 x.e.kd) := block_cell (H8.out.1) 2
      have e3 : V8.cell? ⟨tb, 3, none⟩ = some (.int .i64 x.e.id) := block_cell (H8.out.1) 3
      have e4 : V8.cell? ⟨tb, 4, none⟩ = some (.int .i64 x.e.sk) := block_cell (H8.out.1) 4
      have e5 : V8.cell? ⟨tb, 5, none⟩ = some (.int .i64 x.e.sq) := block_cell (H8.out.1) 5
      have e6 : V8.cell? ⟨tb, 6, none⟩ = some (.int .i64 x.e.st) := block_cell (H8.out.1) 6
      have e7 : V8.cell? ⟨tb, 7, none⟩ = some (.int .i64 x.e.pol) := block_cell (H8.out.1) 7
      have e8 : V8.cell? ⟨tb, 8, none⟩ = some (.slice A2 x.n c2) := block_cell (H8.out.1) 8
      have e9 : V8.cell? ⟨tb, 9, none⟩ = some (.int .i64 x.e.at_) := block_cell (H8.out.1) 9
      have X9 := (Ext.refl V8).alloc (.cells #[.int .i64 x.e.cl, .int .i64 x.e.nu, .int .i64 x.e.kd, .int .i64 x.e.id, .int .i64 x.e.sk, .int .i64 x.e.sq, .int .i64 x.e.st, .int .i64 x.e.pol, .slice A2 x.n c2, .int .i64 x.e.at_] 29)
      have RN := rd_entry ⟨x.e, A2, x.n, c2⟩ V8
      go_wp2_with (at_builtin; refine held ?_)
      refine Held.go (wp_app (m := 1) (news := (EnS.mk x.e A2 x.n c2).vals) eltEn (H8.out.2.2.2.ext X9).own RN (vals_one _) (by omega) (.inr ⟨by omega, by omega⟩) (by have := (H8.out.2.2.1.trans X9).size; exact this) _ _ rfl rfl rfl rfl ?_)
      intro A3 c3 w3 o3 g3 _ _
      have xm : EnS.Lies ⟨x.e, A2, x.n, c2⟩ (V8.alloc (.cells #[.int .i64 x.e.cl, .int .i64 x.e.nu, .int .i64 x.e.kd, .int .i64 x.e.id, .int .i64 x.e.sk, .int .i64 x.e.sq, .int .i64 x.e.st, .int .i64 x.e.pol, .slice A2 x.n c2, .int .i64 x.e.at_] 29)) := ⟨H8.out.2.1.rd.ext X9, hle, hcc⟩
      have o4 := (H8.out.2.2.2.ext X9).snoc g3 xm (H8.out.2.1.ext X9) o3
      have x4 : Ext w w3 := g3.ext (H8.out.2.2.1.trans X9) (fun g hg => (H8.out.2.2.2.own).base_le g hg)
      have H9 := Lib.hid (And.intro o4 x4)
      clear o3 g3 o4 x4 xm RN X9 e0 e1 e2 e3 e4 e5 e6 e7 e8 e9
      go_wp2_with fail
      go_roundw
      case rel =>
        refine ⟨k + 1, A3, c3, by go_num, rfl, by omega, Lib.hid ⟨tt ++ [⟨x.e, A2, x.n, c2⟩], ?_, H9.out.1, H9.out.2⟩⟩
        rw [take_succ' (ents_at HX.out), ← HO.out.1]
        simp [ents]
      case measure => simp [intOf]; omega
    · obtain rfl : n = k := by omega
      go_wp2_with fail
      go_returns
      refine ⟨B, d, tt, rfl, ?_, HO.out.2.1, HO.out.2.2⟩
      rw [HO.out.1]
      exact List.take_of_length_le (by rw [ents_len]; omega)
set_option maxHeartbeats 3200000 in
theorem copied_any (A : Option Addr) (n c : Nat) (ss : List EnS) (w : World) (hs : Led w A n ss) (hn : n ≤ 1500000000000) : Calls Tryd.prog 45 #[.slice A n c] w fun e w' => ∃ B d tt, e = .returned (.slice B n d) ∧ ents tt = ents ss ∧ OLed w' w.heap.size B n d tt ∧ Ext w w' := by
  have hsl := hs.len
  have HR := Lib.hid hs
  clear hs
  have o0 : OLed w w.heap.size none 0 0 [] := OLed.nil_
  have x0 := Ext.refl w
  have H0 := Lib.hid (And.intro o0 x0)
  clear o0 x0
  go_enter Tryd.func45, Tryd.ntmps45
  go_upto_region 3 with (fail)
  go_loopw [3, 8] (fun v3 v9 wr => ∃ (k : Nat) (B : Option Addr) (d : Nat), v9 = .int .i64 (k : Int) ∧ v3 = .slice B k d ∧ k ≤ n ∧ Hid (∃ tt, ents tt = (ents ss).take k ∧ OLed wr w.heap.size B k d tt ∧ Ext w wr)) (fun _ v9 _ => n - (intOf v9).toNat)
  case atStart => exact ⟨0, _, 0, rfl, rfl, by omega, [], rfl, H0.out.1, H0.out.2⟩
  case round =>
    obtain ⟨k, B, d, rfl, rfl, hk, HI⟩ := hrel
    obtain ⟨tt, ht, ho, hx⟩ := HI.out
    have HO := Lib.hid (And.intro ht (And.intro ho hx))
    clear ht ho hx HI
    by_cases hlt : k < n
    · obtain ⟨x, hx⟩ : ∃ x, ss[k]? = some x := ⟨ss[k]'(by omega), List.getElem?_eq_getElem _⟩
      obtain ⟨k10, hk10⟩ : ∃ k10, k * 10 = k10 := ⟨_, rfl⟩
      obtain ⟨ad, rfl, y0, y1, y2, y3, y4, y5, y6, y7, y8, y9⟩ := (HR.out.ext HO.out.2.2).entry hx hk10
      have k0 : (0 : Int) ≤ k := by omega
      have k1 : (k : Int) < n := by omega
      have HX := Lib.hid hx
      have X5 := (Ext.refl wr).alloc (.cells #[.int .i64 x.e.cl, .int .i64 x.e.nu, .int .i64 x.e.kd, .int .i64 x.e.id, .int .i64 x.e.sk, .int .i64 x.e.sq, .int .i64 x.e.st, .int .i64 x.e.pol, .slice x.A x.n x.c, .int .i64 x.e.at_] 29)
      have H5 := Lib.hid (And.intro (heap_alloc_new wr (.cells #[.int .i64 x.e.cl, .int .i64 x.e.nu, .int .i64 x.e.kd, .int .i64 x.e.id, .int .i64 x.e.sk, .int .i64 x.e.sq, .int .i64 x.e.st, .int .i64 x.e.pol, .slice x.A x.n x.c, .int .i64 x.e.at_] 29)) (And.intro X5 (And.intro (HO.out.2.2.trans X5) HO.out.2.2.size)))
      have HL := Lib.hid ((HR.out.all x (List.mem_of_getElem? hx)).ext (HO.out.2.2.trans X5))
      have HOW := Lib.hid (HO.out.2.1.ext X5)
      clear hx X5
      go_upto_region 5 with (fail)
      generalize wr.alloc (.cells #[.int .i64 x.e.cl, .int .i64 x.e.nu, .int .i64 x.e.kd, .int .i64 x.e.id, .int .i64 x.e.sk, .int .i64 x.e.sq, .int .i64 x.e.st, .int .i64 x.e.pol, .slice x.A x.n x.c, .int .i64 x.e.at_] 29) = V5 at *
      generalize htbe : wr.heap.size = tb at *
      have HTB := Lib.hid htbe
      clear htbe
      clear y0 y1 y2 y3 y4 y5 y6 y7 y8 y9
      have c8 : V5.cell? ⟨tb, 8, none⟩ = some (.slice x.A x.n x.c) := block_cell H5.out.1 8
      have hle := HL.out.le
      have hcap := HL.out.cap
      have CC := Lib.hid (clonet_any x V5 HL.out)
      go_wp2_with (go_at_call 76; refine held ?_)
      refine Held.go (CC.out.mono ?_)
      rintro e w2 ⟨A2, c2, rfl, o2, x2⟩
      have b2 := (x2.block tb (block_lt H5.out.1)).trans H5.out.1
      have f8 : w2.frozen? ⟨tb, 8, none⟩ = false := block_fz b2 8
      have d8 : w2.cell? ⟨tb, 8, none⟩ = some (.slice x.A x.n x.c) := block_cell b2 8
      have hcc := o2.cap_le
      have htb : tb < V5.heap.size := block_lt H5.out.1
      have F8 := Fr.store w2 ⟨tb, 8, none⟩ (.slice A2 x.n c2)
      have b8 : (w2.setCell ⟨tb, 8, none⟩ (.slice A2 x.n c2)).heap[tb]? = some (.cells #[.int .i64 x.e.cl, .int .i64 x.e.nu, .int .i64 x.e.kd, .int .i64 x.e.id, .int .i64 x.e.sk, .int .i64 x.e.sq, .int .i64 x.e.st, .int .i64 x.e.pol, .slice A2 x.n c2, .int .i64 x.e.at_] 29 (0, 0)) := heap_setCell_same w2 tb 8 _ _ _ b2
      have o8 : Own (w2.setCell ⟨tb, 8, none⟩ (.slice A2 x.n c2)) w.heap.size 47 4 A2 x.n c2 (trows x.e.ts).flatten := (F8.own o2 (fun a ha e => by
        have h1 := o2.base_le a.block (by rw [ha]; rfl)
        have h2 : a.block = tb := e
        omega)).base_mono (by have := H5.out.2.2.1.size; omega)
      have x8 : Ext w (w2.setCell ⟨tb, 8, none⟩ (.slice A2 x.n c2)) := Fr.ext (H5.out.2.2.1.trans x2) F8 (fun i e => by have := H5.out.2.2.2; have e : i = tb := e; omega)
      have w8 : OLed (w2.setCell ⟨tb, 8, none⟩ (.slice A2 x.n c2)) w.heap.size B k d tt := (HO.out.2.1).ext (Fr.ext (H5.out.2.1.trans x2) F8 (fun i e => by have e : i = tb := e; have := HTB.out; omega))
      have H8 := Lib.hid (And.intro b8 (And.intro o8 (And.intro x8 w8)))
      clear b8 o8 x8 w8 F8 o2 x2 c8 b2 CC
      go_upto_region 6 with (fail)
      clear f8 d8
      generalize w2.setCell ⟨tb, 8, none⟩ (.slice A2 x.n c2) = V8 at *
      have e0 : V8.cell? ⟨tb, 0, none⟩ = some (.int .i64 x.e.cl) := block_cell (H8.out.1) 0
      have e1 : V8.cell? ⟨tb, 1, none⟩ = some (.int .i64 x.e.nu) := block_cell (H8.out.1) 1
      have e2 : V8.cell? ⟨tb, 2, none⟩ = some (.int .i64 x.e.kd) := block_cell (H8.out.1) 2
      have e3 : V8.cell? ⟨tb, 3, none⟩ = some (.int .i64 x.e.id) := block_cell (H8.out.1) 3
      have e4 : V8.cell? ⟨tb, 4, none⟩ = some (.int .i64 x.e.sk) := block_cell (H8.out.1) 4
      have e5 : V8.cell? ⟨tb, 5, none⟩ = some (.int .i64 x.e.sq) := block_cell (H8.out.1) 5
      have e6 : V8.cell? ⟨tb, 6, none⟩ = some (.int .i64 x.e.st) := block_cell (H8.out.1) 6
      have e7 : V8.cell? ⟨tb, 7, none⟩ = some (.int .i64 x.e.pol) := block_cell (H8.out.1) 7
      have e8 : V8.cell? ⟨tb, 8, none⟩ = some (.slice A2 x.n c2) := block_cell (H8.out.1) 8
      have e9 : V8.cell? ⟨tb, 9, none⟩ = some (.int .i64 x.e.at_) := block_cell (H8.out.1) 9
      have X9 := (Ext.refl V8).alloc (.cells #[.int .i64 x.e.cl, .int .i64 x.e.nu, .int .i64 x.e.kd, .int .i64 x.e.id, .int .i64 x.e.sk, .int .i64 x.e.sq, .int .i64 x.e.st, .int .i64 x.e.pol, .slice A2 x.n c2, .int .i64 x.e.at_] 29)
      have RN := rd_entry ⟨x.e, A2, x.n, c2⟩ V8
      go_wp2_with (at_builtin; refine held ?_)
      refine Held.go (wp_app (m := 1) (news := (EnS.mk x.e A2 x.n c2).vals) eltEn (H8.out.2.2.2.ext X9).own RN (vals_one _) (by omega) (.inr ⟨by omega, by omega⟩) (by have := (H8.out.2.2.1.trans X9).size; exact this) _ _ rfl rfl rfl rfl ?_)
      intro A3 c3 w3 o3 g3 _ _
      have xm : EnS.Lies ⟨x.e, A2, x.n, c2⟩ (V8.alloc (.cells #[.int .i64 x.e.cl, .int .i64 x.e.nu, .int .i64 x.e.kd, .int .i64 x.e.id, .int .i64 x.e.sk, .int .i64 x.e.sq, .int .i64 x.e.st, .int .i64 x.e.pol, .slice A2 x.n c2, .int .i64 x.e.at_] 29)) := ⟨H8.out.2.1.rd.ext X9, hle, hcc⟩
      have o4 := (H8.out.2.2.2.ext X9).snoc g3 xm (H8.out.2.1.ext X9) o3
      have x4 : Ext w w3 := g3.ext (H8.out.2.2.1.trans X9) (fun g hg => (H8.out.2.2.2.own).base_le g hg)
      have H9 := Lib.hid (And.intro o4 x4)
      clear o3 g3 o4 x4 xm RN X9 e0 e1 e2 e3 e4 e5 e6 e7 e8 e9
      go_wp2_with fail
      go_roundw
      case rel =>
        refine ⟨k + 1, A3, c3, by go_num, rfl, by omega, Lib.hid ⟨tt ++ [⟨x.e, A2, x.n, c2⟩], ?_, H9.out.1, H9.out.2⟩⟩
        rw [take_succ' (ents_at HX.out), ← HO.out.1]
        simp [ents]
      case measure => simp [intOf]; omega
    · obtain rfl : n = k := by omega
      go_wp2_with fail
      go_returns
      refine ⟨B, d, tt, rfl, ?_, HO.out.2.1, HO.out.2.2⟩
      rw [HO.out.1]
      exact List.take_of_length_le (by rw [ents_len]; omega)
end Go.Proofs.YteflnnlihblpgaaDoor
namespace Go.Proofs.YteflnnlihblpgaaDoor
set_option maxRecDepth 100000
open Go.RowKit
set_option linter.unusedVariables false
set_option maxHeartbeats 1600000 in
theorem put_no (s : EnS) (w : World) (hs : s.Lies w) (hf : s.e.form = false) {ps : Addr} (hS : Sen w 1 ps) : Calls Tryd.prog 26 #[.agg #[.int .i64 s.e.cl, .int .i64 s.e.nu, .int .i64 s.e.kd, .int .i64 s.e.id, .int .i64 s.e.sk, .int .i64 s.e.sq, .int .i64 s.e.st, .int .i64 s.e.pol, .slice s.A s.n s.c, .int .i64 s.e.at_]] w fun x w' => x = .returned (.tuple #[.slice none 0 0, .iface 149 (.pointer (some ps))]) ∧ Ext w w' := by
  have hn := hs.le
  have X1 := (Ext.refl w).alloc (.cells #[.int .i64 s.e.cl, .int .i64 s.e.nu, .int .i64 s.e.kd, .int .i64 s.e.id, .int .i64 s.e.sk, .int .i64 s.e.sq, .int .i64 s.e.st, .int .i64 s.e.pol, .slice s.A s.n s.c, .int .i64 s.e.at_] 29)
  have b1 := heap_alloc_new w (.cells #[.int .i64 s.e.cl, .int .i64 s.e.nu, .int .i64 s.e.kd, .int .i64 s.e.id, .int .i64 s.e.sk, .int .i64 s.e.sq, .int .i64 s.e.st, .int .i64 s.e.pol, .slice s.A s.n s.c, .int .i64 s.e.at_] 29)
  have HV := Lib.hid (And.intro b1 X1)
  clear X1 b1
  have CC := Lib.hid (fun W (hx : Ext w W) => check_no (e := s.e) (c := s.c) (hs.rd.ext hx) (by omega) hf (hS.ext hx))
  clear hs hf hS
  go_enter Tryd.func26, Tryd.ntmps26
  go_upto_region 1 with (fail)
  generalize w.alloc (.cells #[.int .i64 s.e.cl, .int .i64 s.e.nu, .int .i64 s.e.kd, .int .i64 s.e.id, .int .i64 s.e.sk, .int .i64 s.e.sq, .int .i64 s.e.st, .int .i64 s.e.pol, .slice s.A s.n s.c, .int .i64 s.e.at_] 29) = V at *
  generalize w.heap.size = ob at *
  have c0 : V.cell? ⟨ob, 0, none⟩ = some (.int .i64 s.e.cl) := block_cell (HV.out.1) 0
  have c1 : V.cell? ⟨ob, 1, none⟩ = some (.int .i64 s.e.nu) := block_cell (HV.out.1) 1
  have c2 : V.cell? ⟨ob, 2, none⟩ = some (.int .i64 s.e.kd) := block_cell (HV.out.1) 2
  have c3 : V.cell? ⟨ob, 3, none⟩ = some (.int .i64 s.e.id) := block_cell (HV.out.1) 3
  have c4 : V.cell? ⟨ob, 4, none⟩ = some (.int .i64 s.e.sk) := block_cell (HV.out.1) 4
  have c5 : V.cell? ⟨ob, 5, none⟩ = some (.int .i64 s.e.sq) := block_cell (HV.out.1) 5
  have c6 : V.cell? ⟨ob, 6, none⟩ = some (.int .i64 s.e.st) := block_cell (HV.out.1) 6
  have c7 : V.cell? ⟨ob, 7, none⟩ = some (.int .i64 s.e.pol) := block_cell (HV.out.1) 7
  have c8 : V.cell? ⟨ob, 8, none⟩ = some (.slice s.A s.n s.c) := block_cell (HV.out.1) 8
  have c9 : V.cell? ⟨ob, 9, none⟩ = some (.int .i64 s.e.at_) := block_cell (HV.out.1) 9
  go_wp2_with (go_at_call 25; refine (CC.out V HV.out.2).mono ?_; rintro x w1 ⟨rfl, x1⟩)
  go_returns
  exact ⟨rfl, HV.out.2.trans x1⟩
theorem ints_one' (l : List Int) : ∀ u ∈ ints l, u.oneCell' = true := by
  intro u hu; simp [ints] at hu; obtain ⟨n, _, rfl⟩ := hu; rfl
theorem ints_app' (l m : List Int) : ints (l ++ m) = ints l ++ ints m := by simp [ints]
theorem eltIn : Elt Tryd.prog 111 3 1 8 (.int .i64 0) := ⟨Tryd.underlying111, by kernel_rfl, rfl, by omega⟩
theorem numsTake (e : En) (k : Nat) (t : Tk) (h : e.ts[k]? = some t) : e.head ++ (e.ts.take (k + 1)).flatMap Tk.ns = (e.head ++ (e.ts.take k).flatMap Tk.ns) ++ [t.C, t.P, t.D, t.S] := by
  rw [take_succ' h, List.flatMap_append, List.append_assoc]
  simp [Tk.ns]
theorem numsLen (e : En) (k : Nat) (h : k ≤ e.ts.length) : (e.head ++ (e.ts.take k).flatMap Tk.ns).length = 10 + 4 * k := by
  rw [List.length_append, flat4, List.length_take, Nat.min_eq_left h]
  rfl
set_option maxHeartbeats 3200000 in
theorem rput_any (e : En) (A : Option Addr) (n c : Nat) (w : World) (hs : EnS.Lies ⟨e, A, n, c⟩ w) (hf : e.form = true) : Calls Tryd.prog 29 #[.agg #[.int .i64 e.cl, .int .i64 e.nu, .int .i64 e.kd, .int .i64 e.id, .int .i64 e.sk, .int .i64 e.sq, .int .i64 e.st, .int .i64 e.pol, .slice A n c, .int .i64 e.at_]] w fun x w' => ∃ B m d, x = .returned (.slice B m d) ∧ Own w' w.heap.size 5 1 B m d (u8s e.put) ∧ Ext w w' := by
  have hsl : e.ts.length = n := hs.len
  have h8 := (form_fits hf).2
  have HF := Lib.hid (form_fits hf).1
  have HS := Lib.hid hs
  have X1 := (Ext.refl w).alloc (.cells #[.int .i64 e.cl, .int .i64 e.nu, .int .i64 e.kd, .int .i64 e.id, .int .i64 e.sk, .int .i64 e.sq, .int .i64 e.st, .int .i64 e.pol, .slice A n c, .int .i64 e.at_] 29)
  have X2 := X1.alloc (.cells #[.int .i64 e.kd, .int .i64 e.id, .int .i64 e.sk, .int .i64 e.sq, .int .i64 e.st, .int .i64 e.pol, .slice A n c, .int .i64 e.at_] 27)
  have b1 := heap_alloc_new w (.cells #[.int .i64 e.cl, .int .i64 e.nu, .int .i64 e.kd, .int .i64 e.id, .int .i64 e.sk, .int .i64 e.sq, .int .i64 e.st, .int .i64 e.pol, .slice A n c, .int .i64 e.at_] 29)
  have b2 := heap_alloc_new (w.alloc (.cells #[.int .i64 e.cl, .int .i64 e.nu, .int .i64 e.kd, .int .i64 e.id, .int .i64 e.sk, .int .i64 e.sq, .int .i64 e.st, .int .i64 e.pol, .slice A n c, .int .i64 e.at_] 29)) (.cells #[.int .i64 e.kd, .int .i64 e.id, .int .i64 e.sk, .int .i64 e.sq, .int .i64 e.st, .int .i64 e.pol, .slice A n c, .int .i64 e.at_] 27)
  rw [World.size_alloc] at b2
  have b3 := (((Ext.refl (w.alloc (.cells #[.int .i64 e.cl, .int .i64 e.nu, .int .i64 e.kd, .int .i64 e.id, .int .i64 e.sk, .int .i64 e.sq, .int .i64 e.st, .int .i64 e.pol, .slice A n c, .int .i64 e.at_] 29))).alloc (.cells #[.int .i64 e.kd, .int .i64 e.id, .int .i64 e.sk, .int .i64 e.sq, .int .i64 e.st, .int .i64 e.pol, .slice A n c, .int .i64 e.at_] 27)).block _ (block_lt b1)).trans b1
  have HV := Lib.hid (And.intro b3 (And.intro b2 X2))
  clear X1 X2 b1 b2 b3
  clear hs hf
  go_enter Tryd.func29, Tryd.ntmps29
  go_upto_region 2 with (fail)
  generalize (w.alloc (.cells #[.int .i64 e.cl, .int .i64 e.nu, .int .i64 e.kd, .int .i64 e.id, .int .i64 e.sk, .int .i64 e.sq, .int .i64 e.st, .int .i64 e.pol, .slice A n c, .int .i64 e.at_] 29)).alloc (.cells #[.int .i64 e.kd, .int .i64 e.id, .int .i64 e.sk, .int .i64 e.sq, .int .i64 e.st, .int .i64 e.pol, .slice A n c, .int .i64 e.at_] 27) = V at *
  generalize w.heap.size = ob at *
  have c0 : V.cell? ⟨ob, 0, none⟩ = some (.int .i64 e.cl) := block_cell (HV.out.1) 0
  have c1 : V.cell? ⟨ob, 1, none⟩ = some (.int .i64 e.nu) := block_cell (HV.out.1) 1
  have c2 : V.cell? ⟨ob, 2, none⟩ = some (.int .i64 e.kd) := block_cell (HV.out.1) 2
  have c3 : V.cell? ⟨ob, 3, none⟩ = some (.int .i64 e.id) := block_cell (HV.out.1) 3
  have c4 : V.cell? ⟨ob, 4, none⟩ = some (.int .i64 e.sk) := block_cell (HV.out.1) 4
  have c5 : V.cell? ⟨ob, 5, none⟩ = some (.int .i64 e.sq) := block_cell (HV.out.1) 5
  have c6 : V.cell? ⟨ob, 6, none⟩ = some (.int .i64 e.st) := block_cell (HV.out.1) 6
  have c7 : V.cell? ⟨ob, 7, none⟩ = some (.int .i64 e.pol) := block_cell (HV.out.1) 7
  have c8 : V.cell? ⟨ob, 8, none⟩ = some (.slice A n c) := block_cell (HV.out.1) 8
  have c9 : V.cell? ⟨ob, 9, none⟩ = some (.int .i64 e.at_) := block_cell (HV.out.1) 9
  have d0 : V.cell? ⟨ob + 1, 0, none⟩ = some (.int .i64 e.kd) := block_cell (HV.out.2.1) 0
  have d1 : V.cell? ⟨ob + 1, 1, none⟩ = some (.int .i64 e.id) := block_cell (HV.out.2.1) 1
  have d2 : V.cell? ⟨ob + 1, 2, none⟩ = some (.int .i64 e.sk) := block_cell (HV.out.2.1) 2
  have d3 : V.cell? ⟨ob + 1, 3, none⟩ = some (.int .i64 e.sq) := block_cell (HV.out.2.1) 3
  have d4 : V.cell? ⟨ob + 1, 4, none⟩ = some (.int .i64 e.st) := block_cell (HV.out.2.1) 4
  have d5 : V.cell? ⟨ob + 1, 5, none⟩ = some (.int .i64 e.pol) := block_cell (HV.out.2.1) 5
  have d6 : V.cell? ⟨ob + 1, 6, none⟩ = some (.slice A n c) := block_cell (HV.out.2.1) 6
  have d7 : V.cell? ⟨ob + 1, 7, none⟩ = some (.int .i64 e.at_) := block_cell (HV.out.2.1) 7
  go_upto_region 3 with (fail)
  have X2 := (Ext.refl V).alloc (.cells #[.int .i64 e.cl, .int .i64 e.nu, .int .i64 e.kd, .int .i64 e.at_, .int .i64 e.id, .int .i64 e.sk, .int .i64 e.sq, .int .i64 e.st, .int .i64 e.pol, .int .i64 (n : Int)] 3)
  have o2 : Own (V.alloc (.cells #[.int .i64 e.cl, .int .i64 e.nu, .int .i64 e.kd, .int .i64 e.at_, .int .i64 e.id, .int .i64 e.sk, .int .i64 e.sq, .int .i64 e.st, .int .i64 e.pol, .int .i64 (n : Int)] 3)) w.heap.size 3 1 (some ⟨V.heap.size, 0, none⟩) 10 10 (ints e.head) := (by
    have h := World.ownsRow_lit (base := w.heap.size) (e := 3) (size := 1) V #[.int .i64 e.cl, .int .i64 e.nu, .int .i64 e.kd, .int .i64 e.at_, .int .i64 e.id, .int .i64 e.sk, .int .i64 e.sq, .int .i64 e.st, .int .i64 e.pol, .int .i64 (n : Int)] 10 HV.out.2.2.size (by simp [maxLen]) rfl
    rw [show ints e.head = (#[.int .i64 e.cl, .int .i64 e.nu, .int .i64 e.kd, .int .i64 e.at_, .int .i64 e.id, .int .i64 e.sk, .int .i64 e.sq, .int .i64 e.st, .int .i64 e.pol, .int .i64 (n : Int)] : Array Value).toList by unfold En.head; rw [hsl]; rfl]
    exact h)
  have H2 := Lib.hid (And.intro o2 (And.intro (HV.out.2.2.trans X2) ((X2.block _ (block_lt HV.out.2.1)).trans HV.out.2.1)))
  clear X2 o2
  clear c0 c1 c2 c3 c4 c5 c6 c7 c8 c9 d0 d1 d2 d3 d4 d5 d6 d7
  generalize V.alloc (.cells #[.int .i64 e.cl, .int .i64 e.nu, .int .i64 e.kd, .int .i64 e.at_, .int .i64 e.id, .int .i64 e.sk, .int .i64 e.sq, .int .i64 e.st, .int .i64 e.pol, .int .i64 (n : Int)] 3) = V2 at *
  generalize V.heap.size = lb at *
  have d6 : V2.cell? ⟨ob + 1, 6, none⟩ = some (.slice A n c) := block_cell H2.out.2.2 6
  go_upto_region 4 with (fail)
  clear d6
  go_loopw [4, 6, 40] (fun v4 _ v40 wr => ∃ (k d : Nat) (B : Option Addr), v40 = .int .i64 (k : Int) ∧ v4 = .slice B (10 + 4 * k) d ∧ k ≤ n ∧ Hid (Own wr w.heap.size 3 1 B (10 + 4 * k) d (ints (e.head ++ (e.ts.take k).flatMap Tk.ns)) ∧ Ext w wr)) (fun _ _ v40 _ => n - (intOf v40).toNat)
  case atStart => exact ⟨0, 10, some ⟨lb, 0, none⟩, rfl, rfl, by omega, by simpa using H2.out.1, H2.out.2.1⟩
  case round =>
    obtain ⟨k, d, B, rfl, rfl, hk, HI⟩ := hrel
    clear H2
    by_cases hlt : k < n
    · obtain ⟨x, hx⟩ : ∃ x, e.ts[k]? = some x := ⟨e.ts[k]'(by omega), List.getElem?_eq_getElem _⟩
      obtain ⟨k4, hk4⟩ : ∃ k4, k * 4 = k4 := ⟨_, rfl⟩
      obtain ⟨ad, rfl, y0, y1, y2, y3⟩ := (HS.out.rd.ext HI.out.2).task hx hk4
      have k0 : (0 : Int) ≤ k := by omega
      have k1 : (k : Int) < n := by omega
      have HX := Lib.hid hx
      have X5 := (Ext.refl wr).alloc (.cells #[.int .i64 x.C, .int .i64 x.P, .int .i64 x.D, .int .i64 x.S] 47)
      have H5 := Lib.hid (And.intro (heap_alloc_new wr (.cells #[.int .i64 x.C, .int .i64 x.P, .int .i64 x.D, .int .i64 x.S] 47)) (And.intro (HI.out.1.ext X5) (HI.out.2.trans X5)))
      clear hx X5
      go_upto_region 6 with (fail)
      generalize wr.alloc (.cells #[.int .i64 x.C, .int .i64 x.P, .int .i64 x.D, .int .i64 x.S] 47) = V5 at *
      generalize wr.heap.size = tb at *
      clear y0 y1 y2 y3
      have c0 : V5.cell? ⟨tb, 0, none⟩ = some (.int .i64 x.C) := block_cell H5.out.1 0
      have c1 : V5.cell? ⟨tb, 1, none⟩ = some (.int .i64 x.P) := block_cell H5.out.1 1
      have c2 : V5.cell? ⟨tb, 2, none⟩ = some (.int .i64 x.D) := block_cell H5.out.1 2
      have c3 : V5.cell? ⟨tb, 3, none⟩ = some (.int .i64 x.S) := block_cell H5.out.1 3
      have XA := (Ext.refl V5).alloc (.cells #[.int .i64 x.C, .int .i64 x.P, .int .i64 x.D, .int .i64 x.S] 3)
      have RN : Rd (V5.alloc (.cells #[.int .i64 x.C, .int .i64 x.P, .int .i64 x.D, .int .i64 x.S] 3)) 1 (some ⟨V5.heap.size, 0, none⟩) 4 (ints [x.C, x.P, x.D, x.S]) := Rd.new V5 #[.int .i64 x.C, .int .i64 x.P, .int .i64 x.D, .int .i64 x.S] 3 (0, 0)
      go_wp2_with (at_builtin; refine held ?_)
      refine Held.go (wp_app (m := 4) (news := ints [x.C, x.P, x.D, x.S]) eltIn (H5.out.2.1.ext XA) RN (ints_one' _) (by omega) (.inr ⟨by omega, by omega⟩) (H5.out.2.2.trans XA).size _ _ rfl rfl rfl rfl ?_)
      intro A3 c3' w3 o3 g3 _ _
      rw [← ints_app', ← numsTake e k x HX.out] at o3
      have H6 := Lib.hid (And.intro o3 (g3.ext (H5.out.2.2.trans XA) (fun q hq => (H5.out.2.1).base_le q hq)))
      have h4 : 10 + 4 * k + 4 = 10 + 4 * (k + 1) := by omega
      rw [h4] at H6 ⊢
      clear o3 g3 XA RN c0 c1 c2 c3 h4
      go_wp2_with fail
      go_roundw
      case rel => exact ⟨k + 1, c3', A3, by go_num, rfl, by omega, H6.out.1, H6.out.2⟩
      case measure => simp [intOf]; omega
    · have hkn : k = n := by omega
      have hN : e.head ++ (e.ts.take k).flatMap Tk.ns = e.nums := by rw [List.take_of_length_le (by omega)]; rfl
      have H7 := Lib.hid (And.intro (And.intro HI.out.1 HI.out.2) hN)
      have HKN := Lib.hid hkn
      clear HI hN hkn
      obtain ⟨N, hNN⟩ : ∃ N, 10 + 4 * k = N := ⟨_, rfl⟩
      rw [hNN] at H7 ⊢
      have hN42 : N ≤ 1000 := by omega
      have HNN := Lib.hid hNN
      clear hNN
      have o8 : Own (wr.alloc (.cells #[] 5)) w.heap.size 5 1 (some ⟨wr.heap.size, 0, none⟩) 0 0 (u8s (putN (e.nums.take 0))) := World.ownsRow_lit (size := 1) _ #[] 0 H7.out.1.2.size (by simp [maxLen]) rfl
      have X8 := (Ext.refl wr).alloc (.cells #[] 5)
      have H8 := Lib.hid (And.intro o8 (And.intro (H7.out.1.1.ext X8) (H7.out.1.2.trans X8)))
      clear o8 X8
      go_upto_region 10 with (fail)
      generalize wr.alloc (.cells #[] 5) = V8 at *
      generalize wr.heap.size = b8 at *
      go_loopw [7, 9, 59] (fun v7 _ v59 wr2 => ∃ (i d2 : Nat) (B2 : Option Addr), v59 = .int .i64 (i : Int) ∧ v7 = .slice B2 (putN (e.nums.take i)).length d2 ∧ i ≤ N ∧ Hid (Own wr2 w.heap.size 5 1 B2 (putN (e.nums.take i)).length d2 (u8s (putN (e.nums.take i))) ∧ Own wr2 w.heap.size 3 1 B N d (ints e.nums) ∧ Ext w wr2)) (fun _ _ v59 _ => N - (intOf v59).toNat)
      case atStart => exact ⟨0, 0, some ⟨b8, 0, none⟩, rfl, rfl, by omega, H8.out.1, by rw [← H7.out.2]; exact H8.out.2.1, H8.out.2.2⟩
      case round =>
        obtain ⟨i, d2, B2, rfl, rfl, hi, HJ⟩ := hrel
        clear H8 H7
        have hnl := nums_len e
        by_cases hit : i < N
        · obtain ⟨x, hx⟩ : ∃ x, e.nums[i]? = some x := ⟨e.nums[i]'(by have := HKN.out; have := HNN.out; omega), List.getElem?_eq_getElem _⟩
          obtain ⟨ad, rfl, _, hcell⟩ := HJ.out.2.1.rd.at_ hit
          have y0 := hcell i _ (ints_at' hx)
          have hxf := HF.out x (List.mem_of_getElem? hx)
          have i0 : (0 : Int) ≤ i := by omega
          have i1 : (i : Int) < (N : Int) := by omega
          obtain ⟨v, rfl⟩ : ∃ v : Nat, x = (v : Int) := ⟨x.toNat, by omega⟩
          have CN := Lib.hid (refnum_any v wr (by omega))
          have HX := Lib.hid hx
          have HPL : Hid ((putN (e.nums.take i)).length ≤ 1000 ∧ (Wr.num v).length ≤ 9) := Lib.hid ⟨by
            have h1 := putN_len (e.nums.take i) (fun y hy => by have := HF.out y (List.mem_of_mem_take hy); omega)
            rw [List.length_take] at h1
            omega, numlen9 (by omega)⟩
          clear hcell hx
          go_wp2_with (first | (go_at_call 60; refine CN.out.mono ?_; rintro e w3 ⟨A3, c3, rfl, o3, x3⟩) | (at_builtin; refine held ?_))
          refine Held.go (wp_app (m := (Wr.num v).length) (news := u8s (Wr.num v)) eltU8 (HJ.out.1.ext x3) o3.rd (u8s_one _) (by have := HPL.out; omega) (.inr ⟨by have := HPL.out; omega, by omega⟩) (HJ.out.2.2.trans x3).size _ _ rfl rfl rfl rfl ?_)
          intro A4 c4 w4 o4 g4 hA4 _
          have hpn : putN (e.nums.take (i + 1)) = putN (e.nums.take i) ++ Wr.num v := by rw [take_succ' HX.out, putN_app, putN_one, Int.toNat_natCast]
          have hln : (putN (e.nums.take i)).length + (Wr.num v).length = (putN (e.nums.take (i + 1))).length := by rw [hpn, List.length_append]
          rw [← u8s_append, ← hpn, hln] at o4
          rw [hln]
          have oi : Own w4 w.heap.size 3 1 (some ad) N d (ints e.nums) := (Fr.grows g4).own (HJ.out.2.1.ext x3) (fun a ha e => (HJ.out.1.ext x3).other (HJ.out.2.1.ext x3) (by decide) a ha e)
          have H9 := Lib.hid (And.intro o4 (And.intro oi (g4.ext (HJ.out.2.2.trans x3) (fun q hq => HJ.out.1.base_le q hq))))
          clear o4 g4 hA4 oi o3 x3 CN hpn hln HPL y0
          go_wp2_with fail
          go_roundw
          case rel => exact ⟨i + 1, c4, A4, by go_num, rfl, by omega, H9.out.1, H9.out.2.1, H9.out.2.2⟩
          case measure => simp [intOf]; omega
        · have HE : Hid (e.nums.take i = e.nums) := Lib.hid (List.take_of_length_le (by have := HKN.out; have := HNN.out; omega))
          rw [HE.out] at HJ ⊢
          go_wp2_with fail
          go_returns
          exact ⟨B2, _, d2, rfl, HJ.out.1, HJ.out.2.2⟩
end Go.Proofs.YteflnnlihblpgaaDoor
