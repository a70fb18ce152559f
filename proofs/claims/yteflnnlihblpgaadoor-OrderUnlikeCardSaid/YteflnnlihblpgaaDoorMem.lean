/-
  Rows that a call makes: make and append, as equations on a run that end in the words of Lib. The bound on a growing append is Go's own rule for the next capacity, not twice the length.
-/
import Derived.Test.YteflnnlihblpgaaDoorLib
import Derived.Maps.AppendAt
import Derived.Laws.Cover1
namespace Go.Proofs.YteflnnlihblpgaaDoor
set_option maxRecDepth 100000
open Go.RowKit

/-- t is the slice type of e: an element is 'size' cells, 'bytes' bytes; its zero value is z. -/
structure Elt (P : Program) (t e : TypeId) (size bytes : Nat) (z : Value) : Prop where
  under : P.underlying t = some (.slice e)
  info : (P.info? e).map (fun i => (i.zero, i.size, i.bytes)) = some (some z, size, bytes)
  cells : z.cells.size = size
  pos : 0 < size

/-- The slice '.slice A n c' is a row of the call's own, from block 'base' on, and its elements are the cells xs. -/
def Own (w : World) (base : Nat) (e : TypeId) (size : Nat) (A : Option Addr) (n c : Nat) (xs : List Value) : Prop := w.ownsRow base e size (.slice A n c) n xs

/-- w' is w, with new blocks, and with writes to the row at A alone. -/
def Grows (w w' : World) (A : Option Addr) : Prop := w.grownBy w' (A.map (·.block))

theorem ownBlock_slice (A : Option Addr) (n c : Nat) : Value.ownBlock (.slice A n c) = A.map (·.block) := by cases A <;> rfl

section
variable {w w' : World} {base n c : Nat} {e : TypeId} {size : Nat} {A : Option Addr} {xs : List Value}
theorem Own.len (h : Own w base e size A n c xs) : xs.length = n * size := h.1
theorem Own.base_le (h : Own w base e size A n c xs) : ∀ g, A.map (·.block) = some g → base ≤ g := by
  intro g hg
  rcases h.2 with ⟨h', _⟩ | ⟨g', cap, cur, h', hb, _⟩
  · injection h' with h1; subst h1; simp at hg
  · injection h' with h1; subst h1; simp at hg; omega
theorem Own.rd (h : Own w base e size A n c xs) : Rd w size A n xs := by
  refine ⟨h.1, fun hn => ?_⟩
  have hcells := fun g hg => World.ownsRow.cells (g := g) h hg
  rcases h.2 with ⟨_, h'⟩ | ⟨g, cap, cur, h', _, hgg, _⟩
  · omega
  · injection h' with h1
    subst h1
    exact ⟨_, rfl, (Array.getElem?_eq_some_iff.1 hgg).1, hcells g rfl⟩
theorem Own.nil_ : Own w base e size none 0 0 [] := World.ownsRow_nil w base e size
theorem Own.alloc (h : Own w base e size A n c xs) (o : Obj) : Own (w.alloc o) base e size A n c xs := World.ownsRow.alloc h o
theorem Own.drew (h : Own w base e size A n c xs) : Own w.drew base e size A n c xs := h
theorem Own.drewN (h : Own w base e size A n c xs) (k : Nat) : Own (w.drewN k) base e size A n c xs := h
theorem Own.ext (h : Own w base e size A n c xs) (hx : Ext w w') : Own w' base e size A n c xs := by
  refine ⟨h.1, ?_⟩
  rcases h.2 with hn | ⟨g, cap, cur, h1, hb, hgg, rest⟩
  · exact .inl hn
  · exact .inr ⟨g, cap, cur, h1, hb, (hx.block g (Array.getElem?_eq_some_iff.1 hgg).1).trans hgg, rest⟩
theorem Grows.ext {a : World} (hg : Grows w w' A) (hx : Ext a w) (hb : ∀ g, A.map (·.block) = some g → a.heap.size ≤ g) : Ext a w' := Below.grown hx hg hx.size hb
theorem Grows.rd {n' size' : Nat} {B : Option Addr} {ys : List Value} (hg : Grows w w' A) (h : Rd w size' B n' ys) (hne : ∀ b, B = some b → A.map (·.block) ≠ some b.block) : Rd w' size' B n' ys :=
  ⟨h.1, fun hn => by
    obtain ⟨ad, e, hlt, hc⟩ := h.2 hn
    refine ⟨ad, e, Nat.lt_of_lt_of_le hlt hg.size, fun j u hu => (World.cell?_of_block ?_).trans (hc j u hu)⟩
    rw [add_block]
    exact hg.block ad.block hlt (fun e' => hne ad e e'.symm)⟩
end

/-- What Go's rule for the next capacity comes to at most. -/
theorem nextcap_le {need old : Nat} (h : old < need) : Builtin.nextslicecap need old ≤ need + need / 4 + 512 := by
  have step : ∀ r c, c ≤ need + need / 4 + 192 → Builtin.growBy need r c ≤ need + need / 4 + 192 := by
    intro r
    induction r with
    | zero => intro c hc; exact hc
    | succ r ih =>
      intro c hc
      unfold Builtin.growBy
      split
      · exact hc
      · exact ih _ (by omega)
  unfold Builtin.nextslicecap
  split
  · omega
  · split
    · omega
    · have := step 4 old (by omega); omega
theorem fits_mul {need old bytes : Nat} (h : old < need) (hb : need * bytes ≤ 225000000000000) (hs : bytes ≤ 100000) : Builtin.nextslicecap need old * bytes ≤ 281474976710656 := by
  have h1 := Nat.mul_le_mul_right bytes (nextcap_le h)
  have h2 : (need + need / 4 + 512) * bytes = need * bytes + need / 4 * bytes + 512 * bytes := by rw [Nat.add_mul, Nat.add_mul]
  have h3 : need / 4 * bytes ≤ need * bytes / 4 := by
    rw [Nat.le_div_iff_mul_le (by omega), Nat.mul_right_comm]
    exact Nat.mul_le_mul_right _ (Nat.div_mul_le_self need 4)
  omega

section
variable {P : Program} {w : World} {t e : TypeId} {size bytes : Nat} {z : Value}

/-- A step whose run is known up to what it leaves. -/
theorem upon_ok {o : Oper} {a : Act} {K : Act → World → Prop} {Q : Exit → Act → World → Prop} {X : Sem Value} {v : Value} {w' : World} {f : Value → World → Result Next}
    (h : X.run P w = .ok v w') (hk : o.upon P a K Q (f v w')) : o.upon P a K Q ((X.run P w).andThen f) := by
  rw [h]; exact hk

theorem run_mk (E : Elt P t e size bytes z) (base : Nat) (kl kc : IntKind) (C : Int) (hC : 0 ≤ C) (hb : (bytes : Int) * C ≤ 281474976710656) (hm : C ≤ 9223372036854775807) (hbase : base ≤ w.heap.size) :
    ∃ w', (Instr.makeSlice t (.int kl 0) (.int kc C)).run P w = .ok (.slice (some ⟨w.heap.size, 0, none⟩) 0 C.toNat) w' ∧
      Own w' base e size (some ⟨w.heap.size, 0, none⟩) 0 C.toNat [] ∧ Ext w w' ∧ w'.heap.size = w.heap.size + 1 := by
  obtain ⟨i, hi, hz, hs, hby⟩ := info_parts E.info
  obtain ⟨c, rfl⟩ := Int.eq_ofNat_of_zero_le hC
  have hr := run_make (P := P) w t e i z E.under hi hz kl kc 0 c (Int.le_refl _) hC (by rw [hby]; exact hb) hm
  simp only [Int.toNat_zero] at hr
  refine ⟨_, hr, World.ownsRow_made w _ _ hbase (by simp [maxLen]; omega) (by rw [size_madeCells, hs]), (Ext.refl w).alloc _, by simp⟩

theorem madeCells_one (v : Value) (n : Nat) : (madeCells #[v] n).toList = List.replicate n v := by
  unfold madeCells
  apply List.ext_getElem
  · simp
  · intro i h1 h2
    simp [Nat.mod_one]

/-- make([]T, n), T of one cell. -/
theorem run_mkn (E : Elt P t e 1 bytes z) (hz1 : z.cells = #[z]) (base : Nat) (kl kc : IntKind) (C : Int) (hC : 0 ≤ C) (hb : (bytes : Int) * C ≤ 281474976710656) (hm : C ≤ 9223372036854775807) (hbase : base ≤ w.heap.size) :
    ∃ w', (Instr.makeSlice t (.int kl C) (.int kc C)).run P w = .ok (.slice (some ⟨w.heap.size, 0, none⟩) C.toNat C.toNat) w' ∧
      Own w' base e 1 (some ⟨w.heap.size, 0, none⟩) C.toNat C.toNat (List.replicate C.toNat z) ∧ Ext w w' ∧ w'.heap.size = w.heap.size + 1 := by
  obtain ⟨i, hi, hz, hs, hby⟩ := info_parts E.info
  obtain ⟨c, rfl⟩ := Int.eq_ofNat_of_zero_le hC
  have hr := run_make (P := P) w t e i z E.under hi hz kl kc c c hC (Int.le_refl _) (by rw [hby]; exact hb) hm
  refine ⟨_, hr, ?_, (Ext.refl w).alloc _, by simp⟩
  have h := World.ownsRow_lit (base := base) (e := e) (size := 1) w (madeCells z.cells ((c : Int).toNat * i.size)) (c : Int).toNat hbase (by simp [maxLen]; omega) (by rw [size_madeCells, hs])
  rw [hs, Nat.mul_one, hz1, madeCells_one] at h
  rw [hs, Nat.mul_one, hz1]
  exact h

theorem run_append_none (E : Elt P t e size bytes z) (ty : TypeId) (base : Nat) {A : Option Addr} {n c : Nat} {xs : List Value} (hown : Own w base e size A n c xs) (d : Nat) :
    (Builtin.append_ #[t, t] ty #[.slice A n c, .slice none 0 d]).run P w = .ok (.slice A n c) w := by
  obtain ⟨i, hi, hz, hs, hby⟩ := info_parts E.info
  have ht := E.under
  rcases hown.2 with ⟨h, rfl⟩ | ⟨g, cap, cur, h, _, _, hnc, _⟩
  · injection h with h1 _ h3
    subst h1; subst h3
    simp [Builtin.append_, run_underlying ht, sizeOf, typeInfo, hi, Builtin.lenOf, Builtin.firstCells]
  · injection h with h1 _ h3
    subst h1; subst h3
    simp [Builtin.append_, run_underlying ht, sizeOf, typeInfo, hi, Builtin.lenOf, Builtin.firstCells, hnc, storeCells]

/-- append(own, src...), src whatever slice, nil or not. -/
theorem run_app (E : Elt P t e size bytes z) (ty : TypeId) {base : Nat} {A : Option Addr} {n c : Nat} {xs : List Value} (hown : Own w base e size A n c xs)
    {B : Option Addr} {m : Nat} (d : Nat) {news : List Value} (hr : Rd w size B m news) (h1 : ∀ u ∈ news, u.oneCell' = true)
    (hm : n + m ≤ 9223372036854775807) (hfit : n + m ≤ c ∨ (n + m) * bytes ≤ 225000000000000 ∧ bytes ≤ 100000) (hbase : base ≤ w.heap.size) :
    ∃ A' c' w', (Builtin.append_ #[t, t] ty #[.slice A n c, .slice B m d]).run P w = .ok (.slice A' (n + m) c') w' ∧ Own w' base e size A' (n + m) c' (xs ++ news) ∧ Grows w w' A ∧
      (A' = A ∨ A' = some ⟨w.heap.size, 0, none⟩) ∧ (n + m ≤ c → A' = A ∧ c' = c) := by
  obtain ⟨i, hi, hz, hs, hby⟩ := info_parts E.info
  have ht := E.under
  by_cases hm0 : m = 0
  · subst hm0
    have hn : news = [] := List.eq_nil_of_length_eq_zero (by simpa using hr.1)
    subst hn
    refine ⟨A, c, w, ?_, by simpa using hown, World.grownBy.refl w _, .inl rfl, fun _ => ⟨rfl, rfl⟩⟩
    cases B with
    | none => exact run_append_none E ty base hown d
    | some b =>
      rcases hown.2 with ⟨h, rfl⟩ | ⟨g, cap, cur, h, _, _, hnc, _⟩
      · injection h with h1 _ h3
        subst h1; subst h3
        simp [Builtin.append_, run_underlying ht, sizeOf, typeInfo, hi, Builtin.lenOf, Builtin.firstCells, loadCells, loadCellsFrom]
      · injection h with h1 _ h3
        subst h1; subst h3
        simp [Builtin.append_, run_underlying ht, sizeOf, typeInfo, hi, Builtin.lenOf, Builtin.firstCells, hnc, storeCells, loadCells, loadCellsFrom]
  · obtain ⟨ad, rfl, _, hcell⟩ := hr.2 (by omega)
    have hl : news.length = m * i.size := by rw [hs]; exact hr.1
    have hlen : (xs ++ news).length = (n + m) * size := by rw [List.length_append, hown.1, hr.1, Nat.add_mul]
    have grown : ∀ (old : Nat), old < n + m → ∀ (row : Option Nat),
        (w.drew.alloc (.cells (xs.toArray ++ news.toArray ++ Builtin.zeroCells z.cells (grownCap w (n + m) old e - (n + m))) e)).ownsRow base e size
          (.slice (some ⟨w.heap.size, 0, none⟩) (n + m) (grownCap w (n + m) old e)) (n + m) (xs ++ news) ∧
        w.grownBy (w.drew.alloc (.cells (xs.toArray ++ news.toArray ++ Builtin.zeroCells z.cells (grownCap w (n + m) old e - (n + m))) e)) row := by
      intro old ho row
      have hge := grownCap_ge w (n + m) old e
      have hcm : grownCap w (n + m) old e ≤ maxLen := grownCap_le_maxLen w (n + m) old e (by simp [maxLen]; omega)
      refine ⟨⟨hlen, .inr ⟨w.heap.size, _, _, rfl, hbase, heap_alloc_new w.drew _, hge, hcm, ?_, ?_⟩⟩, ⟨rfl, rfl, rfl, by simp, fun k hk _ => Below.heap_alloc w.drew _ k hk⟩⟩
      · simp only [Array.size_append, List.size_toArray, size_zeroCells, E.cells, hown.1, hr.1, ← Nat.add_mul]
        congr 1
        omega
      · simp only [Array.toList_append, List.append_assoc]
        rw [← List.append_assoc, ← hlen]
        exact List.take_left
    rcases hown.2 with ⟨h, rfl⟩ | ⟨g, cap, cur, h, hbg, hg, hnc, hcm, hcs, htake⟩
    · injection h with e1 _ e3
      subst e1; subst e3
      have hx : xs = [] := List.eq_nil_of_length_eq_zero (by simpa using hown.1)
      subst hx
      have h48 : m * i.bytes ≤ 281474976710656 := by
        rcases hfit with h | ⟨h, _⟩
        · omega
        · rw [hby]; simp only [Nat.zero_add] at h; omega
      have hrun := run_append_nil (P := P) w t ty e i z ht hi hz ad m d news hl hcell (by omega) (by omega) h48
      have hgr := grown 0 (by omega) none
      simp only [Nat.zero_add, List.nil_append, Array.empty_append] at hgr ⊢
      exact ⟨_, _, _, hrun, hgr.1, hgr.2, .inr rfl, fun hh => absurd hh (by omega)⟩
    · injection h with e1 _ e3
      subst e1; subst e3
      by_cases hroom : n + m ≤ c
      · have hfit' : n * i.size + news.length ≤ cur.size := by rw [hl, hcs, hs, ← Nat.add_mul]; exact Nat.mul_le_mul_right _ hroom
        have hrun := run_append_room (P := P) w t ty e i ht hi g n c cur hg ad m d news hl hcell h1 hroom hfit'
        refine ⟨_, _, _, hrun, ⟨hlen, .inr ⟨g, c, _, rfl, hbg, setRow_heap w g cur _ e _ hg, hroom, hcm, ?_, ?_⟩⟩, ⟨rfl, rfl, rfl, by simp, fun k _ hk => setRow_other w g k _ (fun e => hk (by simp [e]))⟩, .inl rfl, fun _ => ⟨rfl, rfl⟩⟩
        · simp only [List.size_toArray, List.length_append, List.length_take, List.length_drop, Array.length_toList]
          rw [hs] at hfit' ⊢
          omega
        · rw [hs, htake, ← hlen]
          exact List.take_left
      · have holds : ∀ j u, xs[j]? = some u → w.cell? ((⟨g, 0, none⟩ : Addr).add j) = some u := World.ownsRow.cells hown (g := g) rfl
        have hf : Builtin.nextslicecap (n + m) c * i.bytes ≤ 281474976710656 := by
          rcases hfit with h | ⟨h, h'⟩
          · exact absurd h hroom
          · rw [hby]; exact fits_mul (by omega) h h'
        have hrun := run_append_grow (P := P) w t ty e i z ht hi hz ⟨g, 0, none⟩ n c xs (by rw [hs]; exact hown.1) holds ad m d news hl hcell (by omega) (by omega) hf
        have hgr := grown c (by omega) (some g)
        exact ⟨_, _, _, hrun, hgr.1, hgr.2, .inr rfl, fun hh => absurd hh hroom⟩

/-- A slice expression with three indexes, from the beginning. -/
theorem run_slice3 (E : Elt P t e size bytes z) (A : Option Addr) (n c : Nat) (kh km : IntKind) (k m : Nat) (h1 : k ≤ m) (h2 : m ≤ c) (w : World) :
    (Instr.slice t (.slice A n c) none (some (.int kh (k : Int))) (some (.int km (m : Int)))).run P w = .ok (.slice A k m) w := by
  obtain ⟨i, hi, hz, hs, hby⟩ := info_parts E.info
  have e1 : (if m = 0 then A else A.map (·.add (0 * i.size))) = A := by
    split
    · rfl
    · cases A with
      | none => rfl
      | some a => simp [Addr.add]
  simp [Instr.slice, run_underlying E.under, Instr.sliceBounds, run_sliceBound, sizeOf, typeInfo, hi, h1, h2] at e1 ⊢
  exact e1

/-- The same as a law of the walk, at the operation. -/
theorem wp_app {ops : Array Oper} {rest : List Oper} {o : Oper} {a : Act} {Q : Exit → Act → World → Prop} (E : Elt P t e size bytes z) {base : Nat} {A : Option Addr} {n c : Nat} {xs : List Value}
    (hown : Own w base e size A n c xs) {B : Option Addr} {m d : Nat} {news : List Value} (hr : Rd w size B m news) (h1 : ∀ u ∈ news, u.oneCell' = true)
    (hm : n + m ≤ 9223372036854775807) (hfit : n + m ≤ c ∨ (n + m) * bytes ≤ 225000000000000 ∧ bytes ≤ 100000) (hbase : base ≤ w.heap.size)
    (s x : Operand) (hgd : o.guard = none) (ho : o.op = .call { callee := .builtin .append, args := #[s, x], argTypes := #[t, t] })
    (hs : a.eval s = .slice A n c) (hx : a.eval x = .slice B m d)
    (hk : ∀ A' c' w', Own w' base e size A' (n + m) c' (xs ++ news) → Grows w w' A → (A' = A ∨ A' = some ⟨w.heap.size, 0, none⟩) → (n + m ≤ c → A' = A ∧ c' = c) → wpList P ops Q rest (a.put o.dst (.slice A' (n + m) c')) w') :
    wpList P ops Q (o :: rest) a w := by
  obtain ⟨A', c', w', hrun, h2, h3, h4, h5⟩ := run_app E o.type hown d hr h1 hm hfit hbase
  refine wpList_plain hgd fun K hK => ?_
  unfold Oper.wp execOp
  simp only [ho, resolve, invoke, builtin, Sem.run_bind, Sem.run_pure, Result.andThen_ok, List.map_toArray, List.map_cons, List.map_nil, hs, hx, hrun]
  exact hK _ _ (hk A' c' w' h2 h3 h4 h5)
end

theorem run_min3 {P : Program} {t : TypeId} {ts : Array TypeId} (a b c n : Nat) (hn : n = min (min a b) c) (w : World) : (Builtin.min_ ts t #[.int .i64 (a : Int), .int .i64 (b : Int), .int .i64 (c : Int)]).run P w = .ok (.int .i64 (n : Int)) w := by
  rw [run_min_int3]
  have : (if (c : Int) < (if (b : Int) < a then (b : Int) else a) then (c : Int) else (if (b : Int) < a then (b : Int) else a)) = n := by
    split <;> split at * <;> omega
  rw [this]

theorem Own.cellAt {w : World} {base n c g : Nat} {e : TypeId} {xs : List Value} {k : Nat} {u : Value} (h : Own w base e 1 (some ⟨g, 0, none⟩) n c xs) (hk : k < n) (hu : xs[k]? = some u) : w.cell? ⟨g, k, none⟩ = some u :=
  (World.ownsRow.cellAt h k (by omega)).trans hu
theorem Own.frozenAt {w : World} {base n c g : Nat} {e : TypeId} {size : Nat} {xs : List Value} (h : Own w base e size (some ⟨g, 0, none⟩) n c xs) (k : Nat) : w.frozen? ⟨g, k, none⟩ = false := World.ownsRow.frozenAt h k
theorem Own.stored {w : World} {base n c g : Nat} {e : TypeId} {size : Nat} {xs : List Value} (h : Own w base e size (some ⟨g, 0, none⟩) n c xs) (k : Nat) (u : Value) : Own (w.setCell ⟨g, k, none⟩ u) base e size (some ⟨g, 0, none⟩) n c (xs.set k u) := (World.ownsRow.stored h k u).1
theorem Own.lt {w : World} {base n c g : Nat} {e : TypeId} {size : Nat} {xs : List Value} (h : Own w base e size (some ⟨g, 0, none⟩) n c xs) : g < w.heap.size := by
  rcases h.2 with ⟨h', _⟩ | ⟨g', cap, cur, h', _, hg, _⟩
  · cases h'
  · injection h' with h1; injection h1 with h1; injection h1 with h1; subst h1
    exact (Array.getElem?_eq_some_iff.1 hg).1
theorem Ext.setCell {a w : World} (h : Ext a w) {p : Addr} (hp : a.heap.size ≤ p.block) (u : Value) : Ext a (w.setCell p u) := Below.setCell h hp u
theorem set_mid {α : Type} (l : List α) (k m : Nat) (x z : α) (hk : l.length = k) (hm : 0 < m) : (l ++ List.replicate m z).set k x = (l ++ [x]) ++ List.replicate (m - 1) z := by
  obtain ⟨j, rfl⟩ : ∃ j, m = j + 1 := ⟨m - 1, by omega⟩
  subst hk
  simp [List.replicate_succ]

/-- A goal at which the walk is to stand. -/
def Held (p : Prop) : Prop := p
theorem held {p : Prop} (h : Held p) : p := h
theorem Held.go {p : Prop} (h : p) : Held p := h
end Go.Proofs.YteflnnlihblpgaaDoor
