/- A slice of the call's own that need not begin where its block does ('l = l[1:]'): what reads, what an append makes of it. -/
import Derived.Test.YtllbionkmgpcaaaGreatDoorKBase
import Derived.ArgAppend
import Derived.Test.YtllbionkmgpcaaaGreatDoorKMapR
namespace Go.Proofs.YtllbionkmgpcaaaGreatDoor
open Go.RowKit

theorem Blk.cells_ {t : TypeId} {g : Nat} : ∀ (vs : List Value) (o : Nat) (w : World) (cs : Array Value), Blk w g t cs → ∃ cs', Blk (w.setCells g o vs) g t cs' ∧ cs'.size = cs.size ∧
    ∀ i : Nat, cs'[i]? = if o ≤ i ∧ i < o + vs.length ∧ i < cs.size then vs[i - o]? else cs[i]?
  | [], o, w, cs, h => ⟨cs, h, rfl, fun i => by rw [if_neg (by simp; omega)]⟩
  | v :: r, o, w, cs, h => by
    obtain ⟨cs', h1, h2, h3⟩ := Blk.cells_ r (o + 1) _ _ (h.set_ o v)
    refine ⟨cs', h1, by simpa using h2, fun i => ?_⟩
    rw [h3 i]
    simp only [Array.size_setIfInBounds, List.length_cons]
    by_cases h4 : o + 1 ≤ i ∧ i < o + 1 + r.length ∧ i < cs.size
    · rw [if_pos h4, if_pos (by omega), show i - o = (i - (o + 1)) + 1 by omega]
      simp
    · rw [if_neg h4]
      by_cases h5 : o ≤ i ∧ i < o + (r.length + 1) ∧ i < cs.size
      · have h6 : i = o := by omega
        subst h6
        rw [if_pos h5]
        simp [h5.2.2]
      · rw [if_neg h5]
        rw [Array.getElem?_setIfInBounds]
        by_cases h6 : o = i
        · subst h6
          have h7 : ¬ o < cs.size := by omega
          simp [h7]
        · rw [if_neg h6]
theorem setCells_far {g k : Nat} (hne : k ≠ g) : ∀ (vs : List Value) (o : Nat) (w : World), (w.setCells g o vs).heap[k]? = w.heap[k]?
  | [], _, _ => rfl
  | _ :: r, o, _ => (setCells_far hne r (o + 1) _).trans (Below.heap_setCell _ _ _ _ hne)
theorem setCells_same (g : Nat) : ∀ (vs : List Value) (o : Nat) (w : World), (w.setCells g o vs).os = w.os ∧ (w.setCells g o vs).tape = w.tape ∧ (w.setCells g o vs).output = w.output ∧ (w.setCells g o vs).heap.size = w.heap.size
  | [], _, _ => ⟨rfl, rfl, rfl, rfl⟩
  | v :: r, o, w => by
    obtain ⟨a, b, c, d⟩ := setCells_same g r (o + 1) (w.setCell ⟨g, o, none⟩ v)
    exact ⟨a, b, c, by rw [World.setCells, d]; simp [World.setCell]⟩

/-- as OwnS, but the slice may begin within its block -/
def OwnW (o : Nat → Nat) (c : Nat) (w : World) (e : TypeId) (size : Nat) (v : Value) (n : Nat) (xs : List Value) : Prop :=
  xs.length = n * size ∧ ((v = .slice none 0 0 ∧ n = 0) ∨ ∃ g off cap cur, v = .slice (some ⟨g, off, none⟩) n cap ∧ Blk w g e cur ∧ o g = c ∧ n ≤ cap ∧ cap ≤ maxLen ∧ off + cap * size ≤ cur.size ∧ (cur.toList.drop off).take (n * size) = xs)

section
variable {o : Nat → Nat} {c : Nat} {w w' : World} {e : TypeId} {size n : Nat} {v : Value} {xs : List Value}
theorem OwnW.nil (o : Nat → Nat) (c : Nat) (w : World) (e : TypeId) (size : Nat) : OwnW o c w e size (.slice none 0 0) 0 [] := ⟨by simp, .inl ⟨rfl, rfl⟩⟩
theorem OwnW.of_own (h : OwnS o c w e size v n xs) : OwnW o c w e size v n xs := by
  refine ⟨h.1.1, ?_⟩
  rcases h.1.2 with ⟨a, b⟩ | ⟨g, cap, cur, rfl, _, hg, h1, h2, h3, h4⟩
  · exact .inl ⟨a, b⟩
  · exact .inr ⟨g, 0, cap, cur, rfl, hg, h.2 g rfl, h1, h2, by omega, by simpa using h4⟩
theorem OwnW.heap (h : OwnW o c w e size v n xs) (hb : ∀ g, v.ownBlock = some g → w'.heap[g]? = w.heap[g]?) {o' : Nat → Nat} (ho : ∀ g, v.ownBlock = some g → o' g = o g) : OwnW o' c w' e size v n xs := by
  refine ⟨h.1, ?_⟩
  rcases h.2 with hn | ⟨g, off, cap, cur, rfl, hg, hc, rest⟩
  · exact .inl hn
  · exact .inr ⟨g, off, cap, cur, rfl, (hb g rfl).trans hg, (ho g rfl).trans hc, rest⟩
theorem OwnW.lt (h : OwnW o c w e size v n xs) : ∀ g, v.ownBlock = some g → g < w.heap.size ∧ o g = c := by
  intro g hg
  rcases h.2 with ⟨rfl, _⟩ | ⟨g', off, cap, cur, rfl, hb, hc, _⟩
  · simp [Value.ownBlock] at hg
  · simp only [Value.ownBlock, Option.some.injEq] at hg
    subst hg
    exact ⟨hb.lt, hc⟩
theorem OwnW.step {o' : Nat → Nat} {D : Nat → Prop} (h : OwnW o c w e size v n xs) (hk : Step o D w o' w') (hne : ¬ D c) : OwnW o' c w' e size v n xs :=
  h.heap (fun g hg => hk.block g (h.lt g hg).1 (by rw [(h.lt g hg).2]; exact hne)) (fun g hg => hk.old g (h.lt g hg).1)
theorem OwnW.below_ (h : OwnW o c w e size v n xs) (hb : Below w.heap.size w w') : OwnW o c w' e size v n xs := h.heap (fun g hg => hb.block g (h.lt g hg).1) (fun _ _ => rfl)
theorem OwnW.alloc (h : OwnW o c w e size v n xs) (x : Obj) : OwnW o c (w.alloc x) e size v n xs := h.below_ ((Below.refl _ _).alloc (Nat.le_refl _) x)
theorem OwnW.drewN (h : OwnW o c w e size v n xs) (k : Nat) : OwnW o c (w.drewN k) e size v n xs := h
theorem OwnW.drew (h : OwnW o c w e size v n xs) : OwnW o c w.drew e size v n xs := h
theorem OwnW.setCell (h : OwnW o c w e size v n xs) {p : Addr} (hp : v.ownBlock ≠ some p.block) (u : Value) : OwnW o c (w.setCell p u) e size v n xs :=
  h.heap (fun g hg => Below.heap_setCell _ _ _ _ (by rintro rfl; exact hp hg)) (fun _ _ => rfl)
theorem OwnW.form (h : OwnW o c w e size v n xs) : ∃ A cap, v = .slice A n cap ∧ n ≤ cap ∧ cap ≤ maxLen := by
  rcases h.2 with ⟨rfl, rfl⟩ | ⟨g, off, cap, cur, rfl, _, _, h1, h2, _⟩
  · exact ⟨none, 0, rfl, Nat.le_refl _, Nat.zero_le _⟩
  · exact ⟨_, _, rfl, h1, h2⟩
theorem drop_take_get {l xs : List Value} {off k : Nat} (h : (l.drop off).take k = xs) {j : Nat} {u : Value} (hj : xs[j]? = some u) : l[off + j]? = some u := by
  rw [← h, List.getElem?_take] at hj
  split at hj
  · rwa [List.getElem?_drop] at hj
  · cases hj
theorem OwnW.reads {A : Option Addr} {cap : Nat} (h : OwnW o c w e size (.slice A n cap) n xs) : Reads w size A n xs := by
  refine ⟨h.1, fun hn => ?_⟩
  rcases h.2 with ⟨hv, h0⟩ | ⟨g, off, cap', cur, hv, hb, _, _, _, _, h4⟩
  · omega
  · simp only [Value.slice.injEq] at hv
    obtain ⟨rfl, _, _⟩ := hv
    refine ⟨_, rfl, fun j u hu => ?_⟩
    rw [Addr.add_lit, hb.cell]
    have := drop_take_get h4 hu
    simpa using this
/-- an element's cells, where there is one -/
theorem OwnW.open_ {A : Option Addr} {cap : Nat} (h : OwnW o c w e size (.slice A n cap) n xs) (hn : 0 < n) :
    ∃ g off, A = some ⟨g, off, none⟩ ∧ g < w.heap.size ∧ o g = c ∧ n ≤ cap ∧ ∀ j u, xs[j]? = some u → w.cell? ⟨g, off + j, none⟩ = some u := by
  rcases h.2 with ⟨hv, h0⟩ | ⟨g, off, cap', cur, hv, hb, hc, h1, _, _, h4⟩
  · omega
  · simp only [Value.slice.injEq] at hv
    obtain ⟨rfl, _, rfl⟩ := hv
    refine ⟨g, off, rfl, hb.lt, hc, h1, fun j u hu => ?_⟩
    rw [hb.cell]
    have := drop_take_get h4 hu
    simpa using this
/-- 'l[1:]' -/
theorem OwnW.tail {g off cap : Nat} (h : OwnW o c w e size (.slice (some ⟨g, off, none⟩) n cap) n xs) (hn : 0 < n) :
    OwnW o c w e size (.slice (some (if cap = 1 then ⟨g, off, none⟩ else ⟨g, off + size, none⟩)) (n - 1) (cap - 1)) (n - 1) (xs.drop size) := by
  rcases h.2 with ⟨hv, h0⟩ | ⟨g', off', cap', cur, hv, hb, hc, h1, h2, h3, h4⟩
  · omega
  · simp only [Value.slice.injEq, Option.some.injEq, Addr.mk.injEq] at hv
    obtain ⟨⟨rfl, rfl, _⟩, _, rfl⟩ := hv
    have hlen : (xs.drop size).length = (n - 1) * size := by rw [List.length_drop, h.1, Nat.sub_mul, Nat.one_mul]
    refine ⟨hlen, .inr ?_⟩
    by_cases hc1 : cap = 1
    · rw [if_pos hc1]
      subst hc1
      have hn1 : n = 1 := by omega
      subst hn1
      refine ⟨g, off, 0, cur, rfl, hb, hc, by omega, by unfold maxLen; omega, by omega, ?_⟩
      have : xs.drop size = [] := List.eq_nil_of_length_eq_zero (by simpa using hlen)
      simp [this]
    · rw [if_neg hc1]
      refine ⟨g, off + size, cap - 1, cur, rfl, hb, hc, by omega, by omega, ?_, ?_⟩
      · have : cap * size = (cap - 1) * size + size := by rw [← Nat.succ_mul]; congr 1; omega
        omega
      · rw [← h4, List.drop_take, List.drop_drop]
        congr 1
        rw [Nat.sub_mul, Nat.one_mul]
theorem ownW_blk_ne (h : OwnW o c w e size v n xs) {g : Nat} {t : TypeId} {cs : Array Value} (hg : Blk w g t cs) (hne : e ≠ t) : v.ownBlock ≠ some g := by
  rcases h.2 with ⟨rfl, _⟩ | ⟨g', off, cap, cur, rfl, hh, _⟩
  · simp [Value.ownBlock]
  · intro he
    have : g' = g := by simpa [Value.ownBlock] using he
    subst this
    exact hh.ne_ hg hne rfl
end

section
variable {P : Program} (w : World)
theorem run_append_W {o : Nat → Nat} {c0 : Nat} (t ty e : TypeId) (i : TypeInfo) (z : Value) (size bytes : Nat) (ht : P.underlying t = some (.slice e)) (hi : P.info? e = some i) (hz : i.zero = some z)
    (hsize : i.size = size) (hby : i.bytes = bytes) (hzs : z.cells.size = size) (hsz : 0 < size)
    (v : Value) (n : Nat) (xs : List Value) (hown : OwnW o c0 w e size v n xs)
    (A : Option Addr) (m c : Nat) (news : List Value) (hr : Reads w size A m news) (h1 : ∀ u ∈ news, u.oneCell' = true)
    (h63 : n + m ≤ maxLen) (hbytes : (n + m) * bytes ≤ 140737488355328) :
    ∃ v' w', (Builtin.append_ #[t, t] ty #[v, .slice A m c]).run P w = .ok v' w' ∧ OwnW (band o w.heap.size w'.heap.size c0) c0 w' e size v' (n + m) (xs ++ news) ∧ Step o (only c0) w (band o w.heap.size w'.heap.size c0) w' := by
  have fin : ∀ v' w', w'.ownsRow w.heap.size e size v' (n + m) (xs ++ news) → w.grownBy w' none →
      OwnW (band o w.heap.size w'.heap.size c0) c0 w' e size v' (n + m) (xs ++ news) ∧ Step o (only c0) w (band o w.heap.size w'.heap.size c0) w' := by
    intro v' w' h2 h3
    refine ⟨OwnW.of_own ⟨⟨h2.1, h2.2.imp id (fun ⟨g, cap, cur, a1, a2, a3⟩ => ⟨g, cap, cur, a1, Nat.zero_le _, a3⟩)⟩, fun g hg => ?_⟩, (Step.refl o (only c0) w).grown h3 (by simp)⟩
    have := h2.lt g hg
    exact band_in this.1 this.2
  have same : OwnW (band o w.heap.size w.heap.size c0) c0 w e size v n xs ∧ Step o (only c0) w (band o w.heap.size w.heap.size c0) w :=
    ⟨hown.heap (fun _ _ => rfl) (fun g hg => band_lt (hown.lt g hg).1), ⟨rfl, rfl, rfl, Nat.le_refl _, fun _ hk => band_lt hk, fun _ hk => band_ge hk, fun _ _ _ => rfl⟩⟩
  by_cases hm : m = 0
  · subst hm
    have hn : news = [] := List.eq_nil_of_length_eq_zero (by simpa using hr.1)
    subst hn
    refine ⟨v, w, ?_, by simpa using same.1, same.2⟩
    rcases hown.2 with ⟨rfl, rfl⟩ | ⟨g, off, cap, cur, rfl, _, _, hnc, _⟩
    · cases A <;> simp [Builtin.append_, run_underlying ht, sizeOf, typeInfo, hi, Builtin.lenOf, Builtin.firstCells, loadCells, loadCellsFrom]
    · cases A <;> simp [Builtin.append_, run_underlying ht, sizeOf, typeInfo, hi, Builtin.lenOf, Builtin.firstCells, hnc, storeCells, loadCells, loadCellsFrom]
  · obtain ⟨ad, rfl, hcells⟩ := hr.2 (by omega)
    rcases hown.2 with ⟨rfl, rfl⟩ | ⟨g, off, cap, cur, rfl, hb, hgc, hnc, hcm, hcs, htake⟩
    · have hx : xs = [] := List.eq_nil_of_length_eq_zero (by simpa using hown.1)
      subst hx
      obtain ⟨v', w', hrun, h2, h3, _⟩ := run_append_own (P := P) w w.heap.size t ty e i z size bytes ht hi hz hsize hby hzs hsz (.slice none 0 0) 0 [] (World.ownsRow_nil w _ e size) ad m c news hr.1 hcells h1 h63 hbytes (Nat.le_refl _)
      obtain ⟨f1, f2⟩ := fin v' w' h2 (by simpa [Value.ownBlock] using h3)
      exact ⟨v', w', hrun, f1, f2⟩
    · by_cases hroom : n + m ≤ cap
      · subst hsize
        have hfit : off + n * i.size + news.length ≤ cur.size := by
          have : (n + m) * i.size ≤ cap * i.size := Nat.mul_le_mul_right _ hroom
          rw [Nat.add_mul] at this
          rw [hr.1]
          omega
        have hrun := run_append_room_cells (P := P) w t ty e i ht hi g off n cap ad m c news hr.1 hcells h1 hroom
          (fun j hj => by obtain ⟨u, hu⟩ := hb.cell_some (i := off + n * i.size + j) (by omega); rw [hu]; rfl) (fun j hj => hb.frozen _)
        obtain ⟨cs', b1, b2, b3⟩ := Blk.cells_ news (off + n * i.size) w cur hb
        obtain ⟨s1, s2, s3, s4⟩ := setCells_same g news (off + n * i.size) w
        refine ⟨_, _, hrun, ⟨by rw [List.length_append, hown.1, hr.1, Nat.add_mul], .inr ⟨g, off, cap, cs', rfl, b1, by rw [band_lt hb.lt]; exact hgc, hroom, hcm, by omega, ?_⟩⟩, ⟨s1, s2, s3, by omega, fun _ hk => band_lt hk, fun _ hk => band_ge hk, fun k hk hne => setCells_far (fun e => hne (by rw [e]; exact hgc)) _ _ _⟩⟩
        apply List.ext_getElem?
        intro j
        rw [List.getElem?_take, List.getElem?_drop]
        simp only [Array.getElem?_toList, b3]
        have hxl := hown.1
        have hnl := hr.1
        by_cases hj : j < (n + m) * i.size
        · rw [if_pos hj]
          rw [Nat.add_mul] at hj
          by_cases hj2 : j < n * i.size
          · rw [if_neg (by omega), List.getElem?_append_left (by omega)]
            obtain ⟨u, hu⟩ : ∃ u, xs[j]? = some u := ⟨_, List.getElem?_eq_getElem (by omega)⟩
            rw [hu]
            have := drop_take_get htake hu
            simpa using this
          · rw [if_pos (by omega), List.getElem?_append_right (by omega)]
            congr 1
            omega
        · rw [if_neg hj, List.getElem?_eq_none]
          rw [Nat.add_mul] at hj
          rw [List.length_append]
          omega
      · obtain ⟨v', w', hrun, h2, h3⟩ := run_append_arg_grows (P := P) w t ty e i z size bytes ht hi hz hsize hby hzs hsz ⟨g, off, none⟩ n cap xs hown.1 (fun j u hj => by
          rw [Addr.add_lit, hb.cell]
          have := drop_take_get htake hj
          simpa using this) ad m c news hr.1 hcells (by omega) h63 hbytes
        obtain ⟨f1, f2⟩ := fin v' w' h2 h3
        exact ⟨v', w', hrun, f1, f2⟩

theorem wp_append_W {op : Oper} {a : Act} {K : Act → World → Prop} {Q : Exit → Act → World → Prop} {o : Nat → Nat} {c0 : Nat} (s x : Operand) (t : TypeId)
    (ho : op.op = .call { callee := .builtin .append, args := #[s, x], argTypes := #[t, t] })
    (e : TypeId) (i : TypeInfo) (z : Value) (size bytes : Nat) (ht : P.underlying t = some (.slice e)) (hi : P.info? e = some i) (hz : i.zero = some z)
    (hsize : i.size = size) (hby : i.bytes = bytes) (hzs : z.cells.size = size) (hsz : 0 < size)
    (v : Value) (n : Nat) (xs : List Value) (hs : a.eval s = v) (hown : OwnW o c0 w e size v n xs)
    (A : Option Addr) (m c : Nat) (news : List Value) (hx : a.eval x = .slice A m c) (hr : Reads w size A m news) (h1 : ∀ u ∈ news, u.oneCell' = true)
    (h63 : n + m ≤ maxLen) (hbytes : (n + m) * bytes ≤ 140737488355328)
    (h : ∀ v' w', OwnW (band o w.heap.size w'.heap.size c0) c0 w' e size v' (n + m) (xs ++ news) → Step o (only c0) w (band o w.heap.size w'.heap.size c0) w' → K (a.put op.dst v') w') : op.wp P a w K Q := by
  obtain ⟨v', w', hrun, h2, h3⟩ := run_append_W (P := P) w t op.type e i z size bytes ht hi hz hsize hby hzs hsz v n xs hown A m c news hr h1 h63 hbytes
  unfold Oper.wp execOp
  simp only [ho, resolve, invoke, builtin, Sem.run_bind, Sem.run_pure, Result.andThen_ok, List.map_toArray, List.map_cons, List.map_nil, hs, hx, hrun]
  exact h v' w' h2 h3

theorem wpList_append_W {ops : Array Oper} {rest : List Oper} {op : Oper} {a : Act} {Q : Exit → Act → World → Prop} (hgd : op.guard = none) {o : Nat → Nat} {c0 : Nat} (s x : Operand) (t : TypeId)
    (ho : op.op = .call { callee := .builtin .append, args := #[s, x], argTypes := #[t, t] })
    (e : TypeId) (i : TypeInfo) (z : Value) (size bytes : Nat) (ht : P.underlying t = some (.slice e)) (hi : P.info? e = some i) (hz : i.zero = some z)
    (hsize : i.size = size) (hby : i.bytes = bytes) (hzs : z.cells.size = size) (hsz : 0 < size)
    (v : Value) (n : Nat) (xs : List Value) (hs : a.eval s = v) (hown : OwnW o c0 w e size v n xs)
    (A : Option Addr) (m c : Nat) (news : List Value) (hx : a.eval x = .slice A m c) (hr : Reads w size A m news) (h1 : ∀ u ∈ news, u.oneCell' = true)
    (h63 : n + m ≤ maxLen) (hbytes : (n + m) * bytes ≤ 140737488355328)
    (h : ∀ v' w', OwnW (band o w.heap.size w'.heap.size c0) c0 w' e size v' (n + m) (xs ++ news) → Step o (only c0) w (band o w.heap.size w'.heap.size c0) w' → wpList P ops Q rest (a.put op.dst v') w') : wpList P ops Q (op :: rest) a w :=
  wpList_plain hgd fun _ hK => wp_append_W w s x t ho e i z size bytes ht hi hz hsize hby hzs hsz v n xs hs hown A m c news hx hr h1 h63 hbytes fun v' w' h2 h3 => hK _ _ (h v' w' h2 h3)

theorem step_append_W {ops : Array Oper} {op : Oper} {a : Act} {K : Act → World → Prop} {Q : Exit → Act → World → Prop} {E : Prop} (hgd : op.guard = none) {o : Nat → Nat} {c0 : Nat} (s x : Operand) (t : TypeId)
    (ho : op.op = .call { callee := .builtin .append, args := #[s, x], argTypes := #[t, t] })
    (e : TypeId) (i : TypeInfo) (z : Value) (size bytes : Nat) (ht : P.underlying t = some (.slice e)) (hi : P.info? e = some i) (hz : i.zero = some z)
    (hsize : i.size = size) (hby : i.bytes = bytes) (hzs : z.cells.size = size) (hsz : 0 < size)
    (v : Value) (n : Nat) (xs : List Value) (hs : a.eval s = v) (hown : OwnW o c0 w e size v n xs)
    (A : Option Addr) (m c : Nat) (news : List Value) (hx : a.eval x = .slice A m c) (hr : Reads w size A m news) (h1 : ∀ u ∈ news, u.oneCell' = true)
    (h63 : n + m ≤ maxLen) (hbytes : (n + m) * bytes ≤ 140737488355328)
    (h : ∀ v' w', OwnW (band o w.heap.size w'.heap.size c0) c0 w' e size v' (n + m) (xs ++ news) → Step o (only c0) w (band o w.heap.size w'.heap.size c0) w' → K (a.put op.dst v') w') :
    if Region.wanted op (yielded ops a.tmps) = true then Oper.wp P op a w K Q else E := by
  have hw : Region.wanted op (yielded ops a.tmps) = true := by simp [Region.wanted, hgd]
  rw [if_pos hw]
  exact wp_append_W w s x t ho e i z size bytes ht hi hz hsize hby hzs hsz v n xs hs hown A m c news hx hr h1 h63 hbytes h
end
end Go.Proofs.YtllbionkmgpcaaaGreatDoor

/- The disk in memory, as a plain structure; what its small methods tell. -/
namespace Go.Proofs.YtllbionkmgpcaaaGreatDoor
open Go.RowKit

/-- a sector that was written -/
structure Ws where
  node : Int
  at_ : Int
  seq : Int
  data : ByteArray
def Ws.cells (x : Ws) : List Value := [.int .i64 x.node, .int .i64 x.at_, .int .i64 x.seq, .string x.data]
def Ws.agg (x : Ws) : Value := .agg #[.int .i64 x.node, .int .i64 x.at_, .int .i64 x.seq, .string x.data]
/-- the disk -/
structure Dk where
  sectors : Nat
  on : Bool
  seq : Nat
  now : Int → Option ByteArray
  lasts : Int → Option Ws
  waits : List Ws
  table : Nat → Nat
  words : Nat → Nat
  last : Nat
  armed : Bool
  left : Int
  stays : List Int
def Dk.cells (D : Dk) (mn ml : Nat) (wv sv : Value) : Array Value :=
  #[.int .i64 D.sectors, .bool D.on, .int .i64 D.seq, .map (some mn), .map (some ml), wv,
    .int .u64 (D.table 0), .int .u64 (D.table 1), .int .u64 (D.table 2), .int .u64 (D.table 3), .int .u64 (D.table 4), .int .u64 (D.table 5), .int .u64 (D.table 6), .int .u64 (D.table 7), .int .u64 (D.table 8), .int .u64 (D.table 9), .int .u64 (D.table 10), .int .u64 (D.table 11), .int .u64 (D.table 12), .int .u64 (D.table 13), .int .u64 (D.table 14), .int .u64 (D.table 15), .int .u64 (D.table 16),
    .int .u64 (D.words 0), .int .u64 (D.words 1), .int .u64 (D.words 2), .int .u64 (D.words 3), .int .u64 (D.words 4), .int .u64 (D.words 5), .int .u64 (D.words 6), .int .u64 (D.words 7), .int .u64 (D.words 8), .int .u64 (D.words 9), .int .u64 (D.words 10), .int .u64 (D.words 11), .int .u64 (D.words 12), .int .u64 (D.words 13), .int .u64 (D.words 14), .int .u64 (D.words 15), .int .u64 (D.words 16),
    .int .u64 D.last, .bool D.armed, .int .i64 D.left, sv]
def intcells (l : List Int) : List Value := l.map (fun n => .int .i64 n)
/-- the disk at block p, of colours c to c + 4 -/
structure DiskIn (o : Nat → Nat) (c : Nat) (w : World) (p : Nat) (D : Dk) (mn ml : Nat) (wv sv : Value) : Prop where
  blk : Blk w p 93 (D.cells mn ml wv sv)
  col : o p = c
  now : MapR o (c + 1) w mn (fun k => (D.now k).map .string)
  lasts : MapR o (c + 2) w ml (fun k => (D.lasts k).map Ws.agg)
  waits : OwnW o (c + 3) w 127 4 wv D.waits.length (D.waits.flatMap Ws.cells)
  stays : OwnW o (c + 4) w 3 1 sv D.stays.length (intcells D.stays)
def DiskAt (o : Nat → Nat) (c : Nat) (w : World) (p : Nat) (D : Dk) : Prop := ∃ mn ml wv sv, DiskIn o c w p D mn ml wv sv
/-- the colours of a disk; c + 5: a row that is under way -/
def six (c : Nat) : Nat → Prop := fun x => c ≤ x ∧ x ≤ c + 5
section
variable {o o' : Nat → Nat} {c p : Nat} {C : Nat → Prop} {w w' : World} {D : Dk} {mn ml : Nat} {wv sv : Value}
theorem DiskIn.step (h : DiskIn o c w p D mn ml wv sv) (hs : Step o C w o' w') (hc : ∀ x, c ≤ x → x ≤ c + 4 → ¬ C x) : DiskIn o' c w' p D mn ml wv sv :=
  ⟨h.blk.step hs (by rw [h.col]; exact hc c (by omega) (by omega)), (hs.old p h.blk.lt).trans h.col, h.now.step hs (hc _ (by omega) (by omega)), h.lasts.step hs (hc _ (by omega) (by omega)), h.waits.step hs (hc _ (by omega) (by omega)), h.stays.step hs (hc _ (by omega) (by omega))⟩
theorem DiskAt.step (h : DiskAt o c w p D) (hs : Step o C w o' w') (hc : ∀ x, c ≤ x → x ≤ c + 4 → ¬ C x) : DiskAt o' c w' p D := by
  obtain ⟨mn, ml, wv, sv, h1⟩ := h
  exact ⟨mn, ml, wv, sv, h1.step hs hc⟩
theorem DiskAt.below_ (h : DiskAt o c w p D) (hb : Below w.heap.size w w') : DiskAt o c w' p D := h.step (Step.of_below o (fun _ => False) hb) (fun _ _ _ => id)
theorem DiskAt.alloc (h : DiskAt o c w p D) (x : Obj) : DiskAt o c (w.alloc x) p D := h.below_ ((Below.refl _ _).alloc (Nat.le_refl _) x)
theorem DiskAt.drewN (h : DiskAt o c w p D) (n : Nat) : DiskAt o c (w.drewN n) p D := h.below_ ⟨rfl, rfl, rfl, Nat.le_refl _, fun _ _ => rfl⟩
theorem DiskAt.drew (h : DiskAt o c w p D) : DiskAt o c w.drew p D := h.below_ ⟨rfl, rfl, rfl, Nat.le_refl _, fun _ _ => rfl⟩
theorem DiskIn.table (h : DiskIn o c w p D mn ml wv sv) (k : Nat) (hk : k ≤ 16) : w.cell? ⟨p, 6 + k, none⟩ = some (.int .u64 (D.table k)) := by
  rw [h.blk.cell]
  rcases k with _ | _ | _ | _ | _ | _ | _ | _ | _ | _ | _ | _ | _ | _ | _ | _ | _ | k <;> first | rfl | omega
theorem DiskIn.word (h : DiskIn o c w p D mn ml wv sv) (k : Nat) (hk : k ≤ 16) : w.cell? ⟨p, 23 + k, none⟩ = some (.int .u64 (D.words k)) := by
  rw [h.blk.cell]
  rcases k with _ | _ | _ | _ | _ | _ | _ | _ | _ | _ | _ | _ | _ | _ | _ | _ | _ | k <;> first | rfl | omega
end
theorem don_any {o : Nat → Nat} {c p : Nat} {w : World} {D : Dk} (h : DiskAt o c w p D) : Calls Tryz.prog 84 #[.pointer (some ⟨p, 0, none⟩)] w fun e w' => e = .returned (.bool D.on) ∧ w = w' := by
  obtain ⟨mn, ml, wv, sv, h1⟩ := h
  have c1 : w.cell? ⟨p, 1, none⟩ = some (.bool D.on) := h1.blk.cell 1
  clear h1
  go_enter Tryz.func84, Tryz.ntmps84
  go_wp2_with fail
  go_ret
  exact ⟨rfl, rfl⟩
theorem don_nil (w : World) : Calls Tryz.prog 84 #[.pointer none] w fun e w' => e = .returned (.bool false) ∧ w = w' := by
  go_enter Tryz.func84, Tryz.ntmps84
  go_wp2_with fail
  go_ret
  exact ⟨rfl, rfl⟩
/-- why a node can do nothing -/
def Dk.may (D : Dk) (node : Int) : Int := if D.on = false then 14 else if node < 0 ∨ 16 < node then 1 else 0
theorem dmay_any {o : Nat → Nat} {c p : Nat} {w : World} {D : Dk} (h : DiskAt o c w p D) (node : Int) : Calls Tryz.prog 42 #[.pointer (some ⟨p, 0, none⟩), .int .i64 node] w fun e w' => e = .returned (.int .i64 (D.may node)) ∧ w = w' := by
  have H := Lib.hid h
  clear h
  go_enter Tryz.func42, Tryz.ntmps42
  go_wp2_with fail
  refine (don_any H.out).mono ?_
  rintro e w1 ⟨rfl, rfl⟩
  cases hon : D.on with
  | false =>
    go_wp2_with fail
    go_ret
    exact ⟨by simp [Dk.may, hon], rfl⟩
  | true =>
    by_cases h0 : node < 0
    · go_wp2_with fail
      go_ret
      exact ⟨by simp [Dk.may, hon, h0], rfl⟩
    · by_cases h1 : 16 < node
      · go_wp2_with fail
        go_ret
        exact ⟨by simp [Dk.may, hon, h1], rfl⟩
      · go_wp2_with fail
        go_ret
        exact ⟨by simp [Dk.may, hon, h0, h1], rfl⟩
/-- are a node's writes admitted? -/
def Dk.admits (D : Dk) (node : Nat) (epoch : Nat) : Int := if epoch = 0 ∨ D.table node ≠ epoch then 34 else 0
theorem dadmits_any {o : Nat → Nat} {c p : Nat} {w : World} {D : Dk} (h : DiskAt o c w p D) (node epoch : Nat) (hn : node ≤ 16) : Calls Tryz.prog 43 #[.pointer (some ⟨p, 0, none⟩), .int .i64 node, .int .u64 epoch] w fun e w' => e = .returned (.int .i64 (D.admits node epoch)) ∧ w = w' := by
  obtain ⟨mn, ml, wv, sv, h1⟩ := h
  have ct := h1.table node hn
  have hnI : (node : Int) < 17 := by omega
  clear h1
  unfold Dk.admits
  generalize D.table node = tn at ct
  by_cases h0 : epoch = 0
  · have h0I : (epoch : Int) = 0 := by omega
    rw [if_pos (.inl h0)]
    go_enter Tryz.func43, Tryz.ntmps43
    go_wp2_with fail
    go_ret
    exact ⟨rfl, rfl⟩
  · have h0I : ¬ (epoch : Int) = 0 := by omega
    by_cases h2 : tn = epoch
    · subst h2
      rw [if_neg (by simp [h0])]
      go_enter Tryz.func43, Tryz.ntmps43
      go_wp2_with fail
      go_ret
      exact ⟨rfl, rfl⟩
    · have h2I : ((tn : Int) != (epoch : Int)) = true := by simp; omega
      rw [if_pos (.inr h2)]
      go_enter Tryz.func43, Tryz.ntmps43
      go_wp2_with fail
      go_ret
      exact ⟨rfl, rfl⟩
theorem dgoes_calm {o : Nat → Nat} {c p : Nat} {w : World} {D : Dk} (h : DiskAt o c w p D) (ha : D.armed = false) : Calls Tryz.prog 44 #[.pointer (some ⟨p, 0, none⟩)] w fun e w' => e = .returned (.bool false) ∧ w = w' := by
  obtain ⟨mn, ml, wv, sv, h1⟩ := h
  have c1 : w.cell? ⟨p, 41, none⟩ = some (.bool D.armed) := h1.blk.cell 41
  rw [ha] at c1
  clear h1
  go_enter Tryz.func44, Tryz.ntmps44
  go_wp2_with fail
  go_ret
  exact ⟨rfl, rfl⟩
theorem dlast_any {o : Nat → Nat} {c p : Nat} {w : World} {D : Dk} (h : DiskAt o c w p D) : Calls Tryz.prog 58 #[.pointer (some ⟨p, 0, none⟩)] w fun e w' => e = .returned (.int .u64 D.last) ∧ w = w' := by
  obtain ⟨mn, ml, wv, sv, h1⟩ := h
  have c1 : w.cell? ⟨p, 40, none⟩ = some (.int .u64 D.last) := h1.blk.cell 40
  clear h1
  go_enter Tryz.func58, Tryz.ntmps58
  go_wp2_with fail
  go_ret
  exact ⟨rfl, rfl⟩
theorem dsectors_any {o : Nat → Nat} {c p : Nat} {w : World} {D : Dk} (h : DiskAt o c w p D) : Calls Tryz.prog 55 #[.pointer (some ⟨p, 0, none⟩)] w fun e w' => e = .returned (.int .i64 D.sectors) ∧ w = w' := by
  obtain ⟨mn, ml, wv, sv, h1⟩ := h
  have c1 : w.cell? ⟨p, 0, none⟩ = some (.int .i64 D.sectors) := h1.blk.cell 0
  clear h1
  go_enter Tryz.func55, Tryz.ntmps55
  go_wp2_with fail
  go_ret
  exact ⟨rfl, rfl⟩
/-- are so many sectors there from one on? -/
def Dk.there (D : Dk) (at_ n : Int) : Bool := decide (0 ≤ at_ ∧ at_ ≤ D.sectors ∧ n ≤ D.sectors - at_)
theorem dthere_any {o : Nat → Nat} {c p : Nat} {w : World} {D : Dk} (h : DiskAt o c w p D) (at_ n : Int) (hs : D.sectors ≤ 20000) : Calls Tryz.prog 72 #[.pointer (some ⟨p, 0, none⟩), .int .i64 at_, .int .i64 n] w fun e w' => e = .returned (.bool (D.there at_ n)) ∧ w = w' := by
  obtain ⟨mn, ml, wv, sv, h1⟩ := h
  have c1 : w.cell? ⟨p, 0, none⟩ = some (.int .i64 D.sectors) := h1.blk.cell 0
  clear h1
  unfold Dk.there
  generalize D.sectors = S at c1 hs
  by_cases h0 : 0 ≤ at_
  · by_cases h1 : at_ ≤ (S : Int)
    · have hw : IntKind.i64.wrap ((S : Int) - at_) = (S : Int) - at_ := IntWalk.i64_in _ (by omega)
      by_cases h2 : n ≤ (S : Int) - at_
      · rw [decide_eq_true ⟨h0, h1, h2⟩]
        go_enter Tryz.func72, Tryz.ntmps72
        go_wp2_with fail
        go_ret
        exact ⟨rfl, rfl⟩
      · rw [decide_eq_false (fun h => h2 h.2.2)]
        go_enter Tryz.func72, Tryz.ntmps72
        go_wp2_with fail
        go_ret
        exact ⟨rfl, rfl⟩
    · rw [decide_eq_false (fun h => h1 h.2.1)]
      go_enter Tryz.func72, Tryz.ntmps72
      go_wp2_with fail
      go_ret
      exact ⟨rfl, rfl⟩
  · rw [decide_eq_false (fun h => h0 h.1)]
    go_enter Tryz.func72, Tryz.ntmps72
    go_wp2_with fail
    go_ret
    exact ⟨rfl, rfl⟩
end Go.Proofs.YtllbionkmgpcaaaGreatDoor
