/- An append that also says: what else stood in the row's block, ahead of its end, stands. -/
import Derived.Test.YtjmgefpdfhfhmaaGreatDoorWin
namespace Go.Proofs.YtjmgefpdfhfhmaaGreatDoor
open Go.RowKit

theorem keep_row {o : Nat → Nat} {c1 N c0 : Nat} {w w' : World} {e : TypeId} {size n0 n g off : Nat} {v0 : Value} {xs0 : List Value} {cur cs' : Array Value} {cp : Nat} (h0 : OwnW o c1 w e size v0 n0 xs0) (hb : Blk w g e cur) (hb' : Blk w' g e cs')
    (hfar : ∀ k, k ≠ g → w'.heap[k]? = w.heap[k]?) (hs : cs'.size = cur.size) (hlow : ∀ j, j < off + n * size → cs'[j]? = cur[j]?) (hn : n0 ≤ n) (hor : (∃ cap0, v0 = .slice (some ⟨g, off, none⟩) n0 cap0) ∨ v0.ownBlock ≠ (Value.slice (some ⟨g, off, none⟩) n cp).ownBlock) (_hcs : off + n * size ≤ cur.size) :
    OwnW (band o w.heap.size N c0) c1 w' e size v0 n0 xs0 := by
  rcases hor with ⟨cap0, rfl⟩ | hne
  · refine ⟨h0.1, ?_⟩
    rcases h0.2 with ⟨h, _⟩ | ⟨g1, off1, cap1, cur1, e1, hb1, hc1, a1, a2, a3, a4⟩
    · cases h
    · injection e1 with e2 e3 e4
      injection e2 with e2
      injection e2 with e5 e6
      subst e5 e6 e4
      have hcc : cur1 = cur := by
        have := hb1.symm.trans hb
        injection this with this
        injection this
      subst hcc
      refine .inr ⟨g, off, cap0, cs', rfl, hb', by rw [band_lt hb1.lt]; exact hc1, a1, a2, by omega, ?_⟩
      rw [← a4]
      apply List.ext_getElem?
      intro j
      rw [List.getElem?_take, List.getElem?_take]
      by_cases hj : j < n0 * size
      · have : n0 * size ≤ n * size := Nat.mul_le_mul_right _ hn
        rw [if_pos hj, if_pos hj, List.getElem?_drop, List.getElem?_drop, Array.getElem?_toList, Array.getElem?_toList, hlow _ (by omega)]
      · rw [if_neg hj, if_neg hj]
  · exact h0.heap (fun k hk => hfar k (fun e => hne (by rw [hk, e]; rfl))) (fun k hk => band_lt (h0.lt k hk).1)
/-- behind an append: the same place, or a new block -/
def NewOrSame (w : World) (v : Value) (n : Nat) (v' : Value) (n' : Nat) : Prop := (∃ A0 cap, v = .slice A0 n cap ∧ v' = .slice A0 n' cap) ∨ ∀ g, v'.ownBlock = some g → w.heap.size ≤ g
section
variable {P : Program} (w : World)
theorem run_append_K {o : Nat → Nat} {c0 : Nat} (t ty e : TypeId) (i : TypeInfo) (z : Value) (size bytes : Nat) (ht : P.underlying t = some (.slice e)) (hi : P.info? e = some i) (hz : i.zero = some z)
    (hsize : i.size = size) (hby : i.bytes = bytes) (hzs : z.cells.size = size) (hsz : 0 < size)
    (v : Value) (n : Nat) (xs : List Value) (hown : OwnW o c0 w e size v n xs)
    (A : Option Addr) (m c : Nat) (news : List Value) (hr : Reads w size A m news) (h1 : ∀ u ∈ news, u.oneCell' = true)
    (h63 : n + m ≤ maxLen) (hbytes : (n + m) * bytes ≤ 140737488355328) :
    ∃ v' w', (Builtin.append_ #[t, t] ty #[v, .slice A m c]).run P w = .ok v' w' ∧ OwnW (band o w.heap.size w'.heap.size c0) c0 w' e size v' (n + m) (xs ++ news) ∧ Step o (only c0) w (band o w.heap.size w'.heap.size c0) w' ∧ (∀ c1 v0 n0 xs0, OwnW o c1 w e size v0 n0 xs0 → n0 ≤ n → ((∃ A0 cap0 cap, v0 = .slice A0 n0 cap0 ∧ v = .slice A0 n cap) ∨ v0.ownBlock ≠ v.ownBlock) → OwnW (band o w.heap.size w'.heap.size c0) c1 w' e size v0 n0 xs0) ∧ NewOrSame w v n v' (n + m) := by
  have fin : ∀ v' w', w'.ownsRow w.heap.size e size v' (n + m) (xs ++ news) → w.grownBy w' none →
      OwnW (band o w.heap.size w'.heap.size c0) c0 w' e size v' (n + m) (xs ++ news) ∧ Step o (only c0) w (band o w.heap.size w'.heap.size c0) w' ∧ (∀ c1 v0 n0 xs0, OwnW o c1 w e size v0 n0 xs0 → n0 ≤ n → ((∃ A0 cap0 cap, v0 = .slice A0 n0 cap0 ∧ v = .slice A0 n cap) ∨ v0.ownBlock ≠ v.ownBlock) → OwnW (band o w.heap.size w'.heap.size c0) c1 w' e size v0 n0 xs0) ∧ NewOrSame w v n v' (n + m) := by
    intro v' w' h2 h3
    refine ⟨OwnW.of_own ⟨⟨h2.1, h2.2.imp id (fun ⟨g, cap, cur, a1, a2, a3⟩ => ⟨g, cap, cur, a1, Nat.zero_le _, a3⟩)⟩, fun g hg => ?_⟩, (Step.refl o (only c0) w).grown h3 (by simp), fun c1 v0 n0 xs0 h0 _ _ => h0.heap (fun k hk => h3.block k (h0.lt k hk).1 (by simp)) (fun k hk => band_lt (h0.lt k hk).1), .inr (fun g hg => (h2.lt g hg).1)⟩
    have := h2.lt g hg
    exact band_in this.1 this.2
  have same : OwnW (band o w.heap.size w.heap.size c0) c0 w e size v n xs ∧ Step o (only c0) w (band o w.heap.size w.heap.size c0) w :=
    ⟨hown.heap (fun _ _ => rfl) (fun g hg => band_lt (hown.lt g hg).1), ⟨rfl, rfl, rfl, Nat.le_refl _, fun _ hk => band_lt hk, fun _ hk => band_ge hk, fun _ _ _ => rfl⟩⟩
  by_cases hm : m = 0
  · subst hm
    have hn : news = [] := List.eq_nil_of_length_eq_zero (by simpa using hr.1)
    subst hn
    refine ⟨v, w, ?_, by simpa using same.1, same.2, fun c1 v0 n0 xs0 h0 _ _ => h0.heap (fun _ _ => rfl) (fun k hk => band_lt (h0.lt k hk).1), .inl (by obtain ⟨A, cap, e, _⟩ := hown.form; exact ⟨A, cap, e, e⟩)⟩
    rcases hown.2 with ⟨rfl, rfl⟩ | ⟨g, off, cap, cur, rfl, _, _, hnc, _⟩
    · cases A <;> simp [Builtin.append_, run_underlying ht, sizeOf, typeInfo, hi, Builtin.lenOf, Builtin.firstCells, loadCells, loadCellsFrom]
    · cases A <;> simp [Builtin.append_, run_underlying ht, sizeOf, typeInfo, hi, Builtin.lenOf, Builtin.firstCells, hnc, storeCells, loadCells, loadCellsFrom]
  · obtain ⟨ad, rfl, hcells⟩ := hr.2 (by omega)
    rcases hown.2 with ⟨rfl, rfl⟩ | ⟨g, off, cap, cur, rfl, hb, hgc, hnc, hcm, hcs, htake⟩
    · have hx : xs = [] := List.eq_nil_of_length_eq_zero (by simpa using hown.1)
      subst hx
      obtain ⟨v', w', hrun, h2, h3, _⟩ := run_append_own (P := P) w w.heap.size t ty e i z size bytes ht hi hz hsize hby hzs hsz (.slice none 0 0) 0 [] (World.ownsRow_nil w _ e size) ad m c news hr.1 hcells h1 h63 hbytes (Nat.le_refl _)
      obtain ⟨f1, f2, f3⟩ := fin v' w' h2 (by simpa [Value.ownBlock] using h3)
      exact ⟨v', w', hrun, f1, f2, f3⟩
    · by_cases hroom : n + m ≤ cap
      · subst hsize
        have hfit : off + n * i.size + news.length ≤ cur.size := by
          have : (n + m) * i.size ≤ cap * i.size := Nat.mul_le_mul_right _ hroom
          rw [Nat.add_mul] at this
          rw [hr.1]
          omega
        have hrun := run_append_room_cells (P := P) w t ty e i ht hi g off n cap ad m c news hr.1 hcells h1 hroom
          (fun j hj => by obtain ⟨u, hu⟩ := hb.cell_some (i := off + n * i.size + j) (by omega); rw [hu]; rfl) (fun j hj => hb.frozen _)
        obtain ⟨cs', b1, b2, b3⟩ := Blk.cells_ news (off + n * i.size) w cur hb
        obtain ⟨s1, s2, s3, s4⟩ := setCells_same g news (off + n * i.size) w
        refine ⟨_, _, hrun, ⟨by rw [List.length_append, hown.1, hr.1, Nat.add_mul], .inr ⟨g, off, cap, cs', rfl, b1, by rw [band_lt hb.lt]; exact hgc, hroom, hcm, by omega, ?_⟩⟩, ⟨s1, s2, s3, by omega, fun _ hk => band_lt hk, fun _ hk => band_ge hk, fun k hk hne => setCells_far (fun e => hne (by rw [e]; exact hgc)) _ _ _⟩, ?_, .inl ⟨_, _, rfl, rfl⟩⟩
        rotate_left
        · intro c1 v0 n0 xs0 h0 hn0 hor
          exact keep_row h0 hb b1 (fun k hk => setCells_far hk _ _ _) b2 (fun j hj => by rw [b3, if_neg (by omega)]) hn0 (hor.imp_left (fun ⟨A0, cap0, cap1, e1, e2⟩ => by
            injection e2 with e3
            subst e3
            exact ⟨cap0, e1⟩)) (by have : n * i.size ≤ cap * i.size := Nat.mul_le_mul_right _ hnc; omega)
        apply List.ext_getElem?
        intro j
        rw [List.getElem?_take, List.getElem?_drop]
        simp only [Array.getElem?_toList, b3]
        have hxl := hown.1
        have hnl := hr.1
        by_cases hj : j < (n + m) * i.size
        · rw [if_pos hj]
          rw [Nat.add_mul] at hj
          by_cases hj2 : j < n * i.size
          · rw [if_neg (by omega), List.getElem?_append_left (by omega)]
            obtain ⟨u, hu⟩ : ∃ u, xs[j]? = some u := ⟨_, List.getElem?_eq_getElem (by omega)⟩
            rw [hu]
            have := drop_take_get htake hu
            simpa using this
          · rw [if_pos (by omega), List.getElem?_append_right (by omega)]
            congr 1
            omega
        · rw [if_neg hj, List.getElem?_eq_none]
          rw [Nat.add_mul] at hj
          rw [List.length_append]
          omega
      · obtain ⟨v', w', hrun, h2, h3⟩ := run_append_arg_grows (P := P) w t ty e i z size bytes ht hi hz hsize hby hzs hsz ⟨g, off, none⟩ n cap xs hown.1 (fun j u hj => by
          rw [Addr.add_lit, hb.cell]
          have := drop_take_get htake hj
          simpa using this) ad m c news hr.1 hcells (by omega) h63 hbytes
        obtain ⟨f1, f2, f3⟩ := fin v' w' h2 h3
        exact ⟨v', w', hrun, f1, f2, f3⟩

theorem wp_append_K {op : Oper} {a : Act} {K : Act → World → Prop} {Q : Exit → Act → World → Prop} {o : Nat → Nat} {c0 : Nat} (s x : Operand) (t : TypeId)
    (ho : op.op = .call { callee := .builtin .append, args := #[s, x], argTypes := #[t, t] })
    (e : TypeId) (i : TypeInfo) (z : Value) (size bytes : Nat) (ht : P.underlying t = some (.slice e)) (hi : P.info? e = some i) (hz : i.zero = some z)
    (hsize : i.size = size) (hby : i.bytes = bytes) (hzs : z.cells.size = size) (hsz : 0 < size)
    (v : Value) (n : Nat) (xs : List Value) (hs : a.eval s = v) (hown : OwnW o c0 w e size v n xs)
    (A : Option Addr) (m c : Nat) (news : List Value) (hx : a.eval x = .slice A m c) (hr : Reads w size A m news) (h1 : ∀ u ∈ news, u.oneCell' = true)
    (h63 : n + m ≤ maxLen) (hbytes : (n + m) * bytes ≤ 140737488355328)
    (h : ∀ v' w', OwnW (band o w.heap.size w'.heap.size c0) c0 w' e size v' (n + m) (xs ++ news) → Step o (only c0) w (band o w.heap.size w'.heap.size c0) w' → (∀ c1 v0 n0 xs0, OwnW o c1 w e size v0 n0 xs0 → n0 ≤ n → ((∃ A0 cap0 cap, v0 = .slice A0 n0 cap0 ∧ v = .slice A0 n cap) ∨ v0.ownBlock ≠ v.ownBlock) → OwnW (band o w.heap.size w'.heap.size c0) c1 w' e size v0 n0 xs0) → NewOrSame w v n v' (n + m) → K (a.put op.dst v') w') : op.wp P a w K Q := by
  obtain ⟨v', w', hrun, h2, h3, h4, h5⟩ := run_append_K (P := P) w t op.type e i z size bytes ht hi hz hsize hby hzs hsz v n xs hown A m c news hr h1 h63 hbytes
  unfold Oper.wp execOp
  simp only [ho, resolve, invoke, builtin, Sem.run_bind, Sem.run_pure, Result.andThen_ok, List.map_toArray, List.map_cons, List.map_nil, hs, hx, hrun]
  exact h v' w' h2 h3 h4 h5

theorem wpList_append_K {ops : Array Oper} {rest : List Oper} {op : Oper} {a : Act} {Q : Exit → Act → World → Prop} (hgd : op.guard = none) {o : Nat → Nat} {c0 : Nat} (s x : Operand) (t : TypeId)
    (ho : op.op = .call { callee := .builtin .append, args := #[s, x], argTypes := #[t, t] })
    (e : TypeId) (i : TypeInfo) (z : Value) (size bytes : Nat) (ht : P.underlying t = some (.slice e)) (hi : P.info? e = some i) (hz : i.zero = some z)
    (hsize : i.size = size) (hby : i.bytes = bytes) (hzs : z.cells.size = size) (hsz : 0 < size)
    (v : Value) (n : Nat) (xs : List Value) (hs : a.eval s = v) (hown : OwnW o c0 w e size v n xs)
    (A : Option Addr) (m c : Nat) (news : List Value) (hx : a.eval x = .slice A m c) (hr : Reads w size A m news) (h1 : ∀ u ∈ news, u.oneCell' = true)
    (h63 : n + m ≤ maxLen) (hbytes : (n + m) * bytes ≤ 140737488355328)
    (h : ∀ v' w', OwnW (band o w.heap.size w'.heap.size c0) c0 w' e size v' (n + m) (xs ++ news) → Step o (only c0) w (band o w.heap.size w'.heap.size c0) w' → (∀ c1 v0 n0 xs0, OwnW o c1 w e size v0 n0 xs0 → n0 ≤ n → ((∃ A0 cap0 cap, v0 = .slice A0 n0 cap0 ∧ v = .slice A0 n cap) ∨ v0.ownBlock ≠ v.ownBlock) → OwnW (band o w.heap.size w'.heap.size c0) c1 w' e size v0 n0 xs0) → NewOrSame w v n v' (n + m) → wpList P ops Q rest (a.put op.dst v') w') : wpList P ops Q (op :: rest) a w :=
  wpList_plain hgd fun _ hK => wp_append_K w s x t ho e i z size bytes ht hi hz hsize hby hzs hsz v n xs hs hown A m c news hx hr h1 h63 hbytes fun v' w' h2 h3 h4 h5 => hK _ _ (h v' w' h2 h3 h4 h5)

theorem step_append_K {ops : Array Oper} {op : Oper} {a : Act} {K : Act → World → Prop} {Q : Exit → Act → World → Prop} {E : Prop} (hgd : op.guard = none) {o : Nat → Nat} {c0 : Nat} (s x : Operand) (t : TypeId)
    (ho : op.op = .call { callee := .builtin .append, args := #[s, x], argTypes := #[t, t] })
    (e : TypeId) (i : TypeInfo) (z : Value) (size bytes : Nat) (ht : P.underlying t = some (.slice e)) (hi : P.info? e = some i) (hz : i.zero = some z)
    (hsize : i.size = size) (hby : i.bytes = bytes) (hzs : z.cells.size = size) (hsz : 0 < size)
    (v : Value) (n : Nat) (xs : List Value) (hs : a.eval s = v) (hown : OwnW o c0 w e size v n xs)
    (A : Option Addr) (m c : Nat) (news : List Value) (hx : a.eval x = .slice A m c) (hr : Reads w size A m news) (h1 : ∀ u ∈ news, u.oneCell' = true)
    (h63 : n + m ≤ maxLen) (hbytes : (n + m) * bytes ≤ 140737488355328)
    (h : ∀ v' w', OwnW (band o w.heap.size w'.heap.size c0) c0 w' e size v' (n + m) (xs ++ news) → Step o (only c0) w (band o w.heap.size w'.heap.size c0) w' → (∀ c1 v0 n0 xs0, OwnW o c1 w e size v0 n0 xs0 → n0 ≤ n → ((∃ A0 cap0 cap, v0 = .slice A0 n0 cap0 ∧ v = .slice A0 n cap) ∨ v0.ownBlock ≠ v.ownBlock) → OwnW (band o w.heap.size w'.heap.size c0) c1 w' e size v0 n0 xs0) → NewOrSame w v n v' (n + m) → K (a.put op.dst v') w') :
    if Region.wanted op (yielded ops a.tmps) = true then Oper.wp P op a w K Q else E := by
  have hw : Region.wanted op (yielded ops a.tmps) = true := by simp [Region.wanted, hgd]
  rw [if_pos hw]
  exact wp_append_K w s x t ho e i z size bytes ht hi hz hsize hby hzs hsz v n xs hs hown A m c news hx hr h1 h63 hbytes h
end
end Go.Proofs.YtjmgefpdfhfhmaaGreatDoor
