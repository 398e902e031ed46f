/- Bytes of the call's own: an append of a string, and of so many zeros, onto a slice of a colour; bytes as values. -/
import Derived.Test.YtianlhigeabehaaGreatDoorKWin
import Derived.Lib.AppendStr
import Derived.Lib.AppendZerosOnto
namespace Go.Proofs.YtianlhigeabehaaGreatDoor
open Go.RowKit

def bv (b : UInt8) : Value := .int .u8 b.toNat
def bvs (l : List UInt8) : List Value := l.map bv
theorem bvs_len (l : List UInt8) : (bvs l).length = l.length := by simp [bvs]
theorem bvs_app (l m : List UInt8) : bvs (l ++ m) = bvs l ++ bvs m := by simp [bvs]
theorem bvs_one (l : List UInt8) : ∀ u ∈ bvs l, u.oneCell' = true := by
  intro u hu
  obtain ⟨b, _, rfl⟩ := List.mem_map.1 hu
  rfl
theorem bvs_str (s : ByteArray) : Lib.strCells s = bvs s.data.toList := rfl
theorem zeroCells_bvs (k : Nat) : (Builtin.zeroCells (Value.int .u8 0).cells k).toList = bvs (List.replicate k 0) := by
  simp only [Builtin.zeroCells, bvs, List.map_replicate]
  apply List.ext_getElem
  · simp [Value.cells]
  · intro i h1 h2
    simp [Value.cells, bv, Nat.mod_one]

section
variable {P : Program} (w : World)
/-- an append whose two arms are known, onto a slice of bytes of colour c0 -/
theorem append_arms {o : Nat → Nat} {c0 : Nat} (t u ty e : TypeId) (x : Value) (m : Nat) (news : List Value) (hl : news.length = m)
    (hnil : m = 0 → (Builtin.append_ #[t, u] ty #[.slice none 0 0, x]).run P w = .ok (.slice none 0 0) w)
    (hroom : ∀ g n cap cur, Blk w g e cur → n + m ≤ cap → cap = cur.size → (Builtin.append_ #[t, u] ty #[.slice (some ⟨g, 0, none⟩) n cap, x]).run P w = .ok (.slice (some ⟨g, 0, none⟩) (n + m) cap) (w.setCells g n news))
    (hgrow0 : 0 < m → ∃ C, m ≤ C ∧ C ≤ maxLen ∧ ∃ rest : Array Value, rest.size = C - m ∧ (Builtin.append_ #[t, u] ty #[.slice none 0 0, x]).run P w = .ok (.slice (some ⟨w.heap.size, 0, none⟩) m C) (w.drew.alloc (.cells (news.toArray ++ rest) e)))
    (v : Value) (n : Nat) (xs : List Value) (hown : OwnS o c0 w e 1 v n xs)
    (hgrow : ∀ (ad : Addr) (cap : Nat), n ≤ cap → xs.length = n → (∀ j u, xs[j]? = some u → w.cell? (ad.add j) = some u) → cap < n + m → ∃ C, n + m ≤ C ∧ C ≤ maxLen ∧ ∃ rest : Array Value, rest.size = C - (n + m) ∧ (Builtin.append_ #[t, u] ty #[.slice (some ad) n cap, x]).run P w = .ok (.slice (some ⟨w.heap.size, 0, none⟩) (n + m) C) (w.drew.alloc (.cells (xs.toArray ++ news.toArray ++ rest) e))) :
    ∃ v' w', (Builtin.append_ #[t, u] ty #[v, x]).run P w = .ok v' w' ∧ OwnS (band o w.heap.size w'.heap.size c0) c0 w' e 1 v' (n + m) (xs ++ news) ∧ Step o (only c0) w (band o w.heap.size w'.heap.size c0) w' ∧ w.grownBy w' v.ownBlock := by
  have same : OwnS (band o w.heap.size w.heap.size c0) c0 w e 1 v n xs ∧ Step o (only c0) w (band o w.heap.size w.heap.size c0) w :=
    ⟨hown.color (fun k hk => band_lt hk), ⟨rfl, rfl, rfl, Nat.le_refl _, fun _ hk => band_lt hk, fun _ hk => band_ge hk, fun _ _ _ => rfl⟩⟩
  have hxl : xs.length = n := by simpa using hown.1.1
  have grown : ∀ (rest : Array Value) (C : Nat), n + m ≤ C → C ≤ maxLen → rest.size = C - (n + m) → (Builtin.append_ #[t, u] ty #[v, x]).run P w = .ok (.slice (some ⟨w.heap.size, 0, none⟩) (n + m) C) (w.drew.alloc (.cells (xs.toArray ++ news.toArray ++ rest) e)) →
      ∃ v' w', (Builtin.append_ #[t, u] ty #[v, x]).run P w = .ok v' w' ∧ OwnS (band o w.heap.size w'.heap.size c0) c0 w' e 1 v' (n + m) (xs ++ news) ∧ Step o (only c0) w (band o w.heap.size w'.heap.size c0) w' ∧ w.grownBy w' v.ownBlock := by
    intro rest C h1 h2 h3 hrun
    refine ⟨_, _, hrun, ?_, ?_, ⟨rfl, rfl, rfl, by simp, fun k hk _ => Below.heap_alloc w.drew _ k hk⟩⟩
    · have hb : Blk (w.drew.alloc (.cells (xs.toArray ++ news.toArray ++ rest) e)) w.heap.size e (xs.toArray ++ news.toArray ++ rest) := Blk.new w.drew _ _
      refine OwnS.of_blk hb (band_in (Nat.le_refl _) (by simp)) h1 h2 (by simp [h3, hxl, hl]; omega) ?_
      simp only [Array.toList_append, List.append_assoc]
      rw [← List.append_assoc, show (n + m) * 1 = (xs ++ news).length by rw [List.length_append, hxl, hl, Nat.mul_one]]
      exact List.take_left
    · have := (((Step.refl o (only c0) w).drew).alloc (.cells (xs.toArray ++ news.toArray ++ rest) e))
      exact ⟨this.os, this.tape, this.output, this.size, fun _ hk => band_lt hk, fun _ hk => band_ge hk, this.block⟩
  rcases hown.1.2 with ⟨rfl, rfl⟩ | ⟨g, cap, cur, rfl, _, hg, hnc, hcm, hcs, htake⟩
  · by_cases hm : m = 0
    · subst hm
      have hn : news = [] := List.eq_nil_of_length_eq_zero hl
      subst hn
      exact ⟨_, _, hnil rfl, by simpa using same.1, same.2, World.grownBy.refl w _⟩
    · have hx : xs = [] := List.eq_nil_of_length_eq_zero hxl
      subst hx
      obtain ⟨C, h1, h2, rest, h3, hrun⟩ := hgrow0 (by omega)
      exact grown rest C (by omega) h2 (by omega) (by simpa using hrun)
  · by_cases hr : n + m ≤ cap
    · have hb : Blk w g e cur := hg
      obtain ⟨cs', b1, b2, b3⟩ := Blk.cells_ news n w cur hb
      obtain ⟨s1, s2, s3, s4⟩ := setCells_same g news n w
      have hgc := hown.2 g rfl
      refine ⟨_, _, hroom g n cap cur hb hr (by omega), ?_, ⟨s1, s2, s3, by omega, fun _ hk => band_lt hk, fun _ hk => band_ge hk, fun k hk hne => setCells_far (fun e => hne (by rw [e]; exact hgc)) _ _ _⟩, ⟨s1, s2, s3, by omega, fun k hk hne => setCells_far (fun e => hne (by rw [e]; rfl)) _ _ _⟩⟩
      refine OwnS.of_blk b1 (by rw [band_lt hb.lt]; exact hgc) hr hcm (by omega) ?_
      apply List.ext_getElem?
      intro j
      rw [List.getElem?_take]
      simp only [Array.getElem?_toList, b3]
      by_cases hj : j < (n + m) * 1
      · rw [if_pos hj]
        by_cases hj2 : j < n
        · rw [if_neg (by omega), List.getElem?_append_left (by omega), ← htake, List.getElem?_take, if_pos (by omega)]
          simp
        · rw [if_pos (by omega), List.getElem?_append_right (by omega), hxl]
      · rw [if_neg hj, List.getElem?_eq_none]
        rw [List.length_append]
        omega
    · obtain ⟨C, h1, h2, rest, h3, hrun⟩ := hgrow ⟨g, 0, none⟩ cap hnc hxl (hown.1.cells (g := g) rfl) (by omega)
      exact grown rest C h1 h2 h3 hrun

theorem run_append_str_S {o : Nat → Nat} {c0 : Nat} (t u ty e : TypeId) (i : TypeInfo) (ht : P.underlying t = some (.slice e)) (hu : P.underlying u = some .string) (hi : P.info? e = some i) (hz : i.zero = some (.int .u8 0))
    (hsize : i.size = 1) (hby : i.bytes = 1) (v : Value) (n : Nat) (xs : List Value) (hown : OwnS o c0 w e 1 v n xs) (s : ByteArray) (hb : n + s.size ≤ 140737488355328) :
    ∃ v' w', (Builtin.append_ #[t, u] ty #[v, .string s]).run P w = .ok v' w' ∧ OwnS (band o w.heap.size w'.heap.size c0) c0 w' e 1 v' (n + s.size) (xs ++ bvs s.data.toList) ∧ Step o (only c0) w (band o w.heap.size w'.heap.size c0) w' ∧ w.grownBy w' v.ownBlock := by
  have hsl : (bvs s.data.toList).length = s.size := by rw [bvs_len]; rfl
  refine append_arms w t u ty e (.string s) s.size (bvs s.data.toList) hsl ?_ ?_ ?_ v n xs hown ?_
  · intro h0
    have hf := Lib.run_firstCells_string (P := P) w 1 s
    have he : Lib.strCells s = [] := List.eq_nil_of_length_eq_zero (by rw [Lib.strCells_length]; exact h0)
    rw [he, h0] at hf
    simp [Builtin.append_, run_underlying ht, run_underlying hu, sizeOf, typeInfo, hi, hsize, Builtin.lenOf, h0, hf]
  · intro g n' cap cur hg hr hc
    have hf := Lib.run_firstCells_string (P := P) w 1 s
    have hst := run_storeCells_cells (P := P) g n' (Lib.strCells s) 0 w (fun j hj => by
      rw [Lib.strCells_length] at hj
      obtain ⟨u, hu⟩ := hg.cell_some (i := n' + 0 + j) (by omega)
      rw [hu]; rfl) (fun j _ => hg.frozen _) (Lib.strCells_oneCell s)
    simp only [Nat.add_zero] at hst
    simp [Builtin.append_, run_underlying ht, run_underlying hu, sizeOf, typeInfo, hi, hsize, Builtin.lenOf, hr, hf, Addr.add_lit, hst]
    rfl
  · intro h0
    have hr := run_append_nil_string (P := P) w t u ty e i _ ht hu hi hz s h0 (by omega) (by rw [hby]; omega)
    have hge := grownCap_ge w s.size 0 e
    have hcm := grownCap_le_maxLen w s.size 0 e (by unfold maxLen; omega)
    refine ⟨_, hge, hcm, Builtin.zeroCells (Value.int .u8 0).cells (grownCap w s.size 0 e - s.size), by rw [size_zeroCells]; simp [Value.cells], ?_⟩
    rw [hr]
    have e1 : s.data.map (fun b => Value.int .u8 b.toNat) = (bvs s.data.toList).toArray := by
      apply Array.ext'
      simp [bvs]
      intro b _
      rfl
    rw [e1]
  · intro ad cap hnc hlo hcells hc
    have hge := grownCap_ge w (n + s.size) cap e
    have hcm := grownCap_le_maxLen w (n + s.size) cap e (by unfold maxLen; omega)
    have hr := Lib.run_append_grow_string (P := P) w t u ty e i _ ht hu hi hz ad n cap xs (by rw [hlo, hsize, Nat.mul_one]) hcells s hc (by omega) (growslice_fits hc (by rw [hby]; omega))
    exact ⟨_, hge, hcm, _, by rw [size_zeroCells]; simp [Value.cells], hr⟩

/-- 'append(b, make([]byte, k)...)' -/
theorem run_append_zeros_S {o : Nat → Nat} {c0 : Nat} (t u ty e : TypeId) (i : TypeInfo) (kn : IntKind) (ht : P.underlying t = some (.slice e)) (hu : P.underlying u = some (.int kn)) (hi : P.info? e = some i) (hz : i.zero = some (.int .u8 0))
    (hsize : i.size = 1) (hby : i.bytes = 1) (v : Value) (n : Nat) (xs : List Value) (hown : OwnS o c0 w e 1 v n xs) (k : Nat) (hb : n + k ≤ 140737488355328) :
    ∃ v' w', (Builtin.append_ #[t, u] ty #[v, .int .i64 k]).run P w = .ok v' w' ∧ OwnS (band o w.heap.size w'.heap.size c0) c0 w' e 1 v' (n + k) (xs ++ bvs (List.replicate k 0)) ∧ Step o (only c0) w (band o w.heap.size w'.heap.size c0) w' ∧ w.grownBy w' v.ownBlock := by
  have hsl : (bvs (List.replicate k (0 : UInt8))).length = k := by rw [bvs_len]; simp
  have hwr : IntKind.i64.wrap (k : Int) = k := by rw [IntKind.wrap_i64]; omega
  have hneg : ¬ ((k : Int) < 0) := by omega
  have h48i : ¬ (281474976710656 < (k : Int) * (i.bytes : Int)) := by rw [hby]; omega
  have hze : Builtin.zeroCells (Value.int .u8 0).cells k = (bvs (List.replicate k 0)).toArray := by
    apply Array.ext'
    rw [zeroCells_bvs]
  refine append_arms w t u ty e (.int .i64 k) k (bvs (List.replicate k 0)) hsl ?_ ?_ ?_ v n xs hown ?_
  · intro h0
    subst h0
    have hw0 : IntKind.i64.wrap 0 = 0 := hwr
    simp [Builtin.append_, run_underlying ht, run_underlying hu, sizeOf, typeInfo, hi, asInt, asIntOf, hw0]
  · intro g n' cap cur hg hr hc
    have hst := run_storeCells_cells (P := P) g n' (bvs (List.replicate k 0)) 0 w (fun j hj => by
      rw [hsl] at hj
      obtain ⟨u, hu⟩ := hg.cell_some (i := n' + 0 + j) (by omega)
      rw [hu]; rfl) (fun j _ => hg.frozen _) (bvs_one _)
    simp only [Nat.add_zero] at hst
    by_cases h0 : k = 0
    · subst h0
      have hw0 : IntKind.i64.wrap 0 = 0 := hwr
      simp [Builtin.append_, run_underlying ht, run_underlying hu, sizeOf, typeInfo, hi, asInt, asIntOf, hw0, bvs, World.setCells, storeCells]
      omega
    · have hns : ¬ (k * i.size = 0) := by rw [hsize]; omega
      simp [Builtin.append_, run_underlying ht, run_underlying hu, sizeOf, typeInfo, zeroValue, hi, hz, hsize, asInt, asIntOf, hwr, hneg, h48i, hr, hze, Addr.add_lit, hst, h0]
  · intro h0
    have hr := Lib.run_append_nil_zeros (P := P) w t u ty e i _ .i64 kn ht hu hi hz k h0 (by omega) (by omega) (by rw [hby]; omega)
    have hge := grownCap_ge w k 0 e
    have hcm := grownCap_le_maxLen w k 0 e (by unfold maxLen; omega)
    rw [hze] at hr
    exact ⟨_, hge, hcm, _, by rw [size_zeroCells]; simp [Value.cells], hr⟩
  · intro ad cap hnc hlo hcells hc
    by_cases h0 : 0 < k
    · have hge := grownCap_ge w (n + k) cap e
      have hcm := grownCap_le_maxLen w (n + k) cap e (by unfold maxLen; omega)
      have hr := Lib.run_append_grow_zeros (P := P) w t u ty e i _ .i64 kn ht hu hi hz (some ad) n cap xs (run_firstCells_some (P := P) w.drew i.size n ad n cap xs (by rw [hlo, hsize, Nat.mul_one]) (by simpa using hcells)) k h0 (by omega) hc (by omega) (by rw [hby]; omega) (growslice_fits hc (by rw [hby]; omega))
      rw [hze] at hr
      exact ⟨_, hge, hcm, _, by rw [size_zeroCells]; simp [Value.cells], hr⟩
    · omega

theorem wp_append_str_S {op : Oper} {a : Act} {K : Act → World → Prop} {Q : Exit → Act → World → Prop} {o : Nat → Nat} {c0 : Nat} (s x : Operand) (t u : TypeId)
    (ho : op.op = .call { callee := .builtin .append, args := #[s, x], argTypes := #[t, u] })
    (e : TypeId) (i : TypeInfo)  (ht : P.underlying t = some (.slice e)) (hu : P.underlying u = some .string) (hi : P.info? e = some i) (hz : i.zero = some (.int .u8 0))
    (hsize : i.size = 1) (hby : i.bytes = 1) (v : Value) (n : Nat) (xs : List Value) (hs : a.eval s = v) (hown : OwnS o c0 w e 1 v n xs) (b : ByteArray) (hx : a.eval x = .string b) (hb : n + b.size ≤ 140737488355328)
    (h : ∀ v' w', OwnS (band o w.heap.size w'.heap.size c0) c0 w' e 1 v' (n + b.size) (xs ++ bvs b.data.toList) → Step o (only c0) w (band o w.heap.size w'.heap.size c0) w' → w.grownBy w' v.ownBlock → K (a.put op.dst v') w') : op.wp P a w K Q := by
  obtain ⟨v', w', hrun, h2, h3, h4⟩ := run_append_str_S (P := P) w t u op.type e i ht hu hi hz hsize hby v n xs hown b hb
  unfold Oper.wp execOp
  simp only [ho, resolve, invoke, builtin, Sem.run_bind, Sem.run_pure, Result.andThen_ok, List.map_toArray, List.map_cons, List.map_nil, hs, hx, hrun]
  exact h v' w' h2 h3 h4
theorem wpList_append_str_S {ops : Array Oper} {rest : List Oper} {op : Oper} {a : Act} {Q : Exit → Act → World → Prop} (hgd : op.guard = none) {o : Nat → Nat} {c0 : Nat} (s x : Operand) (t u : TypeId)
    (ho : op.op = .call { callee := .builtin .append, args := #[s, x], argTypes := #[t, u] })
    (e : TypeId) (i : TypeInfo)  (ht : P.underlying t = some (.slice e)) (hu : P.underlying u = some .string) (hi : P.info? e = some i) (hz : i.zero = some (.int .u8 0))
    (hsize : i.size = 1) (hby : i.bytes = 1) (v : Value) (n : Nat) (xs : List Value) (hs : a.eval s = v) (hown : OwnS o c0 w e 1 v n xs) (b : ByteArray) (hx : a.eval x = .string b) (hb : n + b.size ≤ 140737488355328)
    (h : ∀ v' w', OwnS (band o w.heap.size w'.heap.size c0) c0 w' e 1 v' (n + b.size) (xs ++ bvs b.data.toList) → Step o (only c0) w (band o w.heap.size w'.heap.size c0) w' → w.grownBy w' v.ownBlock → wpList P ops Q rest (a.put op.dst v') w') : wpList P ops Q (op :: rest) a w :=
  wpList_plain hgd fun _ hK => wp_append_str_S w s x t u ho e i ht hu hi hz hsize hby v n xs hs hown b hx hb fun v' w' h2 h3 h4 => hK _ _ (h v' w' h2 h3 h4)
theorem step_append_str_S {ops : Array Oper} {op : Oper} {a : Act} {K : Act → World → Prop} {Q : Exit → Act → World → Prop} {E : Prop} (hgd : op.guard = none) {o : Nat → Nat} {c0 : Nat} (s x : Operand) (t u : TypeId)
    (ho : op.op = .call { callee := .builtin .append, args := #[s, x], argTypes := #[t, u] })
    (e : TypeId) (i : TypeInfo)  (ht : P.underlying t = some (.slice e)) (hu : P.underlying u = some .string) (hi : P.info? e = some i) (hz : i.zero = some (.int .u8 0))
    (hsize : i.size = 1) (hby : i.bytes = 1) (v : Value) (n : Nat) (xs : List Value) (hs : a.eval s = v) (hown : OwnS o c0 w e 1 v n xs) (b : ByteArray) (hx : a.eval x = .string b) (hb : n + b.size ≤ 140737488355328)
    (h : ∀ v' w', OwnS (band o w.heap.size w'.heap.size c0) c0 w' e 1 v' (n + b.size) (xs ++ bvs b.data.toList) → Step o (only c0) w (band o w.heap.size w'.heap.size c0) w' → w.grownBy w' v.ownBlock → K (a.put op.dst v') w') :
    if Region.wanted op (yielded ops a.tmps) = true then Oper.wp P op a w K Q else E := by
  have hw : Region.wanted op (yielded ops a.tmps) = true := by simp [Region.wanted, hgd]
  rw [if_pos hw]
  exact wp_append_str_S w s x t u ho e i ht hu hi hz hsize hby v n xs hs hown b hx hb h

theorem wp_append_zeros_S {op : Oper} {a : Act} {K : Act → World → Prop} {Q : Exit → Act → World → Prop} {o : Nat → Nat} {c0 : Nat} (s x : Operand) (t u : TypeId)
    (ho : op.op = .call { callee := .builtin .append, args := #[s, x], argTypes := #[t, u] })
    (e : TypeId) (i : TypeInfo) (kn : IntKind) (ht : P.underlying t = some (.slice e)) (hu : P.underlying u = some (.int kn)) (hi : P.info? e = some i) (hz : i.zero = some (.int .u8 0))
    (hsize : i.size = 1) (hby : i.bytes = 1) (v : Value) (n : Nat) (xs : List Value) (hs : a.eval s = v) (hown : OwnS o c0 w e 1 v n xs) (k : Nat) (hx : a.eval x = .int .i64 k) (hb : n + k ≤ 140737488355328)
    (h : ∀ v' w', OwnS (band o w.heap.size w'.heap.size c0) c0 w' e 1 v' (n + k) (xs ++ bvs (List.replicate k 0)) → Step o (only c0) w (band o w.heap.size w'.heap.size c0) w' → w.grownBy w' v.ownBlock → K (a.put op.dst v') w') : op.wp P a w K Q := by
  obtain ⟨v', w', hrun, h2, h3, h4⟩ := run_append_zeros_S (P := P) w t u op.type e i kn ht hu hi hz hsize hby v n xs hown k hb
  unfold Oper.wp execOp
  simp only [ho, resolve, invoke, builtin, Sem.run_bind, Sem.run_pure, Result.andThen_ok, List.map_toArray, List.map_cons, List.map_nil, hs, hx, hrun]
  exact h v' w' h2 h3 h4
theorem wpList_append_zeros_S {ops : Array Oper} {rest : List Oper} {op : Oper} {a : Act} {Q : Exit → Act → World → Prop} (hgd : op.guard = none) {o : Nat → Nat} {c0 : Nat} (s x : Operand) (t u : TypeId)
    (ho : op.op = .call { callee := .builtin .append, args := #[s, x], argTypes := #[t, u] })
    (e : TypeId) (i : TypeInfo) (kn : IntKind) (ht : P.underlying t = some (.slice e)) (hu : P.underlying u = some (.int kn)) (hi : P.info? e = some i) (hz : i.zero = some (.int .u8 0))
    (hsize : i.size = 1) (hby : i.bytes = 1) (v : Value) (n : Nat) (xs : List Value) (hs : a.eval s = v) (hown : OwnS o c0 w e 1 v n xs) (k : Nat) (hx : a.eval x = .int .i64 k) (hb : n + k ≤ 140737488355328)
    (h : ∀ v' w', OwnS (band o w.heap.size w'.heap.size c0) c0 w' e 1 v' (n + k) (xs ++ bvs (List.replicate k 0)) → Step o (only c0) w (band o w.heap.size w'.heap.size c0) w' → w.grownBy w' v.ownBlock → wpList P ops Q rest (a.put op.dst v') w') : wpList P ops Q (op :: rest) a w :=
  wpList_plain hgd fun _ hK => wp_append_zeros_S w s x t u ho e i kn ht hu hi hz hsize hby v n xs hs hown k hx hb fun v' w' h2 h3 h4 => hK _ _ (h v' w' h2 h3 h4)
theorem step_append_zeros_S {ops : Array Oper} {op : Oper} {a : Act} {K : Act → World → Prop} {Q : Exit → Act → World → Prop} {E : Prop} (hgd : op.guard = none) {o : Nat → Nat} {c0 : Nat} (s x : Operand) (t u : TypeId)
    (ho : op.op = .call { callee := .builtin .append, args := #[s, x], argTypes := #[t, u] })
    (e : TypeId) (i : TypeInfo) (kn : IntKind) (ht : P.underlying t = some (.slice e)) (hu : P.underlying u = some (.int kn)) (hi : P.info? e = some i) (hz : i.zero = some (.int .u8 0))
    (hsize : i.size = 1) (hby : i.bytes = 1) (v : Value) (n : Nat) (xs : List Value) (hs : a.eval s = v) (hown : OwnS o c0 w e 1 v n xs) (k : Nat) (hx : a.eval x = .int .i64 k) (hb : n + k ≤ 140737488355328)
    (h : ∀ v' w', OwnS (band o w.heap.size w'.heap.size c0) c0 w' e 1 v' (n + k) (xs ++ bvs (List.replicate k 0)) → Step o (only c0) w (band o w.heap.size w'.heap.size c0) w' → w.grownBy w' v.ownBlock → K (a.put op.dst v') w') :
    if Region.wanted op (yielded ops a.tmps) = true then Oper.wp P op a w K Q else E := by
  have hw : Region.wanted op (yielded ops a.tmps) = true := by simp [Region.wanted, hgd]
  rw [if_pos hw]
  exact wp_append_zeros_S w s x t u ho e i kn ht hu hi hz hsize hby v n xs hs hown k hx hb h
end
end Go.Proofs.YtianlhigeabehaaGreatDoor
