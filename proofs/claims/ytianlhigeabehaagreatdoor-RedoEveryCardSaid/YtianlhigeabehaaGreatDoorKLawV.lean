/- A disk whose power may go: what lasts, what waits, what a cut leaves. -/
import Derived.Test.YtianlhigeabehaaGreatDoorKAlvA
namespace Go.Proofs.YtianlhigeabehaaGreatDoor
open Go.RowKit

/-- writes laid over what lasts -/
def over (f : Int → Option ByteArray) (l : List Ws) : Int → Option ByteArray := l.foldl (fun g x => upd g x.at_ x.data) f
theorem over_add (f : Int → Option ByteArray) (l : List Ws) (x : Ws) : over f (l ++ [x]) = upd (over f l) x.at_ x.data := by
  unfold over
  rw [List.foldl_append]
  rfl
/-- numbers that rise, from s to t -/
def Chain : Int → List Ws → Int → Prop
  | s, [], t => s ≤ t
  | s, x :: l, t => s < x.seq ∧ Chain x.seq l t
theorem Chain.le : ∀ {l : List Ws} {s t : Int}, Chain s l t → s ≤ t ∧ ∀ x ∈ l, x.seq ≤ t
  | [], _, _, h => ⟨h, (fun x hx => by cases hx)⟩
  | x :: l, s, t, h => by
    obtain ⟨h1, h2⟩ := h
    obtain ⟨a, b⟩ := h2.le
    refine ⟨by omega, fun y hy => ?_⟩
    rcases List.mem_cons.1 hy with rfl | hy
    · exact a
    · exact b y hy
theorem Chain.add : ∀ {l : List Ws} {s t : Int} {x : Ws}, Chain s l t → t < x.seq → Chain s (l ++ [x]) x.seq
  | [], _, _, _, h, hx => ⟨Int.lt_of_le_of_lt h hx, Int.le_refl _⟩
  | _ :: _, _, _, _, h, hx => ⟨h.1, h.2.add hx⟩
def lastD (D : Dk) : Int → Option ByteArray := fun k => (D.lasts k).map (fun x : Ws => x.data)
/-- what waits is node n's; what is read is what waits, laid over what lasts; numbers rise -/
structure Sane (D : Dk) (n : Int) : Prop where
  nodes : ∀ x ∈ D.waits, x.node = n
  now : D.now = over (lastD D) D.waits
  chain : ∃ s0 : Int, 0 ≤ s0 ∧ (∀ k x, D.lasts k = some x → x.seq ≤ s0) ∧ Chain s0 D.waits D.seq
theorem keeps_over : ∀ (l : List Ws) (D : Dk) (s t : Int), 0 ≤ s → (∀ k x, D.lasts k = some x → x.seq ≤ s) → Chain s l t →
    lastD (l.foldl Dk.keep D) = over (lastD D) l ∧ ∀ k x, (l.foldl Dk.keep D).lasts k = some x → x.seq ≤ t
  | [], D, s, t, _, hl, hc => ⟨rfl, fun k x h => Int.le_trans (hl k x h) hc⟩
  | x :: l, D, s, t, h0, hl, hc => by
    obtain ⟨h1, h2⟩ := hc
    have hk : D.keep x = { D with lasts := upd D.lasts x.at_ x } := by
      unfold Dk.keep
      rw [if_pos]
      cases hx : D.lasts x.at_ with
      | none => show (0 : Int) < x.seq; omega
      | some y => have := hl _ _ hx; show y.seq < x.seq; omega
    have hd : lastD (D.keep x) = upd (lastD D) x.at_ x.data := by
      rw [hk]
      funext k
      show (upd D.lasts x.at_ x k).map (fun x : Ws => x.data) = _
      unfold upd lastD
      split <;> rfl
    have hl2 : ∀ k y, (D.keep x).lasts k = some y → y.seq ≤ x.seq := by
      rw [hk]
      intro k y hy
      have hy : upd D.lasts x.at_ x k = some y := hy
      unfold upd at hy
      split at hy
      · injection hy with hy
        rw [hy]
        exact Int.le_refl _
      · have := hl k y hy
        omega
    obtain ⟨a, b⟩ := keeps_over l (D.keep x) x.seq t (by omega) hl2 h2
    refine ⟨?_, b⟩
    show lastD (l.foldl Dk.keep (D.keep x)) = over (upd (lastD D) x.at_ x.data) l
    rw [a, hd]
section
variable {D : Dk} {n : Int} {A : Int → ByteArray → Prop}
theorem Sane.settle (h : Sane D n) (m : Int) : Sane (D.settle n) m ∧ (D.settle n).waits = [] ∧ lastD (D.settle n) = D.now := by
  obtain ⟨s0, h0, hl, hc⟩ := h.chain
  have e1 : D.waits.filter (fun x => x.node = n) = D.waits := List.filter_eq_self.2 (fun x hx => decide_eq_true (h.nodes x hx))
  have e2 : D.waits.filter (fun x => ¬ x.node = n) = [] := List.filter_eq_nil_iff.2 (fun x hx => by simp [h.nodes x hx])
  obtain ⟨a, b⟩ := keeps_over D.waits D s0 D.seq h0 hl hc
  have e3 : D.settle n = { D.waits.foldl Dk.keep D with waits := [] } := by
    unfold Dk.settle
    rw [e1, e2]
  have hw : (D.settle n).waits = [] := by rw [e3]
  have hq : (D.settle n).seq = D.seq := (settle_same D n).2.2.2.2.2.2
  have hd : lastD (D.settle n) = D.now := by
    rw [e3]
    exact a.trans h.now.symm
  refine ⟨⟨by rw [hw]; simp, ?_, D.seq, by omega, ?_, ?_⟩, hw, hd⟩
  · rw [settle_now, hw, hd]
    rfl
  · rw [e3]
    exact b
  · rw [hw, hq]
    exact Int.le_refl _
theorem Sane.any (h : Sane D n) (hw : D.waits = []) (m : Int) : Sane D m := ⟨by rw [hw]; simp, h.now, h.chain⟩
theorem Sane.write1 (h : Sane D n) (a : Int) (s : ByteArray) : Sane (D.write1 n a s) n := by
  obtain ⟨s0, h0, hl, hc⟩ := h.chain
  refine ⟨fun x hx => ?_, ?_, s0, h0, hl, ?_⟩
  · have hx : x ∈ D.waits ++ [⟨n, a, (D.seq + 1 : Nat), s⟩] := hx
    rcases List.mem_append.1 hx with hx | hx
    · exact h.nodes x hx
    · rw [List.mem_singleton.1 hx]
  · show upd D.now a s = over (lastD D) (D.waits ++ [⟨n, a, (D.seq + 1 : Nat), s⟩])
    rw [over_add, ← h.now]
  · exact hc.add (x := ⟨n, a, (D.seq + 1 : Nat), s⟩) (show (D.seq : Int) < ((D.seq + 1 : Nat) : Int) by omega)
theorem Sane.writeN (h : Sane D n) (a : Int) (data : ByteArray) : ∀ m, Sane (D.writeN n a data m) n
  | 0 => h
  | m + 1 => (Sane.writeN h a data m).write1 _ _
def lsec (D : Dk) (k : Int) : ByteArray := (lastD D k).getD (str (zer 64))
/-- what lasts, and what waits, is allowed -/
structure Safe (D : Dk) (A : Int → ByteArray → Prop) : Prop where
  last : ∀ k, A k (lsec D k)
  wait : ∀ x ∈ D.waits, A x.at_ x.data
theorem over_safe : ∀ (l : List Ws) (f : Int → Option ByteArray), (∀ k, A k ((f k).getD (str (zer 64)))) → (∀ x ∈ l, A x.at_ x.data) → ∀ k, A k ((over f l k).getD (str (zer 64)))
  | [], _, hf, _ => hf
  | x :: l, f, hf, hl => over_safe l (upd f x.at_ x.data) (fun k => by
      unfold upd
      split
      · rename_i hk
        rw [hk]
        exact hl x (List.mem_cons_self ..)
      · exact hf k) (fun y hy => hl y (List.mem_cons_of_mem _ hy))
theorem Safe.sec (h : Safe D A) (hs : Sane D n) (k : Int) : A k (D.sec k) := by
  unfold Dk.sec
  rw [hs.now]
  exact over_safe D.waits (lastD D) h.last h.wait k
theorem lsec_sec (hs : Sane D n) (hw : D.waits = []) (k : Int) : lsec D k = D.sec k := by
  unfold lsec Dk.sec
  rw [hs.now, hw]
  rfl
theorem safe_of_sec (hs : Sane D n) (hw : D.waits = []) (h : ∀ k, A k (D.sec k)) : Safe D A := ⟨fun k => by rw [lsec_sec hs hw]; exact h k, by rw [hw]; simp⟩
theorem Safe.settle (h : Safe D A) (hs : Sane D n) : Safe (D.settle n) A := by
  obtain ⟨a, b, _⟩ := hs.settle n
  refine safe_of_sec a b (fun k => ?_)
  rw [settle_sec]
  exact h.sec hs k
theorem Safe.write1 (h : Safe D A) {a : Int} {s : ByteArray} (ha : A a s) : Safe (D.write1 n a s) A := by
  refine ⟨h.last, fun x hx => ?_⟩
  have hx : x ∈ D.waits ++ [⟨n, a, (D.seq + 1 : Nat), s⟩] := hx
  rcases List.mem_append.1 hx with hx | hx
  · exact h.wait x hx
  · rw [List.mem_singleton.1 hx]
    exact ha
theorem Safe.writeN (h : Safe D A) {a : Int} {data : ByteArray} : ∀ m : Nat, (∀ j : Nat, j < m → A (a + j) (sect data j)) → Safe (D.writeN n a data m) A
  | 0, _ => h
  | m + 1, hm => (Safe.writeN h m (fun j hj => hm j (by omega))).write1 (hm m (by omega))
theorem cutN_lasts (keep : List Int) (k : Int) (x : Ws) : ∀ m, (D.cutN keep m).lasts k = some x → D.lasts k = some x ∨ (x ∈ D.waits ∧ x.at_ = k)
  | 0, h => .inl h
  | m + 1, h => by
    unfold Dk.cutN at h
    cases hx : D.waits[m]? with
    | none =>
      rw [hx] at h
      exact cutN_lasts keep k x m h
    | some y =>
      rw [hx] at h
      simp only at h
      split at h
      · unfold Dk.keep at h
        split at h
        · have h : upd (D.cutN keep m).lasts y.at_ y k = some x := h
          unfold upd at h
          split at h
          · rename_i hk
            injection h with h
            subst h
            exact .inr ⟨List.mem_of_getElem? hx, hk.symm⟩
          · exact cutN_lasts keep k x m h
        · exact cutN_lasts keep k x m h
      · exact cutN_lasts keep k x m h
theorem cutN_none (keep : List Int) (k : Int) : ∀ m, (D.cutN keep m).lasts k = none → D.lasts k = none
  | 0, h => h
  | m + 1, h => by
    unfold Dk.cutN at h
    cases hx : D.waits[m]? with
    | none =>
      rw [hx] at h
      exact cutN_none keep k m h
    | some y =>
      rw [hx] at h
      simp only at h
      split at h
      · unfold Dk.keep at h
        split at h
        · have h : upd (D.cutN keep m).lasts y.at_ y k = none := h
          unfold upd at h
          split at h
          · cases h
          · exact cutN_none keep k m h
        · exact cutN_none keep k m h
      · exact cutN_none keep k m h
/-- what a cut leaves -/
theorem cut_leaves (h : Sane D n) (hs : Safe D A) (hon : D.on = true) (keep : List Int) (m : Int) : Sane (D.cut keep).2 m ∧ Safe (D.cut keep).2 A ∧ (D.cut keep).2.waits = [] := by
  have e : (D.cut keep).2 = ((D.arm (-1) []).cutN keep D.waits.length).off := by
    unfold Dk.cut
    rw [if_neg (by rw [hon]; decide)]
  obtain ⟨s0, h0, hl, hc⟩ := h.chain
  obtain ⟨c1, c2⟩ := hc.le
  have hq : ((D.arm (-1) []).cutN keep D.waits.length).seq = D.seq := (cutN_same (D.arm (-1) []) keep D.waits.length).2.1
  have hla : ∀ k x, ((D.arm (-1) []).cutN keep D.waits.length).lasts k = some x → D.lasts k = some x ∨ (x ∈ D.waits ∧ x.at_ = k) := fun k x => cutN_lasts (D := D.arm (-1) []) keep k x _
  rw [e]
  have hln : ∀ k, ((D.arm (-1) []).cutN keep D.waits.length).lasts k = none → D.lasts k = none := fun k => cutN_none (D := D.arm (-1) []) keep k _
  generalize (D.arm (-1) []).cutN keep D.waits.length = E at hq hla hln
  have hsa : Sane E.off m := by
    refine ⟨(fun x hx => by cases hx), rfl, D.seq, by omega, fun k x hx => ?_, ?_⟩
    · rcases hla k x hx with hx | ⟨hx, _⟩
      · have := hl k x hx
        omega
      · exact c2 x hx
    · show (D.seq : Int) ≤ (E.seq : Int)
      rw [hq]
      exact Int.le_refl _
  refine ⟨hsa, ⟨fun k => ?_, fun x hx => by cases hx⟩, rfl⟩
  show A k (((E.lasts k).map (fun x : Ws => x.data)).getD (str (zer 64)))
  cases hE : E.lasts k with
  | none =>
    have := hs.last k
    unfold lsec lastD at this
    rw [hln k hE] at this
    exact this
  | some x =>
    rcases hla k x hE with hx | ⟨hx, hk⟩
    · have := hs.last k
      unfold lsec lastD at this
      rw [hx] at this
      exact this
    · have := hs.wait x hx
      rw [hk] at this
      exact this
end
end Go.Proofs.YtianlhigeabehaaGreatDoor

/- A log that is done again, wherever the power goes: each sector holds what it held, or what is to be there. -/
namespace Go.Proofs.YtianlhigeabehaaGreatDoor
open Go.RowKit

/-- on; node 2 is admitted; what lasts, and what waits, is allowed -/
structure Run2 (D : Dk) (e : Nat) (A : Int → ByteArray → Prop) : Prop where
  on : D.on = true
  sectors : D.sectors = 37
  t2 : D.table 2 = e
  sane : Sane D ((2 : Nat) : Int)
  safe : Safe D A
/-- the power has gone -/
structure Off2 (D : Dk) (e : Nat) (A : Int → ByteArray → Prop) : Prop where
  on : D.on = false
  sectors : D.sectors = 37
  t2 : D.table 2 = e
  sane : Sane D ((2 : Nat) : Int)
  safe : Safe D A
  waits : D.waits = []
section
variable {D : Dk} {e : Nat} {A B : Int → ByteArray → Prop}
theorem Run2.live (h : Run2 D e A) : Live D := ⟨h.on, h.sectors⟩
theorem Run2.left (h : Run2 D e A) (n : Int) : Run2 { D with left := n } e A := ⟨h.on, h.sectors, h.t2, ⟨h.sane.nodes, h.sane.now, h.sane.chain⟩, ⟨h.safe.last, h.safe.wait⟩⟩
theorem Run2.goes (h : Run2 D e A) : (∃ n, D.goes = (false, { D with left := n })) ∨ (D.armed = true ∧ D.goes.1 = true ∧ Off2 D.goes.2 e A) := by
  by_cases ha : D.armed = false
  · exact .inl ⟨D.left, goes_calm ha⟩
  · by_cases hl : 0 < D.left
    · left
      refine ⟨wrap64 (D.left - 1), ?_⟩
      unfold Dk.goes
      rw [if_neg ha, if_pos hl]
    · right
      have eg : D.goes = (true, (D.cut D.stays).2) := by
        unfold Dk.goes
        rw [if_neg ha, if_neg hl]
      obtain ⟨c1, c2, c3⟩ := cut_leaves h.sane h.safe h.on D.stays ((2 : Nat) : Int)
      obtain ⟨d1, _, d3, _, _, _, d7, _⟩ := cut_same D D.stays
      rw [eg]
      exact ⟨by cases hb : D.armed; exact absurd hb ha; rfl, rfl, d7, d1.trans h.sectors, by rw [d3]; exact h.t2, c1, c2, c3⟩
theorem Run2.may (h : Run2 D e A) : D.may ((2 : Nat) : Int) = 0 := by
  unfold Dk.may
  rw [if_neg (by rw [h.on]; decide), if_neg (by omega)]
theorem Run2.write (h : Run2 D e A) (h0 : e ≠ 0) {a : Int} {data : ByteArray} {m : Nat} (hd : data.size = m * 64) (m1 : 1 ≤ m) (m2 : m ≤ 16) (a1 : 0 ≤ a) (a2 : a + m ≤ 37) :
    (D.armed = true ∧ (D.write (2 : Nat) e a data).1 = 14 ∧ Off2 (D.write (2 : Nat) e a data).2 e A) ∨ ∃ n, D.write (2 : Nat) e a data = (0, ({ D with left := n } : Dk).writeN (2 : Nat) a data m) := by
  have hq : data.size / 64 = m := by omega
  have hr : data.size % 64 = 0 := by omega
  have hth : D.there a (data.size / 64 : Nat) = true := by
    unfold Dk.there
    rw [hq, h.sectors]
    exact decide_eq_true ⟨a1, by omega, by omega⟩
  have had : D.admits ((2 : Nat) : Int).toNat e = 0 := by
    unfold Dk.admits
    exact if_neg (by show ¬ (e = 0 ∨ D.table 2 ≠ e); simp [h0, h.t2])
  have ew : D.write (2 : Nat) e a data = if D.goes.1 = true then (14, D.goes.2) else (0, D.goes.2.writeN (2 : Nat) a data m) := by
    unfold Dk.write
    rw [if_neg (by rw [h.may]; simp), if_neg (by omega), if_neg (by rw [had]; simp), if_neg (by rw [hth]; simp), hq]
  rw [ew]
  rcases h.goes with ⟨n, hg⟩ | ⟨g1, g2, g3⟩
  · right
    rw [hg]
    exact ⟨n, if_neg (by simp)⟩
  · left
    rw [if_pos g2]
    exact ⟨g1, rfl, g3⟩
theorem Run2.barrier (h : Run2 D e A) (h0 : e ≠ 0) :
    (D.armed = true ∧ (D.barrier (2 : Nat) e).1 = 14 ∧ Off2 (D.barrier (2 : Nat) e).2 e A) ∨ ∃ n, D.barrier (2 : Nat) e = (0, ({ D with left := n } : Dk).settle (2 : Nat)) := by
  have had : D.admits ((2 : Nat) : Int).toNat e = 0 := by
    unfold Dk.admits
    exact if_neg (by show ¬ (e = 0 ∨ D.table 2 ≠ e); simp [h0, h.t2])
  have ew : D.barrier (2 : Nat) e = if D.goes.1 = true then (14, D.goes.2) else (0, D.goes.2.settle (2 : Nat)) := by
    unfold Dk.barrier
    rw [if_neg (by rw [h.may]; simp), if_neg (by rw [had]; simp)]
  rw [ew]
  rcases h.goes with ⟨n, hg⟩ | ⟨g1, g2, g3⟩
  · right
    rw [hg]
    exact ⟨n, if_neg (by simp)⟩
  · left
    rw [if_pos g2]
    exact ⟨g1, rfl, g3⟩
theorem Run2.settle (h : Run2 D e A) : Run2 (D.settle (2 : Nat)) e A ∧ (D.settle (2 : Nat)).waits = [] := by
  obtain ⟨a, b, _⟩ := h.sane.settle ((2 : Nat) : Int)
  have s := settle_same D ((2 : Nat) : Int)
  exact ⟨⟨s.1.trans h.on, s.2.2.1.trans h.sectors, by rw [(settle_tab D _).1]; exact h.t2, a, h.safe.settle h.sane⟩, b⟩
theorem Run2.wrote (h : Run2 D e A) {a : Int} {data : ByteArray} {m : Nat} (hm : ∀ j : Nat, j < m → A (a + j) (sect data j)) : Run2 (D.writeN (2 : Nat) a data m) e A := by
  have s := writeN_same D ((2 : Nat) : Int) a data m
  exact ⟨s.1.trans h.on, s.2.2.1.trans h.sectors, by rw [s.2.2.2.2.2.1]; exact h.t2, h.sane.writeN a data m, h.safe.writeN m hm⟩
theorem Run2.weak (h : Run2 D e A) (hw : D.waits = []) (hb : ∀ k, B k (D.sec k)) : Run2 D e B := ⟨h.on, h.sectors, h.t2, h.sane, safe_of_sec h.sane hw hb⟩
theorem Off2.weak (h : Off2 D e A) (hb : ∀ k v, A k v → B k v) : Off2 D e B := ⟨h.on, h.sectors, h.t2, h.sane, ⟨fun k => hb _ _ (h.safe.last k), fun x hx => hb _ _ (h.safe.wait x hx)⟩, h.waits⟩
end
/-- the images that are to be there -/
structure Wants (l : List Im) : Prop where
  ok : ∀ i ∈ l, i.right ∧ 0 < i.ver ∧ i.ver < 18446744073709551616 ∧ i.block ≤ 9
  one : l.Pairwise (fun i j => i.block ≠ j.block)
/-- the head is there, and the records; a block's sector has bytes 0, or is what it is to be -/
def A1 (l : List Im) (lg : Int → ByteArray) : Int → ByteArray → Prop := fun k v => (k = 1 → v = str hd9) ∧ (2 ≤ k → k ≤ 8 → v = lg k) ∧ ∀ i ∈ l, (k = 17 + 2 * i.block → v = str (zer 64) ∨ v = str (secL i 0)) ∧ (k = 17 + 2 * i.block + 1 → v = str (zer 64) ∨ v = str (secL i 1))
/-- each block is what it is to be; the head is there, or has bytes 0 -/
def A2 (l : List Im) (lg : Int → ByteArray) : Int → ByteArray → Prop := fun k v => (k = 1 → v = str hd9 ∨ v = str (zer 64)) ∧ (2 ≤ k → k ≤ 8 → v = lg k) ∧ ∀ i ∈ l, (k = 17 + 2 * i.block → v = str (secL i 0)) ∧ (k = 17 + 2 * i.block + 1 → v = str (secL i 1))
theorem half_ne {i : Im} (h : i.right) {k : Nat} (hk : k ≤ 1) : secL i k ≠ zer 64 := by
  intro e
  have h1 := (read_stamp (l := secT i k) (n := 64) (by rw [secT_len h hk]; omega) (by omega)).1
  have h2 : readE (secL i k) = 0 := h1
  rw [e, sum60] at h2
  exact absurd h2 (by decide)
theorem secG_at {x y : List UInt8} (hx : x.length = 64) (hy : y.length = 64) : secG (str (x ++ y)) 0 = (if readE x = 0 then (secI (readL x), 0) else (Im.zero, readE x)) ∧ secG (str (x ++ y)) 1 = (if readE y = 0 then (secI (readL y), 0) else (Im.zero, readE y)) := by
  have e0 : ((str (x ++ y)).extract (0 * 64) ((0 + 1) * 64)).data.toList = x := by
    rw [extract_str, str_list, Nat.zero_mul, List.drop_zero, List.take_append_of_le_length (by omega), List.take_of_length_le (by omega)]
  have e1 : ((str (x ++ y)).extract (1 * 64) ((1 + 1) * 64)).data.toList = y := by
    rw [extract_str, str_list, List.take_of_length_le (by rw [List.length_append]; omega), List.drop_append_of_le_length (by omega), List.drop_of_length_le (by omega), List.nil_append]
  unfold secG
  rw [e0, e1]
  exact ⟨rfl, rfl⟩
/-- a block of which one sector alone was written is torn -/
theorem torn_a {i : Im} (h : i.right) (b : Int) : getB b (str (secL i 0 ++ zer 64)) = (Im.zero, 6) := by
  have hl := secL_len h (k := 0) (by omega)
  obtain ⟨g0, g1⟩ := secG_at hl (zer_len 64)
  have hr : readE (secL i 0) = 0 := (read_stamp (l := secT i 0) (n := 64) (by rw [secT_len h (by omega)]; omega) (by omega)).1
  rw [if_pos hr] at g0
  rw [sum60, if_neg (by decide)] at g1
  unfold getB
  rw [if_neg (by rw [str_size, List.length_append, hl, zer_len]; simp), if_neg, if_neg (by rw [g0]; simp), if_pos (by rw [g1]; decide), g1]
  intro e
  have e := str_inj e
  have : zer 128 = zer 64 ++ zer 64 := (zer_app 64 64).symm
  rw [this] at e
  exact half_ne h (k := 0) (by omega) (List.append_inj_left e (by rw [hl, zer_len]))
theorem torn_b {i : Im} (h : i.right) (b : Int) : getB b (str (zer 64 ++ secL i 1)) = (Im.zero, 6) := by
  have hl := secL_len h (k := 1) (by omega)
  obtain ⟨g0, g1⟩ := secG_at (zer_len 64) hl
  rw [sum60, if_neg (by decide)] at g0
  unfold getB
  rw [if_neg (by rw [str_size, List.length_append, hl, zer_len]; simp), if_neg, if_pos (by rw [g0]; decide), g0]
  intro e
  have e := str_inj e
  have : zer 128 = zer 64 ++ zer 64 := (zer_app 64 64).symm
  rw [this] at e
  exact half_ne h (k := 1) (by omega) (List.append_inj_right e (by rw [zer_len]))
theorem sect_blk {i : Im} (h : i.right) : sect (str (blkL i)) 0 = str (secL i 0) ∧ sect (str (blkL i)) 1 = str (secL i 1) := by
  have h0 := secL_len h (k := 0) (by omega)
  have h1 := secL_len h (k := 1) (by omega)
  unfold sect blkL
  rw [extract_str, extract_str]
  constructor
  · rw [Nat.zero_mul, List.drop_zero, List.take_append_of_le_length (by omega), List.take_of_length_le (by omega)]
  · rw [List.take_of_length_le (by rw [List.length_append]; omega), List.drop_append_of_le_length (by omega), List.drop_of_length_le (by omega), List.nil_append]
end Go.Proofs.YtianlhigeabehaaGreatDoor
