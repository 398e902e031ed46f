/- A disk whose power may go: what lasts, what waits, what a cut leaves. -/
import Derived.Test.YtjffjolopoejlaaGreatDoorKEveP
import Derived.Test.YtjffjolopoejlaaGreatDoorKLogG
namespace Go.Proofs.YtjffjolopoejlaaGreatDoor
open Go.RowKit

/-- writes laid over what lasts -/
def over (f : Int → Option ByteArray) (l : List Ws) : Int → Option ByteArray := l.foldl (fun g x => upd g x.at_ x.data) f
theorem over_add (f : Int → Option ByteArray) (l : List Ws) (x : Ws) : over f (l ++ [x]) = upd (over f l) x.at_ x.data := by
  unfold over
  rw [List.foldl_append]
  rfl
/-- numbers that rise, from s to t -/
def Chain : Int → List Ws → Int → Prop
  | s, [], t => s ≤ t
  | s, x :: l, t => s < x.seq ∧ Chain x.seq l t
theorem Chain.le : ∀ {l : List Ws} {s t : Int}, Chain s l t → s ≤ t ∧ ∀ x ∈ l, x.seq ≤ t
  | [], _, _, h => ⟨h, (fun x hx => by cases hx)⟩
  | x :: l, s, t, h => by
    obtain ⟨h1, h2⟩ := h
    obtain ⟨a, b⟩ := h2.le
    refine ⟨by omega, fun y hy => ?_⟩
    rcases List.mem_cons.1 hy with rfl | hy
    · exact a
    · exact b y hy
theorem Chain.add : ∀ {l : List Ws} {s t : Int} {x : Ws}, Chain s l t → t < x.seq → Chain s (l ++ [x]) x.seq
  | [], _, _, _, h, hx => ⟨Int.lt_of_le_of_lt h hx, Int.le_refl _⟩
  | _ :: _, _, _, _, h, hx => ⟨h.1, h.2.add hx⟩
def lastD (D : Dk) : Int → Option ByteArray := fun k => (D.lasts k).map (fun x : Ws => x.data)
/-- what waits is node n's; what is read is what waits, laid over what lasts; numbers rise -/
structure Sane (D : Dk) (n : Int) : Prop where
  nodes : ∀ x ∈ D.waits, x.node = n
  now : D.now = over (lastD D) D.waits
  chain : ∃ s0 : Int, 0 ≤ s0 ∧ (∀ k x, D.lasts k = some x → x.seq ≤ s0) ∧ Chain s0 D.waits D.seq
theorem keeps_over : ∀ (l : List Ws) (D : Dk) (s t : Int), 0 ≤ s → (∀ k x, D.lasts k = some x → x.seq ≤ s) → Chain s l t →
    lastD (l.foldl Dk.keep D) = over (lastD D) l ∧ ∀ k x, (l.foldl Dk.keep D).lasts k = some x → x.seq ≤ t
  | [], D, s, t, _, hl, hc => ⟨rfl, fun k x h => Int.le_trans (hl k x h) hc⟩
  | x :: l, D, s, t, h0, hl, hc => by
    obtain ⟨h1, h2⟩ := hc
    have hk : D.keep x = { D with lasts := upd D.lasts x.at_ x } := by
      unfold Dk.keep
      rw [if_pos]
      cases hx : D.lasts x.at_ with
      | none => show (0 : Int) < x.seq; omega
      | some y => have := hl _ _ hx; show y.seq < x.seq; omega
    have hd : lastD (D.keep x) = upd (lastD D) x.at_ x.data := by
      rw [hk]
      funext k
      show (upd D.lasts x.at_ x k).map (fun x : Ws => x.data) = _
      unfold upd lastD
      split <;> rfl
    have hl2 : ∀ k y, (D.keep x).lasts k = some y → y.seq ≤ x.seq := by
      rw [hk]
      intro k y hy
      have hy : upd D.lasts x.at_ x k = some y := hy
      unfold upd at hy
      split at hy
      · injection hy with hy
        rw [hy]
        exact Int.le_refl _
      · have := hl k y hy
        omega
    obtain ⟨a, b⟩ := keeps_over l (D.keep x) x.seq t (by omega) hl2 h2
    refine ⟨?_, b⟩
    show lastD (l.foldl Dk.keep (D.keep x)) = over (upd (lastD D) x.at_ x.data) l
    rw [a, hd]
section
variable {D : Dk} {n : Int} {A : Int → ByteArray → Prop}
theorem Sane.settle (h : Sane D n) (m : Int) : Sane (D.settle n) m ∧ (D.settle n).waits = [] ∧ lastD (D.settle n) = D.now := by
  obtain ⟨s0, h0, hl, hc⟩ := h.chain
  have e1 : D.waits.filter (fun x => x.node = n) = D.waits := List.filter_eq_self.2 (fun x hx => decide_eq_true (h.nodes x hx))
  have e2 : D.waits.filter (fun x => ¬ x.node = n) = [] := List.filter_eq_nil_iff.2 (fun x hx => by simp [h.nodes x hx])
  obtain ⟨a, b⟩ := keeps_over D.waits D s0 D.seq h0 hl hc
  have e3 : D.settle n = { D.waits.foldl Dk.keep D with waits := [] } := by
    unfold Dk.settle
    rw [e1, e2]
  have hw : (D.settle n).waits = [] := by rw [e3]
  have hq : (D.settle n).seq = D.seq := (settle_same D n).2.2.2.2.2.2
  have hd : lastD (D.settle n) = D.now := by
    rw [e3]
    exact a.trans h.now.symm
  refine ⟨⟨by rw [hw]; simp, ?_, D.seq, by omega, ?_, ?_⟩, hw, hd⟩
  · rw [settle_now, hw, hd]
    rfl
  · rw [e3]
    exact b
  · rw [hw, hq]
    exact Int.le_refl _
theorem Sane.any (h : Sane D n) (hw : D.waits = []) (m : Int) : Sane D m := ⟨by rw [hw]; simp, h.now, h.chain⟩
theorem Sane.write1 (h : Sane D n) (a : Int) (s : ByteArray) : Sane (D.write1 n a s) n := by
  obtain ⟨s0, h0, hl, hc⟩ := h.chain
  refine ⟨fun x hx => ?_, ?_, s0, h0, hl, ?_⟩
  · have hx : x ∈ D.waits ++ [⟨n, a, (D.seq + 1 : Nat), s⟩] := hx
    rcases List.mem_append.1 hx with hx | hx
    · exact h.nodes x hx
    · rw [List.mem_singleton.1 hx]
  · show upd D.now a s = over (lastD D) (D.waits ++ [⟨n, a, (D.seq + 1 : Nat), s⟩])
    rw [over_add, ← h.now]
  · exact hc.add (x := ⟨n, a, (D.seq + 1 : Nat), s⟩) (show (D.seq : Int) < ((D.seq + 1 : Nat) : Int) by omega)
theorem Sane.writeN (h : Sane D n) (a : Int) (data : ByteArray) : ∀ m, Sane (D.writeN n a data m) n
  | 0 => h
  | m + 1 => (Sane.writeN h a data m).write1 _ _
def lsec (D : Dk) (k : Int) : ByteArray := (lastD D k).getD (str (zer 64))
/-- what lasts, and what waits, is allowed -/
structure Safe (D : Dk) (A : Int → ByteArray → Prop) : Prop where
  last : ∀ k, A k (lsec D k)
  wait : ∀ x ∈ D.waits, A x.at_ x.data
theorem over_safe : ∀ (l : List Ws) (f : Int → Option ByteArray), (∀ k, A k ((f k).getD (str (zer 64)))) → (∀ x ∈ l, A x.at_ x.data) → ∀ k, A k ((over f l k).getD (str (zer 64)))
  | [], _, hf, _ => hf
  | x :: l, f, hf, hl => over_safe l (upd f x.at_ x.data) (fun k => by
      unfold upd
      split
      · rename_i hk
        rw [hk]
        exact hl x (List.mem_cons_self ..)
      · exact hf k) (fun y hy => hl y (List.mem_cons_of_mem _ hy))
theorem Safe.sec (h : Safe D A) (hs : Sane D n) (k : Int) : A k (D.sec k) := by
  unfold Dk.sec
  rw [hs.now]
  exact over_safe D.waits (lastD D) h.last h.wait k
theorem lsec_sec (hs : Sane D n) (hw : D.waits = []) (k : Int) : lsec D k = D.sec k := by
  unfold lsec Dk.sec
  rw [hs.now, hw]
  rfl
theorem safe_of_sec (hs : Sane D n) (hw : D.waits = []) (h : ∀ k, A k (D.sec k)) : Safe D A := ⟨fun k => by rw [lsec_sec hs hw]; exact h k, by rw [hw]; simp⟩
end
end Go.Proofs.YtjffjolopoejlaaGreatDoor

/- What node 1 writes, wherever the power goes (printed by gen/mkever.py). -/
namespace Go.Proofs.YtjffjolopoejlaaGreatDoor
open Go.RowKit

/-- on; node 1 is admitted; what lasts, and what waits, is allowed -/
structure Run1 (D : Dk) (e : Nat) (A : Int → ByteArray → Prop) : Prop where
  on : D.on = true
  sectors : D.sectors = 37
  t1 : D.table 1 = e
  sane : Sane D ((1 : Nat) : Int)
  safe : Safe D A
/-- the power has gone -/
structure Off1 (D : Dk) (e : Nat) (A : Int → ByteArray → Prop) : Prop where
  on : D.on = false
  sectors : D.sectors = 37
  t1 : D.table 1 = e
  sane : Sane D ((1 : Nat) : Int)
  safe : Safe D A
  waits : D.waits = []
section
variable {D : Dk} {e : Nat} {A B : Int → ByteArray → Prop}
theorem Run1.live (h : Run1 D e A) : Live D := ⟨h.on, h.sectors⟩
end
end Go.Proofs.YtjffjolopoejlaaGreatDoor

/- A log goes round its ring, and the power may go at any time, plain: what stands on the disk. -/
namespace Go.Proofs.YtjffjolopoejlaaGreatDoor
open Go.RowKit

/-- where sector c of record m stands in the ring -/
def plc (m c : Nat) : Nat := (3 * (m - 1) + c) % 7
def hdB (H : Nat) : ByteArray := str (headL ⟨9, H, ((3 * (H - 1) % 7 : Nat) : Int)⟩)
/-- what may stand on the disk: a head of some, records, and of those from F to S each sector -/
structure AA (ims : List Im) (hs : Nat → Prop) (F S : Nat) (k : Int) (s : ByteArray) : Prop where
  head : k = 1 → ∃ H, hs H ∧ s = hdB H
  ring : ∀ j : Nat, j < 7 → k = 2 + (j : Int) → ∃ t, s = str t ∧ Sound ims t
  exact_ : ∀ (m : Nat) i (c : Nat), F ≤ m → m ≤ S → ims[m - 1]? = some i → c < 3 → k = 2 + ((plc m c : Nat) : Int) → s = str (secR m i c)
  rest : 9 ≤ k → s = str (zer 64)
/-- the entry of record m -/
def enM (m : Nat) (i : Im) : En := enOf m (3 * (m - 1) % 7) i
/-- a log that lives -/
structure Lv (ims : List Im) (D : Dk) (g : Lg) : Prop where
  run : Run1 D 9 (AA (ims.take g.written) (fun H => H = g.first) g.first g.synced)
  node : g.node = 1
  epoch : g.epoch = 9
  base : g.base = 1
  next : g.next = ims.length + 1
  at_ : g.at_ = 3 * ims.length % 7
  whole : g.broken = false
  f1 : 1 ≤ g.first
  f2 : g.first ≤ g.synced + 1
  sw : g.synced ≤ g.written
  wn : g.written ≤ ims.length
  few : ims.length < g.first + 2
  fine : ∀ i ∈ ims, Fine i
  len : g.live.length = ims.length + 1 - g.first
  live : ∀ (t : Nat) x, g.live[t]? = some x → ∃ i, ims[g.first + t - 1]? = some i ∧ x = if g.first + t ≤ g.written then (enM (g.first + t) i).done else enM (g.first + t) i
  now : ∀ (m : Nat) i (c : Nat), g.first ≤ m → m ≤ g.written → ims[m - 1]? = some i → c < 3 → D.sec (2 + ((plc m c : Nat) : Int)) = str (secR m i c)
  few60 : ims.length ≤ 100000
  last : D.last = 9
section
variable {ims : List Im} {D : Dk} {g : Lg}
end
end Go.Proofs.YtjffjolopoejlaaGreatDoor

/- A log that lives, plain: Add, Write, Sync, Free; it lives on, or the power has gone. -/
namespace Go.Proofs.YtjffjolopoejlaaGreatDoor
open Go.RowKit

section
variable {ims : List Im} {D : Dk} {g : Lg}
/-- Free: nothing, or the head is laid anew -/
theorem hd_ok {H a : Nat} (h1 : 1 ≤ H) (h2 : a < 7) : ¬ (Hd.mk 9 H ((a : Nat) : Int)).bad := by
  unfold Hd.bad
  simp only
  omega
theorem Lv.lsn (h : Lv ims D g) : ∀ (t : Nat) x, g.live[t]? = some x → x.lsn = g.first + t ∧ x.at_ = 3 * (g.first + t - 1) % 7 := by
  intro t x hx
  obtain ⟨i, _, e⟩ := h.live t x hx
  rw [e]
  split <;> exact ⟨rfl, rfl⟩
end
end Go.Proofs.YtjffjolopoejlaaGreatDoor

/- A log that is done again, wherever the power goes: each sector holds what it held, or what is to be there. -/
namespace Go.Proofs.YtjffjolopoejlaaGreatDoor
open Go.RowKit

/-- on; node 2 is admitted; what lasts, and what waits, is allowed -/
structure Run2 (D : Dk) (e : Nat) (A : Int → ByteArray → Prop) : Prop where
  on : D.on = true
  sectors : D.sectors = 37
  t2 : D.table 2 = e
  sane : Sane D ((2 : Nat) : Int)
  safe : Safe D A
section
variable {D : Dk} {e : Nat} {A B : Int → ByteArray → Prop}
theorem Run2.live (h : Run2 D e A) : Live D := ⟨h.on, h.sectors⟩
end
/-- the head is there, and the records; a block's sector has bytes 0, or is what it is to be -/
def A1 (l : List Im) (lg : Int → ByteArray) : Int → ByteArray → Prop := fun k v => (k = 1 → v = str hd9) ∧ (2 ≤ k → k ≤ 8 → v = lg k) ∧ ∀ i ∈ l, (k = 17 + 2 * i.block → v = str (zer 64) ∨ v = str (secL i 0)) ∧ (k = 17 + 2 * i.block + 1 → v = str (zer 64) ∨ v = str (secL i 1))
/-- each block is what it is to be; the head is there, or has bytes 0 -/
def A2 (l : List Im) (lg : Int → ByteArray) : Int → ByteArray → Prop := fun k v => (k = 1 → v = str hd9 ∨ v = str (zer 64)) ∧ (2 ≤ k → k ≤ 8 → v = lg k) ∧ ∀ i ∈ l, (k = 17 + 2 * i.block → v = str (secL i 0)) ∧ (k = 17 + 2 * i.block + 1 → v = str (secL i 1))
end Go.Proofs.YtjffjolopoejlaaGreatDoor
