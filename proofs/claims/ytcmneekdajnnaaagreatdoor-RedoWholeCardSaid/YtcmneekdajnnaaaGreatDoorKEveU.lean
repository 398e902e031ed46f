/- RedoEvery, plain: the disk ahead of all; one more time; the last time. -/
import Derived.Test.YtcmneekdajnnaaaGreatDoorKEveQ
import Derived.Test.YtcmneekdajnnaaaGreatDoorKEveS
namespace Go.Proofs.YtcmneekdajnnaaaGreatDoor
open Go.RowKit

/-- nothing waits -/
structure Quiet (D : Dk) : Prop where
  sane : Sane D 0
  waits : D.waits = []
section
variable {D E : Dk} {k : Nat}
theorem Quiet.same (h : Quiet D) (h1 : E.waits = D.waits) (h2 : E.now = D.now) (h3 : E.lasts = D.lasts) (h4 : E.seq = D.seq) : Quiet E := by
  have hl : lastD E = lastD D := by
    unfold lastD
    rw [h3]
  obtain ⟨s0, c0, c1, c2⟩ := h.sane.chain
  refine ⟨⟨fun x hx => h.sane.nodes x (h1 ▸ hx), by rw [h2, hl, h1]; exact h.sane.now, s0, c0, fun k x hx => c1 k x (h3 ▸ hx), by rw [h1, h4]; exact c2⟩, h1.trans h.waits⟩
theorem Quiet.wrote (h : Quiet D) (n : Int) (a : Int) (data : ByteArray) (m : Nat) : Quiet ((D.writeN n a data m).settle n) := by
  obtain ⟨a, b, _⟩ := ((h.sane.any h.waits n).writeN a data m).settle 0
  exact ⟨a, b⟩
theorem Quiet.settle (h : Quiet D) (n : Int) : Quiet (D.settle n) := h.wrote n 0 ⟨#[]⟩ 0
theorem Quiet.fence (h : Quiet D) (hc : Calm D k) {n : Nat} (hn : n ≤ 16) : Quiet (D.fence n).2 := by
  rw [(hc.fence hn).1]
  exact (h.settle n).same rfl rfl rfl rfl
theorem Quiet.put (h : Quiet D) (hc : Calm D k) {n : Nat} (hn : n ≤ 16) (v : Nat) : Quiet (D.put n v).2 := by
  rw [(hc.put hn v).1]
  exact h.same rfl rfl rfl rfl
theorem Quiet.admit (h : Quiet D) (hc : Calm D k) {n : Nat} (hn : n ≤ 16) {e : Nat} (he : D.last < e) : Quiet (D.admit n e).2 := by
  rw [(hc.admit hn he).1]
  exact h.same rfl rfl rfl rfl
theorem quiet_fmt (h : Quiet D) (hc : Calm D k) : ∀ j, j ≤ 17 → Quiet (D.fmtN j)
  | 0, _ => h
  | j + 1, hj => ((quiet_fmt h hc j (by omega)).fence (fmt_calm hc j (by omega)).1 (by omega)).put ((fmt_calm hc j (by omega)).1.fence (by omega)).2 (by omega) 0
theorem sane_zeros (h : Sane D 0) : ∀ j, Sane (D.zerosN j) 0
  | 0 => h
  | j + 1 => (sane_zeros h j).writeN _ _ _
theorem quiet_lay (h : Quiet D) : Quiet D.layF := by
  obtain ⟨a, b, _⟩ := (sane_zeros h.sane 3).settle 0
  exact Quiet.wrote ⟨a, b⟩ (0 : Nat) 0 (str superL) 1
end
theorem quiet_fresh : Quiet (Dk.fresh 37) := ⟨⟨(fun x hx => by cases hx), rfl, 0, Int.le_refl _, (fun k x hx => by cases hx), Int.le_refl _⟩, rfl⟩
set_option maxRecDepth 100000 in
theorem quiet_format {D : Dk} (h : Quiet D) (hc : Calm D 0) (hl : D.last = 0) : Quiet D.formatF := by
  obtain ⟨f1, f2, f3⟩ := fmt_calm hc 17 (by omega)
  have f2' : (D.fmtN 17).last < 1 := by rw [f2, hl]; omega
  have q1 := (quiet_fmt h hc 17 (by omega)).admit f1 (n := 0) (by omega) f2'
  obtain ⟨a1, a2⟩ := f1.admit (n := 0) (by omega) (e := 1) f2'
  have e : D.formatF = (((D.fmtN 17).admit (0 : Nat) 1).2.layF.fence (0 : Nat)).2 := by unfold Dk.formatF; rw [hl]; rfl
  rw [e]
  generalize ((D.fmtN 17).admit (0 : Nat) 1).2 = E at q1 a2
  exact (quiet_lay q1).fence (lay_calm a2) (by omega)
set_option maxRecDepth 100000 in
theorem quiet_ready : Quiet readyD := by
  have q := quiet_format quiet_fresh calm_fresh fresh_last
  obtain ⟨f1, f2, _⟩ := format_facts calm_fresh fresh_last
  have e1 : readyD = ((Dk.fresh 37).formatF.admit (1 : Nat) 9).2 := rfl
  have hls : (Dk.fresh 37).formatF.last < 9 := by rw [f2]; omega
  rw [e1]
  generalize (Dk.fresh 37).formatF = F at q f1 hls
  exact q.admit f1 (by omega) hls
section
variable {D : Dk} {k t2 ls : Nat} {h l1 l2 l3 : List UInt8} {f : Nat → Im}
theorem open_form (hc : Calm D k) (ht : D.table 1 = 9) : (D.lhead lg0 ⟨9, 1, 0⟩).2 = (D.writeN (1 : Nat) 1 (str hd9) 1).settle (1 : Nat) := by
  rw [(lhead_ok hc (g := lg0) (by decide) ht (by decide) (by decide) hd9_ok).1]
  rfl
theorem put_form1 (hc : Calm D k) (ht : D.table 1 = 9) {g : Lg} (h1 : g.node = 1) (h2 : g.epoch = 9) (h3 : g.base = 1) (i : Im) : (D.put_ g (enOf 1 0 i)) = (0, D.writeN (1 : Nat) 2 (str (recL (rcI 1 i))) 3) := by
  have e := (put_one hc (g := g) (by omega) (by rw [h1, h2]; exact ht) (by omega) (by omega) (x := enOf 1 0 i) rfl (Nat.zero_le _) (entry_size 1 0 i)).1
  rw [e, h1, h3]
  rfl
theorem put_form2 (hc : Calm D k) (ht : D.table 1 = 9) {g : Lg} (h1 : g.node = 1) (h2 : g.epoch = 9) (h3 : g.base = 1) (i : Im) : (D.put_ g (enOf 2 3 i)) = (0, D.writeN (1 : Nat) 5 (str (recL (rcI 2 i))) 3) := by
  have e := (put_one hc (g := g) (by omega) (by rw [h1, h2]; exact ht) (by omega) (by omega) (x := enOf 2 3 i) rfl (show 3 ≤ 4 by decide) (entry_size 2 3 i)).1
  rw [e, h1, h3]
  rfl
theorem sync_formW {g G : Lg} {n : Nat} {E : Dk} (hw : writeR D g = ⟨n, 0, E, G⟩) (hc : Calm E k) (ht : E.table 1 = 9) (h1 : G.node = 1) (h2 : G.epoch = 9) (h3 : G.synced < G.written) : (syncR D g).D = E.settle (1 : Nat) := by
  have b1 := (hc.barrier (n := 1) (by omega) ht (by omega)).1
  have e : syncR D g = ⟨0, 0, (E.barrier (1 : Nat) 9).2, { G with synced := G.written }⟩ := by
    unfold syncR
    rw [hw]
    simp only
    rw [h1, h2, if_neg (by decide), if_neg (by omega), if_neg (by rw [b1]; simp)]
  rw [e, b1]
theorem sync_form1 (v : View D k 9 t2 ls h l1 l2 l3 f) (i : Im) : (syncR D (lg1 i)).D = (D.writeN (1 : Nat) 2 (str (recL (rcI 1 i))) 3).settle (1 : Nat) := by
  obtain ⟨p1, p2⟩ := v.put1 (g := lg1 i) rfl rfl rfl i
  have e := put_form1 v.calm v.t1 (g := lg1 i) rfl rfl rfl i
  have hw : writeR D (lg1 i) = ⟨1, 0, (D.put_ (lg1 i) (enOf 1 0 i)).2, (lg1 i).wrote 0 (enOf 1 0 i)⟩ := by
    show wrGo [enOf 1 0 i] 0 0 D (lg1 i) = _
    rw [wrGo_false rfl, if_neg (by rw [p1]; decide), wr_done]
  rw [sync_formW hw p2.calm p2.t1 rfl rfl (show (0 : Nat) < 1 by decide), e]
theorem sync_form2 (v : View D k 9 t2 ls h l1 l2 l3 f) (i j : Im) : (syncR D (lg2 i j)).D = ((D.writeN (1 : Nat) 2 (str (recL (rcI 1 i))) 3).writeN (1 : Nat) 5 (str (recL (rcI 2 j))) 3).settle (1 : Nat) := by
  have h1 : (lg2 i j).node = 1 := rfl
  have h2 : (lg2 i j).epoch = 9 := rfl
  have h3 : (lg2 i j).base = 1 := rfl
  have h4 : (lg2 i j).live = [enOf 1 0 i, enOf 2 3 j] := rfl
  have h5 : (lg2 i j).broken = false := rfl
  have h6 : (lg2 i j).synced = 0 := rfl
  generalize lg2 i j = g at h1 h2 h3 h4 h5 h6 ⊢
  obtain ⟨p1, p2⟩ := v.put1 h1 h2 h3 i
  have e1 := put_form1 v.calm v.t1 h1 h2 h3 i
  have x1 : (g.wrote 0 (enOf 1 0 i)).node = 1 := h1
  have x2 : (g.wrote 0 (enOf 1 0 i)).epoch = 9 := h2
  have x3 : (g.wrote 0 (enOf 1 0 i)).base = 1 := h3
  obtain ⟨q1, q2⟩ := p2.put2 x1 x2 x3 j
  have e2 := put_form2 p2.calm p2.t1 x1 x2 x3 j
  have hw := wr_two h4 h5 rfl rfl p1 q1
  have y1 : ((g.wrote 0 (enOf 1 0 i)).wrote 1 (enOf 2 3 j)).node = 1 := h1
  have y2 : ((g.wrote 0 (enOf 1 0 i)).wrote 1 (enOf 2 3 j)).epoch = 9 := h2
  have y3 : ((g.wrote 0 (enOf 1 0 i)).wrote 1 (enOf 2 3 j)).synced < ((g.wrote 0 (enOf 1 0 i)).wrote 1 (enOf 2 3 j)).written := by
    show g.synced < 2
    omega
  rw [sync_formW hw q2.calm q2.t1 y1 y2 y3, e2, e1]
end
/-- from sector 9 on all is bytes 0 -/
def Zeros (D : Dk) : Prop := ∀ k : Int, 9 ≤ k → D.sec k = str (zer 64)
theorem zeros_ready : Zeros readyD := fun k hk => by
  rw [ready_facts.2.2.2 k, if_neg (by omega)]
theorem Zeros.wrote {D : Dk} (h : Zeros D) (n a : Int) (data : ByteArray) (m : Nat) (ha : a + m ≤ 9) : Zeros (D.writeN n a data m) := fun k hk => by
  rw [writeN_sec, if_neg (by omega)]
  exact h k hk
theorem Zeros.settle {D : Dk} (h : Zeros D) (n : Int) : Zeros (D.settle n) := fun k hk => (settle_sec D n k).trans (h k hk)
theorem Zeros.now {D E : Dk} (h : Zeros D) (he : E.now = D.now) : Zeros E := fun k hk => (sec_congr he k).trans (h k hk)
/-- the plan's images -/
theorem best_block (l : List Im) : ∀ k x, bestOf l k = some x → x.block = k := by
  have key : ∀ (l : List Im) (f : Int → Option Im), (∀ k x, f k = some x → x.block = k) → ∀ k x, l.foldl bestStep f k = some x → x.block = k := by
    intro l
    induction l with
    | nil => intro f hf; exact hf
    | cons y l ih =>
      intro f hf
      refine ih _ (fun k x hx => ?_)
      have hu : ∀ k x, upd f y.block y k = some x → x.block = k := by
        intro k x hx
        unfold upd at hx
        split at hx
        · rename_i hk
          injection hx with hx
          rw [← hx, hk]
        · exact hf k x hx
      cases h : f y.block with
      | none => rw [best_none h] at hx; exact hu k x hx
      | some was =>
        rw [best_some h] at hx
        split at hx
        · exact hu k x hx
        · exact hf k x hx
  exact key l (fun _ => none) (fun k x h => by cases h)
theorem plan_wants {rs : List Rc} (h : ∀ i ∈ rs.flatMap (·.images), i.right ∧ 0 < i.ver ∧ i.ver < 18446744073709551616 ∧ i.block ≤ 9) : Wants (planOf rs) := by
  have hk : ∀ k ∈ keysOf (rs.flatMap (·.images)), ∃ x, bestOf (rs.flatMap (·.images)) k = some x := by
    intro k hk
    unfold keysOf at hk
    rw [List.mem_mergeSort, List.mem_eraseDups] at hk
    have := (best_keys (rs.flatMap (·.images)) k).2 hk
    exact Option.isSome_iff_exists.1 this
  have hn : (keysOf (rs.flatMap (·.images))).Nodup := by
    unfold keysOf
    exact (List.mergeSort_perm _ _).nodup_iff.2 (nodup_dups _)
  have hg : ∀ k x, bestOf (rs.flatMap (·.images)) k = some x → keyG (bestOf (rs.flatMap (·.images))) k = x := by
    intro k x hx
    unfold keyG
    rw [hx]
    rfl
  rw [plan_eq]
  refine ⟨fun i hi => ?_, ?_⟩
  · obtain ⟨k, hk1, rfl⟩ := List.mem_map.1 hi
    obtain ⟨x, hx⟩ := hk k hk1
    rw [hg k x hx]
    exact h x (best_mem _ k x hx)
  · rw [List.pairwise_map]
    refine hn.imp_of_mem (fun {a b} ha hb hab => ?_)
    obtain ⟨x, hx⟩ := hk a ha
    obtain ⟨y, hy⟩ := hk b hb
    rw [hg a x hx, hg b y hy, best_block _ a x hx, best_block _ b y hy]
    exact hab
/-- ahead of each time -/
def Ok2 (l : List Im) (lg : Int → ByteArray) (D : Dk) : Prop := D.waits = [] ∧ (Run2 D 20 (A1 l lg) ∨ (Run2 D 20 (A2 l lg) ∧ D.sec 1 = str (zer 64)))
section
variable {D D0 : Dk} {l : List Im} {lg : Int → ByteArray} {A : Int → ByteArray → Prop} {e : Nat}
theorem Run2.arm (h : Run2 D e A) (n : Int) (keep : List Int) : Run2 (D.arm n keep) e A := ⟨h.on, h.sectors, h.t2, ⟨h.sane.nodes, h.sane.now, h.sane.chain⟩, ⟨h.safe.last, h.safe.wait⟩⟩
theorem Run2.again (h : Run2 D e A) : Run2 (D.arm (-1) []).restore e A := ⟨rfl, h.sectors, h.t2, ⟨h.sane.nodes, h.sane.now, h.sane.chain⟩, ⟨h.safe.last, h.safe.wait⟩⟩
theorem Off2.again (h : Off2 D e A) : Run2 (D.arm (-1) []).restore e A := ⟨rfl, h.sectors, h.t2, ⟨h.sane.nodes, h.sane.now, h.sane.chain⟩, ⟨h.safe.last, h.safe.wait⟩⟩
theorem ok2_start {k t1 ls : Nat} {l1 l2 l3 : List UInt8} {f : Nat → Im} (v : View D k t1 20 ls hd9 l1 l2 l3 f) (q : Quiet D) (z : Zeros D) (hw : Wants l) : Ok2 l D.sec D := by
  refine ⟨q.waits, .inl ⟨v.calm.on, v.calm.sectors, v.t2, q.sane.any q.waits _, ?_⟩⟩
  refine safe_of_sec q.sane q.waits (fun k => ⟨fun hk => by rw [hk]; exact v.head, fun _ _ => rfl, fun i hi => ?_⟩)
  have := (hw.ok i hi).1.1
  exact ⟨fun hk => .inl (z k (by omega)), fun hk => .inl (z k (by omega))⟩
theorem log_same (h : Run2 D e (A1 l D0.sec)) : D.readL 2 7 = D0.readL 2 7 :=
  readL_congr (fun j h1 h2 => (h.safe.sec h.sane j).2.1 h1 (by omega))
/-- once more, with a cut in its midst -/
theorem ok2_again (hw : Wants l) (hp : planOf (scanL 9 10 1 (str (D0.readL 2 7))) = l) (h : Ok2 l D0.sec D) (n : Int) (keep : List Int) : Ok2 l D0.sec (((runR (D.arm n keep) 1 9 (2 : Nat) 20).D.arm (-1) []).restore) := by
  obtain ⟨hwt, h | ⟨h, hz⟩⟩ := h
  · have ha := h.arm n keep
    rcases run_cut hw (by omega) ha hwt (by rw [log_same ha]; exact hp) with ⟨_, _, x⟩ | ⟨_, y2, y3, _, y5⟩
    · rcases x with x | x
      · exact ⟨x.waits, .inl x.again⟩
      · have ho := x.again
        have hs1 := (ho.safe.sec ho.sane 1).1 rfl
        refine ⟨x.waits, ?_⟩
        rcases hs1 with hs1 | hs1
        · exact .inl (ho.weak x.waits (fun k => a1_of (ho.safe.sec ho.sane k) (fun hk => by rw [hk]; exact hs1)))
        · exact .inr ⟨ho, hs1⟩
    · exact ⟨y3, .inr ⟨y2.again, y5⟩⟩
  · have ha := h.arm n keep
    have e := (run_none ha.live hz 9 ((2 : Nat) : Int) 20).1
    rw [e]
    exact ⟨hwt, .inr ⟨ha.again, hz⟩⟩
/-- the last time -/
theorem ok2_last (hw : Wants l) (hp : planOf (scanL 9 10 1 (str (D0.readL 2 7))) = l) (h : Ok2 l D0.sec D) (ha : D.armed = false) :
    (runR D 1 9 (2 : Nat) 20).e = 0 ∧ (runR D 1 9 (2 : Nat) 20).D.scan 1 = [] ∧ (runR D 1 9 (2 : Nat) 20).D.scanE 1 = 0 ∧ ∀ i ∈ l, (runR D 1 9 (2 : Nat) 20).D.load i.block = (i, 0) := by
  have key : ∀ E : Dk, Run2 E 20 (A2 l D0.sec) → E.waits = [] → E.sec 1 = str (zer 64) → E.scan 1 = [] ∧ E.scanE 1 = 0 ∧ ∀ i ∈ l, E.load i.block = (i, 0) := by
    intro E hE _ hz
    obtain ⟨_, r2, r3⟩ := run_none hE.live hz 9 ((2 : Nat) : Int) 20
    refine ⟨r2, r3, fun i hi => ?_⟩
    obtain ⟨hr, h0, hv, hb⟩ := hw.ok i hi
    have hr0 := hr.1
    have hbt : ((i.block.toNat : Nat) : Int) = i.block := by omega
    have hle := load_eq hE.live (b := i.block.toNat) (by omega)
    rw [hbt] at hle
    have s0 := ((hE.safe.sec hE.sane (17 + 2 * i.block)).2.2 i hi).1 rfl
    have s1 := ((hE.safe.sec hE.sane (17 + 2 * i.block + 1)).2.2 i hi).2 rfl
    have e1 : getB i.block (str (secL i 0 ++ secL i 1)) = (i, 0) := getB_put hr hv
    rw [s0, s1, str_list, str_list, e1] at hle
    exact hle
  obtain ⟨hwt, h | ⟨h, hz⟩⟩ := h
  · rcases run_cut hw (by omega) h hwt (by rw [log_same h]; exact hp) with ⟨x, _⟩ | ⟨y1, y2, y3, _, y5⟩
    · rw [ha] at x
      cases x
    · exact ⟨y1, key _ y2 y3 y5⟩
  · have e := (run_none h.live hz 9 ((2 : Nat) : Int) 20).1
    rw [e]
    exact ⟨rfl, key D h hwt hz⟩
end
end Go.Proofs.YtcmneekdajnnaaaGreatDoor

/- A log that lives, plain: it begins; one more record; what is found behind a cut. -/
namespace Go.Proofs.YtcmneekdajnnaaaGreatDoor
open Go.RowKit

theorem used_three : ∀ (l : List En) (n : Nat), (∀ x ∈ l, x.n = 3) → l.foldl (fun n x => n + x.n) n = n + 3 * l.length
  | [], n, _ => rfl
  | x :: l, n, h => by
    rw [List.foldl_cons, used_three l _ (fun y hy => h y (List.mem_cons_of_mem _ hy)), h x (List.mem_cons_self ..), List.length_cons]
    omega
section
variable {ims : List Im} {D : Dk} {g : Lg}
theorem Lv.ens (h : Lv ims D g) : Ens g.live ∧ (∀ x ∈ g.live, x.n = 3) := by
  have key : ∀ x ∈ g.live, x.at_ < 7 ∧ x.n = 3 ∧ (x.written = false → x.bytes.size = x.n * 64) := by
    intro x hx
    obtain ⟨t, ht, e⟩ := List.getElem_of_mem hx
    obtain ⟨i, _, e2⟩ := h.live t x (by rw [← e]; exact List.getElem?_eq_getElem ht)
    rw [e2]
    split
    · exact ⟨Nat.mod_lt _ (by omega), rfl, fun e => by cases e⟩
    · exact ⟨Nat.mod_lt _ (by omega), rfl, fun _ => entry_size _ _ _⟩
  exact ⟨fun x hx => ⟨(key x hx).1, by rw [(key x hx).2.1]; omega, (key x hx).2.2⟩, fun x hx => (key x hx).2.1⟩
theorem Lv.used (h : Lv ims D g) : g.used = 3 * g.live.length := by
  unfold Lg.used
  rw [used_three _ _ h.ens.2]
  omega
theorem Lv.add (h : Lv ims D g) (l : List Im) (hv : ∀ i ∈ l, i.ver < 18446744073709551616) (hN : ims.length < 100000) : (g.addE l ≠ 0 ∧ g.addG l = g) ∨ ∃ i, l = [i] ∧ g.addE l = 0 ∧ Lv (ims ++ [i]) D (g.addG l) := by
  by_cases h0 : g.addE l = 0
  · right
    have hg : g.addG l = { g with live := g.live ++ [g.entry l], at_ := (g.at_ + secsOf l.length) % 7, next := (g.next + 1) % 18446744073709551616 } := if_neg (by rw [h0]; decide)
    unfold Lg.addE at h0
    rw [if_neg (by rw [h.whole]; decide)] at h0
    split at h0
    · rename_i h1
      exact absurd h0 h1
    · rename_i h1
      split at h0
      · omega
      · rename_i h2
        split at h0
        · omega
        · rename_i h3
          have h1 : (Rc.mk g.epoch g.next l).wrongE = 0 := Decidable.not_not.1 h1
          obtain ⟨w1, w2, w3, w4, w5, w6⟩ := wrong_zero h1
          have w3 : l ≠ [] := w3
          have w4 : ∀ i ∈ l, i.right := w4
          obtain ⟨i, rfl⟩ : ∃ i, l = [i] := by
            cases l with
            | nil => exact absurd rfl w3
            | cons i t =>
              cases t with
              | nil => exact ⟨i, rfl⟩
              | cons j t => exact absurd (by simp) h2
          · have hfi : Fine i := ⟨w4 i (List.mem_singleton.2 rfl), hv i (List.mem_singleton.2 rfl)⟩
            have hu := h.used
            have e3 : secsOf (([i] : List Im).length : Int) = 3 := secs_one
            rw [e3] at h3 hg
            have len := h.len
            have few := h.few
            have f1 := h.f1
            have f2 := h.f2
            have sw := h.sw
            have wn := h.wn
            have hen : g.entry [i] = enM (ims.length + 1) i := by
              unfold Lg.entry enM enOf Rc.putS
              rw [h.next, h.at_, h.epoch, e3]
              rw [h.next, h.epoch] at h1
              rw [if_pos h1, Nat.add_sub_cancel]
              rfl
            rw [hen] at hg
            have hge : g.addE [i] = 0 := by
              unfold Lg.addE
              rw [if_neg (by rw [h.whole]; decide), if_neg (by rw [h1]; decide), if_neg (by simp), e3, if_neg h3]
            refine ⟨i, rfl, hge, ?_⟩
            rw [hg]
            have htk : (ims ++ [i]).take g.written = ims.take g.written := List.take_append_of_le_length wn
            refine ⟨by show Run1 D 9 (AA ((ims ++ [i]).take g.written) _ g.first g.synced); rw [htk]; exact h.run, h.node, h.epoch, h.base, ?_, ?_, h.whole, f1, f2, sw, ?_, ?_, ?_, ?_, ?_, ?_, ?_, ?_⟩
            · show (g.next + 1) % 18446744073709551616 = _
              rw [h.next, List.length_append, List.length_singleton, Nat.mod_eq_of_lt (by omega)]
            · show (g.at_ + 3) % 7 = _
              rw [h.at_, List.length_append, List.length_singleton]
              omega
            · show g.written ≤ _
              rw [List.length_append]
              omega
            · show _ < g.first + 2
              rw [List.length_append, List.length_singleton]
              omega
            · intro j hj
              rcases List.mem_append.1 hj with hj | hj
              · exact h.fine j hj
              · rw [List.mem_singleton.1 hj]
                exact hfi
            · show (g.live ++ [_]).length = _ + 1 - g.first
              rw [List.length_append, List.length_singleton, List.length_append, List.length_singleton, len]
              omega
            · intro t x hx
              have hx : (g.live ++ [enM (ims.length + 1) i])[t]? = some x := hx
              show ∃ j, (ims ++ [i])[g.first + t - 1]? = some j ∧ x = if g.first + t ≤ g.written then _ else _
              by_cases ht : t < g.live.length
              · rw [List.getElem?_append_left ht] at hx
                obtain ⟨j, j0, j1⟩ := h.live t x hx
                exact ⟨j, by rw [List.getElem?_append_left (List.getElem?_eq_some_iff.1 j0).1]; exact j0, j1⟩
              · have hl := (List.getElem?_eq_some_iff.1 hx).1
                rw [List.length_append, List.length_singleton] at hl
                have et : t = g.live.length := by omega
                subst et
                rw [List.getElem?_append_right (Nat.le_refl _), Nat.sub_self] at hx
                have e9 : g.first + g.live.length = ims.length + 1 := by omega
                rw [e9]
                refine ⟨i, by rw [Nat.add_sub_cancel, List.getElem?_append_right (Nat.le_refl _), Nat.sub_self]; rfl, ?_⟩
                rw [if_neg (by omega)]
                simpa using hx.symm
            · intro m j c m1 m2 mi hc
              have m1 : g.first ≤ m := m1
              have m2 : m ≤ g.written := m2
              rw [List.getElem?_append_left (by omega)] at mi
              exact h.now m j c m1 m2 mi hc
            · rw [List.length_append, List.length_singleton]
              omega
            · exact h.last
  · exact .inl ⟨h0, if_pos h0⟩
end
set_option maxRecDepth 100000 in
/-- a log begins -/
theorem lv_open : Lv [] (readyD.lhead lg0 ⟨9, 1, 0⟩).2 lg0 ∧ (readyD.lhead lg0 ⟨9, 1, 0⟩).1 = 0 ∧ (readyD.lhead lg0 ⟨9, 1, 0⟩).2.armed = false := by
  obtain ⟨c1, c2, c3, c4⟩ := ready_facts
  have hq := quiet_ready
  have e := open_form c1 c3
  have e0 := (lhead_ok c1 (g := lg0) (by decide) c3 (by decide) (by decide) hd9_ok)
  have hsc := writeN_sec readyD ((1 : Nat) : Int) 1 (str hd9) 1
  generalize readyD = D at c1 c2 c3 c4 hq e e0 hsc
  have s1 := writeN_same D ((1 : Nat) : Int) 1 (str hd9) 1
  have s2 := settle_same (D.writeN ((1 : Nat) : Int) 1 (str hd9) 1) ((1 : Nat) : Int)
  have h0 : sect (str hd9) 0 = str hd9 := by
    unfold sect
    rw [extract_str]
    congr 1
    all_goals unfold hd9
    all_goals rw [Nat.zero_mul, List.drop_zero, List.take_of_length_le (by rw [headL_len]; first | done | omega)]
  have hsa : Sane D ((1 : Nat) : Int) := hq.sane.any hq.waits _
  have hst := (hsa.writeN 1 (str hd9) 1).settle ((1 : Nat) : Int)
  refine ⟨?_, by rw [e0.1], ?_⟩
  · rw [e]
    refine ⟨⟨s2.1.trans (s1.1.trans c1.on), s2.2.2.1.trans (s1.2.2.1.trans c1.sectors), by rw [(settle_tab _ _).1, s1.2.2.2.2.2.1]; exact c3, hst.1, safe_of_sec hst.1 hst.2.1 (fun k => ?_)⟩, rfl, rfl, rfl, rfl, rfl, rfl, Nat.le_refl _, Nat.le_refl _, Nat.le_refl _, Nat.le_refl _, by show 0 < 3; decide, (fun i hi => by cases hi), rfl, (fun t x hx => by cases hx), (fun m i c m1 m2 mi => by cases mi), Nat.zero_le _, s2.2.2.2.1.trans (s1.2.2.2.1.trans c2)⟩
    rw [settle_sec, hsc]
    refine ⟨fun e => ⟨1, rfl, ?_⟩, fun j hj e => ⟨zer 64, ?_, .inl rfl⟩, (fun m i c _ _ mi => by cases mi), fun e => by rw [if_neg (by omega), c4, if_neg (by omega)]⟩
    · rw [if_pos (by omega), show (k - 1).toNat = 0 by omega, h0]
      rfl
    · rw [if_neg (by omega), c4, if_neg (by omega)]
  · rw [e]
    exact s2.2.1.trans (s1.2.1.trans c1.armed)
/-- what stands behind a cut -/
structure Fin_ (ims : List Im) (hs : Nat → Prop) (F S : Nat) (D : Dk) : Prop where
  live : Live D
  t1 : D.table 1 = 9
  sane : Sane D ((1 : Nat) : Int)
  waits : D.waits = []
  all : ∀ k, AA ims hs F S k (D.sec k)
  armed : D.armed = false
def finD (D : Dk) (keep : List Int) : Dk := (((D.arm (-1) []).cut keep).2).restore
theorem Run1.fin {ims : List Im} {hs : Nat → Prop} {F S : Nat} {D : Dk} (h : Run1 D 9 (AA ims hs F S)) (keep : List Int) : Fin_ ims hs F S (finD D keep) := by
  have h1 : Run1 (D.arm (-1) []) 9 (AA ims hs F S) := ⟨h.on, h.sectors, h.t1, ⟨h.sane.nodes, h.sane.now, h.sane.chain⟩, ⟨h.safe.last, h.safe.wait⟩⟩
  obtain ⟨a, b, c⟩ := cut_leaves h1.sane h1.safe h1.on keep ((1 : Nat) : Int)
  obtain ⟨d1, d2, d3, d4, d5, d6, d7, d8⟩ := cut_same (D.arm (-1) []) keep
  unfold finD
  generalize ((D.arm (-1) []).cut keep).2 = E at a b c d1 d3 d8
  have hS : Safe E.restore (AA ims hs F S) := ⟨b.last, b.wait⟩
  have hN : Sane E.restore ((1 : Nat) : Int) := ⟨a.nodes, a.now, a.chain⟩
  exact ⟨⟨rfl, d1.trans h1.sectors⟩, by show E.table 1 = 9; rw [d3]; exact h1.t1, hN, c, fun k => hS.sec hN k, d8⟩
theorem Off1.fin {ims : List Im} {hs : Nat → Prop} {F S : Nat} {D : Dk} (h : Off1 D 9 (AA ims hs F S)) (keep : List Int) : Fin_ ims hs F S (finD D keep) := by
  have e : ((D.arm (-1) []).cut keep).2 = (D.arm (-1) []).arm (-1) [] := by
    unfold Dk.cut
    rw [if_pos (show (D.arm (-1) []).on = false from h.on)]
  unfold finD
  rw [e]
  have hN : Sane ((D.arm (-1) []).arm (-1) []).restore ((1 : Nat) : Int) := ⟨h.sane.nodes, h.sane.now, h.sane.chain⟩
  have hS : Safe ((D.arm (-1) []).arm (-1) []).restore (AA ims hs F S) := ⟨h.safe.last, h.safe.wait⟩
  exact ⟨⟨rfl, h.sectors⟩, h.t1, hN, h.waits, fun k => hS.sec hN k, rfl⟩
theorem rot_app (x y : List UInt8) : rotS (str (x ++ y)) x.length = str (y ++ x) := by
  unfold rotS
  rw [extract_str, extract_str, str_size, List.take_of_length_le (Nat.le_refl _), List.drop_left, List.take_left, List.drop_zero]
  refine ByteArray.ext ?_
  apply Array.toList_inj.1
  simp [str]
/-- seven sectors, from one of them on -/
def ring7 (s : Nat → List UInt8) (a : Nat) : List UInt8 := s a ++ (s ((a + 1) % 7) ++ (s ((a + 2) % 7) ++ (s ((a + 3) % 7) ++ (s ((a + 4) % 7) ++ (s ((a + 5) % 7) ++ s ((a + 6) % 7))))))
theorem ring_rot (s : Nat → List UInt8) (h : ∀ j, j < 7 → (s j).length = 64) (a : Nat) (ha : a < 7) : rotS (str (ring7 s 0)) (a * 64) = str (ring7 s a) := by
  have l0 := h 0 (by omega)
  have l1 := h 1 (by omega)
  have l2 := h 2 (by omega)
  have l3 := h 3 (by omega)
  have l4 := h 4 (by omega)
  have l5 := h 5 (by omega)
  have key : ∀ x y : List UInt8, x ++ y = ring7 s 0 → x.length = a * 64 → y ++ x = ring7 s a → rotS (str (ring7 s 0)) (a * 64) = str (ring7 s a) := by
    intro x y e1 e2 e3
    rw [← e1, ← e2, rot_app, e3]
  match a, ha with
  | 0, _ => exact key [] (ring7 s 0) rfl rfl (by simp)
  | 1, _ => exact key (s 0) (s 1 ++ (s 2 ++ (s 3 ++ (s 4 ++ (s 5 ++ s 6))))) rfl (by omega) (by simp [ring7])
  | 2, _ => exact key (s 0 ++ s 1) (s 2 ++ (s 3 ++ (s 4 ++ (s 5 ++ s 6)))) (by simp [ring7]) (by simp; omega) (by simp [ring7])
  | 3, _ => exact key (s 0 ++ (s 1 ++ s 2)) (s 3 ++ (s 4 ++ (s 5 ++ s 6))) (by simp [ring7]) (by simp; omega) (by simp [ring7])
  | 4, _ => exact key (s 0 ++ (s 1 ++ (s 2 ++ s 3))) (s 4 ++ (s 5 ++ s 6)) (by simp [ring7]) (by simp; omega) (by simp [ring7])
  | 5, _ => exact key (s 0 ++ (s 1 ++ (s 2 ++ (s 3 ++ s 4)))) (s 5 ++ s 6) (by simp [ring7]) (by simp; omega) (by simp [ring7])
  | 6, _ => exact key (s 0 ++ (s 1 ++ (s 2 ++ (s 3 ++ (s 4 ++ s 5))))) (s 6) (by simp [ring7]) (by simp; omega) (by simp [ring7])
/-- a head that is right, and its place -/
theorem head_scan {D : Dk} (h : Live D) {H : Nat} (h1 : 1 ≤ H) (h2 : H < 18446744073709551616) (hs : D.sec 1 = hdB H) : D.scan 1 = scanL 9 10 H (rotS (str (D.readL 2 7)) (3 * (H - 1) % 7 * 64)) ∧ D.scanE 1 = 0 ∧ D.headE 1 = 0 ∧ D.headI 1 = true ∧ (D.headH 1).epoch = 9 := by
  obtain ⟨a, ha⟩ : ∃ a, 3 * (H - 1) % 7 = a := ⟨_, rfl⟩
  have hal : a < 7 := by omega
  unfold hdB at hs
  rw [ha] at hs
  obtain ⟨_, e2, e3, e4⟩ := head_of h (h := ⟨9, H, ((a : Nat) : Int)⟩) (hd_ok h1 hal) (show (9 : Nat) < 18446744073709551616 by decide) h2 (by show ((a : Nat) : Int) < 7; omega) hs
  obtain ⟨r1, r2⟩ := h.read (at_ := 2) (n := 7) (by omega) (by omega) (by omega)
  have hr : D.readE ((logAt 1).1 + 1) 7 = 0 := r1
  refine ⟨?_, ?_, e4, e3, by rw [e2]⟩
  · unfold Dk.scan
    rw [if_neg (by rw [e4, e3, hr]; decide), e2]
    have e : D.readS ((logAt 1).1 + 1) 7 = str (D.readL 2 7) := r2
    rw [e, ha]
    show scanL 9 10 H (rotS (str (D.readL 2 7)) (((a : Nat) : Int).toNat * 64)) = _
    rw [Int.toNat_natCast]
  · unfold Dk.scanE
    rw [if_neg (by rw [e4]; decide), if_neg (by rw [e3]; decide)]
    exact hr
theorem read_ring (D : Dk) : D.readL 2 7 = ring7 (fun j => (D.sec (2 + (j : Int))).data.toList) 0 := by
  unfold Dk.readL ring7
  simp [List.range_succ]
/-- what is found -/
theorem Fin_.found {ims : List Im} {hs : Nat → Prop} {F S : Nat} {D : Dk} (h : Fin_ ims hs F S D) (hf : ∀ i ∈ ims, Fine i) (hN : ims.length ≤ 100000) (hF : 1 ≤ F) (hSN : S ≤ ims.length) (hfew : ims.length < F + 2) (hh : ∀ H, hs H → F ≤ H ∧ H ≤ S + 1) :
    D.scanE 1 = 0 ∧ ∃ H, hs H ∧ D.sec 1 = hdB H ∧ Found ims H (D.scan 1) ∧ (D.scan 1).length ≤ 2 ∧ (H ≤ S → S < H + (D.scan 1).length) := by
  obtain ⟨H, hH, eH⟩ := (h.all 1).head rfl
  obtain ⟨b1, b2⟩ := hh H hH
  obtain ⟨a, ha⟩ : ∃ a, 3 * (H - 1) % 7 = a := ⟨_, rfl⟩
  have hal : a < 7 := by omega
  obtain ⟨s1, s2, _⟩ := head_scan h.live (H := H) (by omega) (by omega) eH
  have hsec : ∀ j : Nat, j < 7 → ∃ t, D.sec (2 + (j : Int)) = str t ∧ Sound ims t := fun j hj => (h.all _).ring j hj rfl
  obtain ⟨s, hs'⟩ : ∃ s : Nat → List UInt8, s = fun j => (D.sec (2 + ((j : Nat) : Int))).data.toList := ⟨_, rfl⟩
  have hsnd : ∀ j, j < 7 → Sound ims (s j) := fun j hj => by
    obtain ⟨t, e, ht⟩ := hsec j hj
    rw [hs']
    simp only
    rw [e, str_list]
    exact ht
  have hexa : ∀ (m : Nat) i (c : Nat), F ≤ m → m ≤ S → ims[m - 1]? = some i → c < 3 → s (plc m c) = secR m i c := fun m i c m1 m2 mi hc => by
    rw [hs']
    simp only
    rw [(h.all _).exact_ m i c m1 m2 mi hc rfl, str_list]
  have er : D.readL 2 7 = ring7 s 0 := by rw [read_ring, hs']
  rw [ha, er, ring_rot s (fun j hj => (hsnd j hj).len) a hal] at s1
  clear hs' er hsec
  have hm : ∀ c, (a + c) % 7 < 7 := fun c => Nat.mod_lt _ (by omega)
  obtain ⟨r1, r2, r3⟩ := scan_ring hf (by omega) (H := H) (by omega) (by omega) (hsnd a hal) (hsnd _ (hm 1)) (hsnd _ (hm 2)) (hsnd _ (hm 3)) (hsnd _ (hm 4)) (hsnd _ (hm 5)) (hsnd _ (hm 6)) (D.scan 1) s1.symm
  refine ⟨s2, H, hH, eH, r1, r2, fun hHS => ?_⟩
  have hp : ∀ c, c < 3 → plc H c = (a + c) % 7 := fun c hc => by unfold plc; omega
  obtain ⟨i, hi⟩ : ∃ i, ims[H - 1]? = some i := ⟨_, List.getElem?_eq_getElem (by omega)⟩
  obtain ⟨q1, q2⟩ := r3 i hi (by have := hexa H i 0 b1 hHS hi (by omega); rw [hp 0 (by omega)] at this; rw [show (a + 0) % 7 = a by omega] at this; exact this)
    (by have := hexa H i 1 b1 hHS hi (by omega); rwa [hp 1 (by omega)] at this) (by have := hexa H i 2 b1 hHS hi (by omega); rwa [hp 2 (by omega)] at this)
  by_cases hS2 : S = H
  · omega
  · have hS3 : S = H + 1 := by omega
    obtain ⟨j, hj⟩ : ∃ j, ims[H]? = some j := ⟨_, List.getElem?_eq_getElem (by omega)⟩
    have hp2 : ∀ c, c < 3 → plc (H + 1) c = (a + (3 + c)) % 7 := fun c hc => by unfold plc; omega
    have := q2 j hj (by have := hexa (H + 1) j 0 (by omega) (by omega) (by simpa using hj) (by omega); rwa [hp2 0 (by omega)] at this)
      (by have := hexa (H + 1) j 1 (by omega) (by omega) (by simpa using hj) (by omega); rwa [hp2 1 (by omega)] at this) (by have := hexa (H + 1) j 2 (by omega) (by omega) (by simpa using hj) (by omega); rwa [hp2 2 (by omega)] at this)
    omega
end Go.Proofs.YtcmneekdajnnaaaGreatDoor

/- RedoWhole, plain: the power goes behind all, and again behind Apply: done again each block has its last version. -/
namespace Go.Proofs.YtcmneekdajnnaaaGreatDoor
open Go.RowKit

theorem plan_want0 {rs : List Rc} (h : ∀ i ∈ rs.flatMap (·.images), i.right ∧ i.ver < 18446744073709551616 ∧ i.block ≤ 9) : Want0 (planOf rs) := by
  have hk : ∀ k ∈ keysOf (rs.flatMap (·.images)), ∃ x, bestOf (rs.flatMap (·.images)) k = some x := by
    intro k hk
    unfold keysOf at hk
    rw [List.mem_mergeSort, List.mem_eraseDups] at hk
    have := (best_keys (rs.flatMap (·.images)) k).2 hk
    exact Option.isSome_iff_exists.1 this
  have hn : (keysOf (rs.flatMap (·.images))).Nodup := by
    unfold keysOf
    exact (List.mergeSort_perm _ _).nodup_iff.2 (nodup_dups _)
  have hg : ∀ k x, bestOf (rs.flatMap (·.images)) k = some x → keyG (bestOf (rs.flatMap (·.images))) k = x := by
    intro k x hx
    unfold keyG
    rw [hx]
    rfl
  rw [plan_eq]
  refine ⟨fun i hi => ?_, ?_⟩
  · obtain ⟨k, hk1, rfl⟩ := List.mem_map.1 hi
    obtain ⟨x, hx⟩ := hk k hk1
    rw [hg k x hx]
    exact h x (best_mem _ k x hx)
  · rw [List.pairwise_map]
    refine hn.imp_of_mem (fun {a b} ha hb hab => ?_)
    obtain ⟨x, hx⟩ := hk a ha
    obtain ⟨y, hy⟩ := hk b hb
    rw [hg a x hx, hg b y hy, best_block _ a x hx, best_block _ b y hy]
    exact hab
theorem cut_arm (D : Dk) (keep : List Int) : (D.arm (-1) []).cut keep = D.cut keep := by
  unfold Dk.cut
  by_cases h : D.on = false
  · rw [if_pos h, if_pos (show (D.arm (-1) []).on = false from h)]
    rfl
  · rw [if_neg h, if_neg (show ¬ (D.arm (-1) []).on = false from h)]
    rfl
theorem Lv.cutted {ims : List Im} {D : Dk} {g : Lg} (h : Lv ims D g) (keep : List Int) : Fin_ (ims.take g.written) (fun H => H = g.first) g.first g.synced (D.cut keep).2.restore ∧ (D.cut keep).2.restore.last = 9 := by
  have h1 := h.run.fin keep
  unfold finD at h1
  rw [cut_arm] at h1
  refine ⟨h1, ?_⟩
  show (D.cut keep).2.last = 9
  rw [(cut_same D keep).2.2.2.2.1]
  exact h.last
theorem calm_admit {D : Dk} (hl : Live D) (ha : D.armed = false) (h9 : D.last = 9) : D.admit (2 : Nat) 50 = (0, { D with table := fun k => if k = 2 then 50 else D.table k, last := 50 }) := by
  unfold Dk.admit
  have hm : D.may ((2 : Nat) : Int) = 0 := by
    unfold Dk.may
    rw [if_neg (by rw [hl.on]; decide), if_neg (by omega)]
  rw [hm, if_neg (by decide), if_neg (by rw [h9]; decide), goes_calm ha]
  rfl
/-- what the law asks -/
structure Whole (ims : List Im) (F S W : Nat) (E : Dk) (again : List Int) : Prop where
  scanE : E.scanE 1 = 0
  at_ : ∀ (n : Nat) r, (E.scan 1)[n]? = some r → ∃ i, ims[F + n - 1]? = some i ∧ r = rcI (F + n) i ∧ F + n ≤ W
  few : (E.scan 1).length ≤ 2
  much : S < F + (E.scan 1).length
  want : Want0 (planOf (E.scan 1))
  admit : (E.admit (2 : Nat) 50).1 = 0
  runE : (runR ((applyR (E.admit (2 : Nat) 50).2 (2 : Nat) 50 (planOf (E.scan 1))).D.cut again).2.restore 1 9 (2 : Nat) 50).e = 0
  loads : ∀ i ∈ planOf (E.scan 1), ∃ y : Im, (runR ((applyR (E.admit (2 : Nat) 50).2 (2 : Nat) 50 (planOf (E.scan 1))).D.cut again).2.restore 1 9 (2 : Nat) 50).D.load i.block = (y, 0) ∧ (y = i ∨ i.ver = 0)
theorem Run2.half_load {D : Dk} {e : Nat} {l : List Im} {hd : List UInt8} {lg : Int → ByteArray} (h : Run2 D e (B2 l hd lg)) (hw : Want0 l) {i : Im} (hi : i ∈ l) : ∃ y : Im, D.load i.block = (y, 0) ∧ (y = i ∨ i.ver = 0) := by
  obtain ⟨hr, hv, hb⟩ := hw.ok i hi
  have hr0 := hr.1
  have hbt : ((i.block.toNat : Nat) : Int) = i.block := by omega
  have hle := load_eq h.live (b := i.block.toNat) (by omega)
  rw [hbt] at hle
  have s0 := ((h.safe.sec h.sane (17 + 2 * i.block)).2.2 i hi).1 rfl
  have s1 := ((h.safe.sec h.sane (17 + 2 * i.block + 1)).2.2 i hi).2 rfl
  by_cases h0 : 0 < i.ver
  · rw [if_pos h0] at s0 s1
    have e1 : getB i.block (str (secL i 0 ++ secL i 1)) = (i, 0) := getB_put hr hv
    rw [s0, s1, str_list, str_list, e1] at hle
    exact ⟨i, hle, .inl rfl⟩
  · rw [if_neg h0] at s0 s1
    rw [s0, s1, str_list, zer_app] at hle
    refine ⟨⟨i.block, 0, str (zer 96)⟩, hle.trans ?_, .inr (by omega)⟩
    unfold getB
    rw [if_neg (by rw [str_size, zer_len]; omega), if_pos rfl]
theorem whole_law {ims : List Im} {D : Dk} {g : Lg} (h : Lv ims D g) (hb : ∀ i ∈ ims, i.block ≤ 9) (keep again : List Int) : Whole ims g.first g.synced g.written (D.cut keep).2.restore again := by
  obtain ⟨hf, hlast⟩ := h.cutted keep
  generalize (D.cut keep).2.restore = E at hf hlast
  have sw := h.sw
  have wn := h.wn
  have f2 := h.f2
  have few := h.few
  have f1 := h.f1
  have htl : (ims.take g.written).length = g.written := by rw [List.length_take]; omega
  obtain ⟨s1, H, rfl, s2, s3, s4, s5⟩ := hf.found (fun i hi => h.fine i (List.mem_of_mem_take hi)) (by rw [htl]; have := h.few60; omega) f1 (by omega) (by omega) (fun H e => by omega)
  have hat : ∀ (n : Nat) r, (E.scan 1)[n]? = some r → ∃ i, ims[g.first + n - 1]? = some i ∧ r = rcI (g.first + n) i ∧ g.first + n ≤ g.written := by
    intro n r hr
    obtain ⟨i, i0, i1⟩ := s3.at_ n r hr
    have := (List.getElem?_eq_some_iff.1 i0).1
    exact ⟨i, tk_sub _ _ i0, i1, by omega⟩
  have hw : Want0 (planOf (E.scan 1)) := by
    refine plan_want0 (fun i hi => ?_)
    obtain ⟨r, hr, hir⟩ := List.mem_flatMap.1 hi
    obtain ⟨n, hn, e⟩ := List.getElem_of_mem hr
    obtain ⟨j, j0, j1, _⟩ := hat n r (by rw [← e]; exact List.getElem?_eq_getElem hn)
    rw [j1] at hir
    rw [List.mem_singleton.1 (show i ∈ [j] from hir)]
    have hj := List.mem_of_getElem? j0
    exact ⟨(h.fine j hj).1, (h.fine j hj).2, hb j hj⟩
  have ht : Tells (headL ⟨9, g.first, ((3 * (g.first - 1) % 7 : Nat) : Int)⟩) E.sec (E.scan 1) := by
    intro G hG g1 g2
    have e0 := head_scan hf.live (H := g.first) f1 (by have := h.few60; omega) s2
    have e1 := head_scan hG (H := g.first) f1 (by have := h.few60; omega) g1
    have er : G.readL 2 7 = E.readL 2 7 := readL_congr (fun j j1 j2 => g2 j j1 (by omega))
    rw [er, ← e0.1] at e1
    exact e1
  have ha := calm_admit hf.live hf.armed hlast
  have hr2 : Run2 (E.admit (2 : Nat) 50).2 50 (B1 (planOf (E.scan 1)) (headL ⟨9, g.first, ((3 * (g.first - 1) % 7 : Nat) : Int)⟩) E.sec) := by
    rw [ha]
    have hsa := hf.sane.any hf.waits ((2 : Nat) : Int)
    have hsa2 : Sane ({ E with table := fun k => if k = 2 then 50 else E.table k, last := 50 } : Dk) ((2 : Nat) : Int) := ⟨hsa.nodes, hsa.now, hsa.chain⟩
    refine ⟨hf.live.on, hf.live.sectors, rfl, hsa2, safe_of_sec hsa2 hf.waits (fun k => ?_)⟩
    refine ⟨fun e => by rw [e]; exact s2, fun _ _ => rfl, fun i hi => ?_⟩
    have hi0 := (hw.ok i hi).1.1
    exact ⟨fun e => .inl ((hf.all k).rest (by omega)), fun e => .inl ((hf.all k).rest (by omega))⟩
  have hwt : (E.admit (2 : Nat) 50).2.waits = [] := by rw [ha]; exact hf.waits
  have har : (E.admit (2 : Nat) 50).2.armed = false := by rw [ha]; exact hf.armed
  generalize hl : planOf (E.scan 1) = l at hw hr2
  have hadm : (E.admit (2 : Nat) 50).1 = 0 := by rw [ha]
  have hrun : (runR ((applyR (E.admit (2 : Nat) 50).2 (2 : Nat) 50 l).D.cut again).2.restore 1 9 (2 : Nat) 50).e = 0 ∧ Run2 (runR ((applyR (E.admit (2 : Nat) 50).2 (2 : Nat) 50 l).D.cut again).2.restore 1 9 (2 : Nat) 50).D 50 (B2 l (headL ⟨9, g.first, ((3 * (g.first - 1) % 7 : Nat) : Int)⟩) E.sec) := by
    generalize (E.admit (2 : Nat) 50).2 = E2 at hr2 hwt har
    rcases applyR_cut0 hw (by decide) hr2 hwt with ⟨x1, _⟩ | ⟨y1, y2, y3, y4, y5⟩
    · rw [har] at x1
      cases x1
    · generalize (applyR E2 (2 : Nat) 50 l).D = T at y2 y3 y4 y5
      have hb1 : Run2 T 50 (B1 l (headL ⟨9, g.first, ((3 * (g.first - 1) % 7 : Nat) : Int)⟩) E.sec) := y2.weak y3 (fun k => b1_of (y2.safe.sec y2.sane k) (fun e => by rw [e]; exact y5))
      obtain ⟨c1, c2, c3⟩ := cut_leaves hb1.sane hb1.safe hb1.on again ((2 : Nat) : Int)
      obtain ⟨d1, d2, d3, d4, d5, d6, d7, d8⟩ := cut_same T again
      generalize (T.cut again).2 = U at c1 c2 c3 d1 d3 d8
      have hu : Run2 U.restore 50 (B1 l (headL ⟨9, g.first, ((3 * (g.first - 1) % 7 : Nat) : Int)⟩) E.sec) := ⟨rfl, d1.trans hb1.sectors, by show U.table 2 = 50; rw [d3]; exact hb1.t2, ⟨c1.nodes, c1.now, c1.chain⟩, ⟨c2.last, c2.wait⟩⟩
      rcases run_cut0 hw (by decide) hu c3 ht hl with ⟨x1, _⟩ | ⟨z1, z2, _⟩
      · have : U.restore.armed = false := d8
        rw [this] at x1
        cases x1
      · exact ⟨z1, z2⟩
  subst hl
  refine ⟨s1, hat, s4, ?_, hw, hadm, hrun.1, fun i hi => hrun.2.half_load hw hi⟩
  by_cases hFS : g.first ≤ g.synced
  · exact s5 hFS
  · omega
end Go.Proofs.YtcmneekdajnnaaaGreatDoor

/- LogEvery, plain: the walk's states, on and off; what is found at the end. -/
namespace Go.Proofs.YtcmneekdajnnaaaGreatDoor
open Go.RowKit

/-- the power has gone: what stands, where first and synced are F and S -/
def Lost (ims : List Im) (D : Dk) (F S : Nat) : Prop := ∃ (hs : Nat → Prop) (F0 : Nat), Off1 D 9 (AA ims hs F0 S) ∧ 1 ≤ F0 ∧ S ≤ ims.length ∧ ims.length < F0 + 2 ∧ (∀ i ∈ ims, Fine i) ∧ ims.length ≤ 100000 ∧ (∀ H, hs H → F0 ≤ H ∧ H ≤ S + 1 ∧ H ≤ F)
/-- a step has been made: the power is on, or it is not -/
def Stp (ims : List Im) (D : Dk) (g : Lg) (F S : Nat) : Prop := (D.on = true ∧ Lv ims D g ∧ F = g.first ∧ S ≤ g.synced) ∨ (D.on = false ∧ Lost ims D F S)
/-- at the loop's head -/
def Hed (ims : List Im) (D : Dk) (g : Lg) (F S : Nat) : Prop := (D.on = true ∧ Lv ims D g ∧ F = g.first ∧ S = g.synced) ∨ (D.on = false ∧ Lost ims D F S)
section
variable {ims : List Im} {D : Dk} {g : Lg} {F S : Nat}
theorem Lv.hed (h : Lv ims D g) : Hed ims D g g.first g.synced := .inl ⟨h.run.on, h, rfl, rfl⟩
theorem Hed.stp (h : Hed ims D g F S) : Stp ims D g F S := by
  rcases h with ⟨a, b, c, d⟩ | h
  · exact .inl ⟨a, b, c, by omega⟩
  · exact .inr h
theorem Lv.lost {D' : Dk} {g : Lg} (h : Lv ims D g) (h2 : Off1 D' 9 (AA ims (fun H => H = g.first) g.first g.synced)) : Lost ims D' g.first g.synced :=
  ⟨_, _, h2, h.f1, Nat.le_trans h.sw h.wn, h.few, h.fine, h.few60, fun H e => by have := h.f2; have e : H = g.first := e; omega⟩
theorem Stp.fall {R : LgR} (h : Lv ims D g) (h2 : Falls ims D g R) : Stp ims R.D R.g g.first g.synced := .inr ⟨h2.2.2.on, h.lost h2.2.2⟩
theorem Stp.go {R : LgR} (h2 : Goes ims D g R) : Stp ims R.D R.g g.first g.synced := .inl ⟨h2.lv.run.on, h2.lv, h2.first.symm, h2.more⟩
theorem stp_write (h : Lv ims D g) : Stp ims (writeR D g).D (writeR D g).g g.first g.synced := by
  rcases h.write with h2 | h2
  · exact Stp.fall h h2
  · exact Stp.go h2.1
theorem stp_sync (h : Lv ims D g) : Stp ims (syncR D g).D (syncR D g).g g.first g.synced := by
  rcases h.sync with h2 | h2
  · exact Stp.fall h h2
  · exact Stp.go h2.1
theorem stp_free (h : Lv ims D g) (b : Nat) : (((freeR D g b).e = 0 ∨ (freeR D g b).e = 14) ∧ Stp ims (freeR D g b).D (freeR D g b).g (max g.first b) g.synced) ∨ ((freeR D g b).e ≠ 0 ∧ (freeR D g b).e ≠ 14 ∧ Stp ims (freeR D g b).D (freeR D g b).g g.first g.synced) := by
  rcases h.free b with ⟨_, e, h1, h2, h3⟩ | e | ⟨e, h1, _, h2, h3⟩
  · refine .inl ⟨.inr e, .inr ⟨h3.on, _, _, h3, h.f1, Nat.le_trans h.sw h.wn, h.few, h.fine, h.few60, fun H e => ?_⟩⟩
    have := h.f2
    rcases (show H = g.first ∨ H = b from e) with e | e
    all_goals omega
  · rw [e]
    exact .inr ⟨show (1 : Int) ≠ 0 by decide, show (1 : Int) ≠ 14 by decide, .inl ⟨h.run.on, h, rfl, Nat.le_refl _⟩⟩
  · exact .inl ⟨.inl e, .inl ⟨h1.run.on, h1, h2.symm, h3⟩⟩
/-- a log that has grown, and one that has not -/
theorem stp_add (h : Lv ims D g) (l : List Im) (hv : ∀ i ∈ l, i.ver < 18446744073709551616) (hN : ims.length < 100000) : (g.addE l ≠ 0 ∧ Stp ims D (g.addG l) g.first g.synced) ∨ ∃ i, l = [i] ∧ g.addE l = 0 ∧ Stp (ims ++ [i]) D (g.addG l) g.first g.synced := by
  rcases h.add l hv hN with ⟨h1, h2⟩ | ⟨i, e, h1, h2⟩
  · rw [h2]
    exact .inl ⟨h1, h.hed.stp⟩
  · have e1 : (g.addG l).first = g.first ∧ (g.addG l).synced = g.synced := by
      unfold Lg.addG
      split
      · exact ⟨rfl, rfl⟩
      · exact ⟨rfl, rfl⟩
    exact .inr ⟨i, e, h1, .inl ⟨h2.run.on, h2, e1.1.symm, by rw [e1.2]; exact Nat.le_refl _⟩⟩
theorem Lv.small (h : Lv ims D g) : g.epoch < 18446744073709551616 ∧ g.next < 18446744073709551616 ∧ g.live.length ≤ 2 ∧ g.used ≤ 6 ∧ g.at_ < 7 ∧ g.base ≤ 1000 ∧ g.synced ≤ 1000000 ∧ Ens g.live := by
  have := h.len
  have := h.few
  have := h.f1
  have := h.f2
  have := h.sw
  have := h.wn
  have := h.few60
  have hu := h.used
  refine ⟨by rw [h.epoch]; omega, by rw [h.next]; omega, by omega, by omega, by rw [h.at_]; omega, by rw [h.base]; omega, by omega, h.ens.1⟩
/-- what Scan tells at the end -/
structure Ended (ims : List Im) (E : Dk) (F S H : Nat) : Prop where
  err : E.scanE 1 = 0
  h1 : 1 ≤ H
  hF : H ≤ F
  found : Found ims H (E.scan 1)
  two : (E.scan 1).length ≤ 2
  all : F ≤ S → S < H + (E.scan 1).length
theorem Found.sub {ims ims' : List Im} {H : Nat} {x : List Rc} (h : Found ims H x) (hs : ∀ (j : Nat) y, ims[j]? = some y → ims'[j]? = some y) : Found ims' H x :=
  ⟨fun n r hr => by obtain ⟨i, e, e2⟩ := h.at_ n r hr; exact ⟨i, hs _ _ e, e2⟩⟩
theorem Hed.ends (h : Hed ims D g F S) (keep : List Int) : ∃ H, Ended ims (finD D keep) F S H := by
  rcases h with ⟨_, hl, rfl, rfl⟩ | ⟨_, hs, F0, hoff, h1, h2, h3, h4, h5, h6⟩
  · have len : (ims.take g.written).length = g.written := by rw [List.length_take]; have := hl.wn; omega
    have f1 := hl.f1
    have f2 := hl.f2
    have sw := hl.sw
    have wn := hl.wn
    have few := hl.few
    have f60 := hl.few60
    obtain ⟨r1, H, r2, r3, r4, r5, r6⟩ := (hl.run.fin keep).found (fun i hi => hl.fine i (List.mem_of_mem_take hi)) (by omega) f1 (by omega) (by omega) (fun H e => by have e : H = g.first := e; omega)
    have r2 : H = g.first := r2
    exact ⟨H, r1, by omega, by omega, r4.sub tk_sub, r5, fun hFS => r6 (by omega)⟩
  · obtain ⟨r1, H, r2, r3, r4, r5, r6⟩ := (hoff.fin keep).found h4 h5 h1 h2 h3 (fun H e => ⟨(h6 H e).1, (h6 H e).2.1⟩)
    have := h6 H r2
    exact ⟨H, r1, by omega, by omega, r4, r5, fun hFS => r6 (by omega)⟩
theorem Hed.len (h : Hed ims D g F S) : ims.length ≤ 100000 ∧ ∀ i ∈ ims, Fine i := by
  rcases h with ⟨_, hl, _, _⟩ | ⟨_, _, _, _, _, _, _, h4, h5, _⟩
  · exact ⟨hl.few60, hl.fine⟩
  · exact ⟨h5, h4⟩
theorem Hed.arm (h : Lv ims D g) (n : Int) (keep : List Int) : Lv ims (D.arm n keep) g :=
  { h with run := ⟨h.run.on, h.run.sectors, h.run.t1, ⟨h.run.sane.nodes, h.run.sane.now, h.run.sane.chain⟩, ⟨h.run.safe.last, h.run.safe.wait⟩⟩ }
end
end Go.Proofs.YtcmneekdajnnaaaGreatDoor
